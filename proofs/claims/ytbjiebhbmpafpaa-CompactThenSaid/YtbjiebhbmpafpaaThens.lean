/- law11.CompactThen, parts: the loop's relation, the two moves. -/
import Derived.Test.YtbjiebhbmpafpaaLogs
import Derived.Test.YtbjiebhbmpafpaaMvThen
namespace Go.Proofs.Ytbjiebhbmpafpaa
open Go.RowKit Go.Shelf
set_option maxRecDepth 100000

theorem thenXs_rising {xs ys : List Nat} (h : Rising xs) (h2 : Rising ys) (hy : ∀ y ∈ ys, y < xs.length) : Rising (thenXs xs ys) := by
  refine ⟨?_, ?_, by simp [thenXs]; exact h2.len⟩
  · unfold thenXs
    rw [List.pairwise_map]
    refine h2.up.imp_of_mem (fun {y z} hyy hzz hlt => ?_)
    have e1 : xs[y]? = some (xs.getD y 0) := by simp [List.getD, List.getElem?_eq_getElem (hy y hyy)]
    have e2 : xs[z]? = some (xs.getD z 0) := by simp [List.getD, List.getElem?_eq_getElem (hy z hzz)]
    exact rising_lt h.up hlt e1 e2
  · intro x hx
    exact h.lt x ((mem_then h.up hy x).1 hx).1
theorem thenXs_lt {xs ys : List Nat} (h : Rising xs) (hy : ∀ y ∈ ys, y < xs.length) {n : Nat} (hx : ∀ x ∈ xs, x < n) : ∀ x ∈ thenXs xs ys, x < n := fun x hm => hx x ((mem_then h.up hy x).1 hm).1
theorem thenXs_length (xs ys : List Nat) : (thenXs xs ys).length = ys.length := by simp [thenXs]
theorem foldl_slots (gs : List Nat) (R : List (Ent × Bool)) : (slotsR (gs.foldl rmR R)).length = R.length := by rw [slotsR_length, foldl_rmR_length]

structure TMv (b13 b16 : Nat) (a : Option Addr) (c k n : Nat) (xs : List Nat) (aN : Option Addr) (cN : Nat) (W : World) : Prop where
  r13 : W.heap[b13]? = some (.cells #[.slice a k c, .int .i64 n] 34 (0, 0))
  r16 : W.heap[b16]? = some (.cells #[.slice aN n cN, .int .i64 k] 40 (0, 0))
  row : U32Row W a c xs
  mv : MvX W aN cN n xs
  len : xs.length = k
  up : Rising xs
  lt : ∀ x ∈ xs, x < n
  n100 : n ≤ 100
theorem TMv.pure {b13 b16 : Nat} {a : Option Addr} {c k n : Nat} {xs : List Nat} {aN : Option Addr} {cN : Nat} {W W' : World} (h : TMv b13 b16 a c k n xs aN cN W) (hq : Pure W W') : TMv b13 b16 a c k n xs aN cN W' :=
  ⟨hq.heap (fun h => h) h.r13, hq.heap (fun h => h) h.r16, owns_mod h.row hq (fun _ _ h => h), h.mv.pure hq, h.len, h.up, h.lt, h.n100⟩
/-- The two moves, in whichever blocks. -/
def ThMid (w : World) (b13 b16 b20 b22 : Nat) (wc : World) : Prop :=
  Pure w wc ∧ ∃ a c k n xs aN cN a' c' k' n' xs' aN' cN', TMv b13 b16 a c k n xs aN cN wc ∧ TMv b20 b22 a' c' k' n' xs' aN' cN' wc

/-- In the loop: a log (made since) and a reference's log (its value in block b15) of the same slots; the first moves. -/
structure ThL (w : World) (q b15 : Nat) (D2 : Nat → Prop) (aL : Option Addr) (cL : Nat) (aG : Option Addr) (cG m : Nat) (Q : List RQ) (W : World) : Prop where
  pu : Pure w W
  log : LogAt W D2 q (slotsR (Q.map absQ))
  r15 : W.heap[b15]? = some (.cells #[.slice aL m cL, .slice aG m cG] 30 (0, 0))
  ref : RefRow W aL cL aG cG Q
  len : Q.length = m
  ap : ∀ g, (Value.slice aL m cL).ownBlock = some g → ¬ D2 g
  dd : ∀ k, D2 k → w.heap.size ≤ k
  hb : w.heap.size ≤ b15
theorem ThL.pure {w : World} {q b15 : Nat} {D2 : Nat → Prop} {aL : Option Addr} {cL : Nat} {aG : Option Addr} {cG m : Nat} {Q : List RQ} {W W' : World} (h : ThL w q b15 D2 aL cL aG cG m Q W) (hq : Pure W W') : ThL w q b15 D2 aL cL aG cG m Q W' :=
  ⟨h.pu.trans hq, h.log.pure hq, hq.heap (fun h => h) h.r15, h.ref.pure hq, h.len, h.ap, h.dd, h.hb⟩
/-- A round: the log has turned, then the reference's new log is stored. -/
theorem thl_step {w W w5 w6 W7 : World} {q b15 : Nat} {D2 : Nat → Prop} {aL aG aL2 aG2 : Option Addr} {cL cG cL2 cG2 m m2 : Nat} {Q Q2 : List RQ} {L' : List (Option Ent)}
    (h : ThL w q b15 D2 aL cL aG cG m Q W) (hm : Mod D2 W w5) (hl : LogAt w5 D2 q L') (hp : Pure w5 w6) (hR : RefRow w6 aL2 cL2 aG2 cG2 Q2) (hf : ∀ g, (Value.slice aL2 m2 cL2).ownBlock = some g → ¬ D2 g) (hm2 : Q2.length = m2)
    (hL : L' = slotsR (Q2.map absQ)) (hW : W7 = (w6.setCell ⟨b15, 0, none⟩ (.slice aL2 m2 cL2)).setCell ⟨b15, 1, none⟩ (.slice aG2 m2 cG2)) :
    ThL w q b15 D2 aL2 cL2 aG2 cG2 m2 Q2 W7 ∧ Mod (fun i => D2 i ∨ i = b15) W W7 := by
  subst hW hL
  have hms : Mod (fun i => i = b15) w6 ((w6.setCell ⟨b15, 0, none⟩ (.slice aL2 m2 cL2)).setCell ⟨b15, 1, none⟩ (.slice aG2 m2 cG2)) := Mod.set2 _ _ _ _ _
  have r5 := h.log.box hm h.r15 (by decide) (by decide)
  have r6 := hp.heap (fun h => h) r5
  have hl6 := hl.pure hp
  have hn := hl6.notin r6 (by decide) (by decide)
  refine ⟨⟨((h.pu.then hm (fun i hi hd => by have := h.dd i hd; omega)).trans hp).then hms (fun i hi e => by have := h.hb; omega),
    hl6.frame hms (fun k hk e => hn (e ▸ hk)) (fun k _ e cs fz e2 => by subst e; rw [r6] at e2; cases e2), heap_set12 r6, hR.modT hms (fun i hi _ => by subst hi; exact ⟨_, _, r6⟩), hm2, hf, h.dd, h.hb⟩, ?_⟩
  exact ((hm.mono (fun _ _ h => .inl h)).then hp (fun _ _ h => h.elim)).then hms (fun i hi e => .inr e)
theorem TMv.mod {b13 b16 : Nat} {a : Option Addr} {c k n : Nat} {xs : List Nat} {aN : Option Addr} {cN : Nat} {W W' : World} {q : Nat} {D2 : Nat → Prop} {L : List (Option Ent)} {b15 : Nat} {u0 u1 : Value} (h : TMv b13 b16 a c k n xs aN cN W) (hl : LogAt W D2 q L)
    (r15 : W.heap[b15]? = some (.cells #[u0, u1] 30 (0, 0))) (hm : Mod (fun i => D2 i ∨ i = b15) W W') : TMv b13 b16 a c k n xs aN cN W' := by
  have hS : ∀ (T : Nat), T ≠ 107 → T ≠ 48 → 30 ≠ T → ∀ (i : Nat), (D2 i ∨ i = b15) → i < W.heap.size → ∀ cs fz, W.heap[i]? ≠ some (.cells cs T fz) := fun T h1 h2 h3 i hi _ cs fz e => by
    rcases hi with hd | rfl
    · exact hl.notin e h1 h2 hd
    · rw [r15] at e; cases e; exact h3 rfl
  have hh : ∀ {T : Nat} {b : Nat} {cs : Array Value}, T ≠ 107 → T ≠ 48 → 30 ≠ T → W.heap[b]? = some (.cells cs T (0, 0)) → W'.heap[b]? = some (.cells cs T (0, 0)) := fun h1 h2 h3 e => hm.heap (fun hd => hS _ h1 h2 h3 _ hd (lt_of_block e) _ _ e) e
  have ho : ∀ {T k n : Nat} {v : Value} {xs : List Value}, T ≠ 107 → T ≠ 48 → 30 ≠ T → W.ownsRow 0 T k v n xs → W'.ownsRow 0 T k v n xs := fun h1 h2 h3 e => owns_mod e hm (fun g hg hd => by
    obtain ⟨c, e'⟩ := owns_type e hg
    exact hS _ h1 h2 h3 _ hd (lt_of_block e') _ _ e')
  exact ⟨hh (by decide) (by decide) (by decide) h.r13, hh (by decide) (by decide) (by decide) h.r16, ho (by decide) (by decide) (by decide) h.row, ho (by decide) (by decide) (by decide) h.mv, h.len, h.up, h.lt, h.n100⟩
theorem th_swap {w W : World} {b13 b16 b20 b22 : Nat} {a a' : Option Addr} {c k n c' k' n' : Nat} {xs xs' : List Nat} {aN aN' : Option Addr} {cN cN' : Nat} (pu : Pure w W) (hA : TMv b13 b16 a c k n xs aN cN W) (hB : TMv b20 b22 a' c' k' n' xs' aN' cN' W)
    (h0 : w.heap.size ≤ b13) (h1 : b13 < b16) (h2 : b16 < b20) (h3 : b20 < b22) :
    ThMid w b13 b16 b20 b22 ((((((((W.setCell ⟨b13, 0, none⟩ (.slice a' k' c')).setCell ⟨b13, 1, none⟩ (.int .i64 n')).setCell ⟨b20, 0, none⟩ (.slice a k c)).setCell ⟨b20, 1, none⟩ (.int .i64 n)).setCell ⟨b16, 0, none⟩ (.slice aN' n' cN')).setCell ⟨b16, 1, none⟩ (.int .i64 k')).setCell ⟨b22, 0, none⟩ (.slice aN n cN)).setCell ⟨b22, 1, none⟩ (.int .i64 k)).drew := by
  have m1 : Mod (fun i => i = b13) W ((W.setCell ⟨b13, 0, none⟩ (.slice a' k' c')).setCell ⟨b13, 1, none⟩ (.int .i64 n')) := Mod.set2 _ _ _ _ _
  have r13 := heap_set12 (v0 := .slice a' k' c') (v1 := .int .i64 n') hA.r13
  have r16 := m1.heap (by omega) hA.r16; have r20 := m1.heap (by omega) hB.r13; have r22 := m1.heap (by omega) hB.r16
  generalize (W.setCell ⟨b13, 0, none⟩ (.slice a' k' c')).setCell ⟨b13, 1, none⟩ (.int .i64 n') = W1 at *
  have m2 : Mod (fun i => i = b20) W1 ((W1.setCell ⟨b20, 0, none⟩ (.slice a k c)).setCell ⟨b20, 1, none⟩ (.int .i64 n)) := Mod.set2 _ _ _ _ _
  replace r20 := heap_set12 (v0 := .slice a k c) (v1 := .int .i64 n) r20
  replace r13 := m2.heap (by omega) r13; replace r16 := m2.heap (by omega) r16; replace r22 := m2.heap (by omega) r22
  generalize (W1.setCell ⟨b20, 0, none⟩ (.slice a k c)).setCell ⟨b20, 1, none⟩ (.int .i64 n) = W2 at *
  have m3 : Mod (fun i => i = b16) W2 ((W2.setCell ⟨b16, 0, none⟩ (.slice aN' n' cN')).setCell ⟨b16, 1, none⟩ (.int .i64 k')) := Mod.set2 _ _ _ _ _
  replace r16 := heap_set12 (v0 := .slice aN' n' cN') (v1 := .int .i64 k') r16
  replace r13 := m3.heap (by omega) r13; replace r20 := m3.heap (by omega) r20; replace r22 := m3.heap (by omega) r22
  generalize (W2.setCell ⟨b16, 0, none⟩ (.slice aN' n' cN')).setCell ⟨b16, 1, none⟩ (.int .i64 k') = W3 at *
  have m4 : Mod (fun i => i = b22) W3 (((W3.setCell ⟨b22, 0, none⟩ (.slice aN n cN)).setCell ⟨b22, 1, none⟩ (.int .i64 k)).drew) := (Mod.set2 _ _ _ _ _).drew
  replace r22 := heap_set12 (v0 := .slice aN n cN) (v1 := .int .i64 k) r22
  replace r22 := ((Mod.refl (fun _ => False) _).drew).heap (fun h => h) r22
  replace r13 := m4.heap (by omega) r13; replace r20 := m4.heap (by omega) r20; replace r16 := m4.heap (by omega) r16
  generalize ((W3.setCell ⟨b22, 0, none⟩ (.slice aN n cN)).setCell ⟨b22, 1, none⟩ (.int .i64 k)).drew = W4 at *
  have hm : Mod (fun i => i = b13 ∨ i = b20 ∨ i = b16 ∨ i = b22) W W4 :=
    (((m1.mono (fun _ _ h => .inl h)).then m2 (fun _ _ h => .inr (.inl h))).then m3 (fun _ _ h => .inr (.inr (.inl h)))).then m4 (fun _ _ h => .inr (.inr (.inr h)))
  have hS : ∀ (T : Nat), 34 ≠ T → 40 ≠ T → ∀ i, (i = b13 ∨ i = b20 ∨ i = b16 ∨ i = b22) → i < W.heap.size → ∃ cs T' fz, W.heap[i]? = some (.cells cs T' fz) ∧ T' ≠ T := fun T t1 t2 i hi _ => by
    rcases hi with rfl | rfl | rfl | rfl
    · exact ⟨_, _, _, hA.r13, t1⟩
    · exact ⟨_, _, _, hB.r13, t1⟩
    · exact ⟨_, _, _, hA.r16, t2⟩
    · exact ⟨_, _, _, hB.r16, t2⟩
  refine ⟨pu.then hm (fun i hi h => by omega), a', c', k', n', xs', aN', cN', a, c, k, n, xs, aN, cN, ⟨r13, r16, ?_, ?_, hB.len, hB.up, hB.lt, hB.n100⟩, ⟨r20, r22, ?_, ?_, hA.len, hA.up, hA.lt, hA.n100⟩⟩
  · exact owns_modT hB.row hm (hS _ (by decide) (by decide))
  · exact owns_modT hB.mv hm (hS _ (by decide) (by decide))
  · exact owns_modT hA.row hm (hS _ (by decide) (by decide))
  · exact owns_modT hA.mv hm (hS _ (by decide) (by decide))
theorem ThenC {w : World} {a a2 : Option Addr} {c c2 k k2 : Nat} {xs ys : List Nat} (h : U32Row w a c xs) (h2 : U32Row w a2 c2 ys) (n n2 : Nat) (hr : Rising xs) (hr2 : Rising ys) (hy : ∀ y ∈ ys, y < xs.length) (hk : xs.length = k) (hk2 : ys.length = k2) (hn2 : k = n2) :
    Calls Try.prog 22 #[.agg #[.slice a k c, .int .i64 n], .agg #[.slice a2 k2 c2, .int .i64 n2]] w fun e w' =>
      ∃ a' c', e = .returned (.tuple #[.agg #[.slice a' k2 c', .int .i64 n], .int .i64 0]) ∧ U32Row w' a' c' (thenXs xs ys) ∧ Pure w w' := by
  subst hk hk2 hn2
  refine Calls.mono (Then_ok h h2 n hy hr2.len hr.lt hr.len) ?_
  rintro e w' ⟨a', c', rfl, h1, _, h3⟩
  exact ⟨a', c', rfl, h1, h3⟩
theorem ref_ThenC {w : World} {a a2 : Option Addr} {c c2 n n2 k k2 : Nat} {xs ys : List Nat} (h : MvX w a c n xs) (h2 : MvX w a2 c2 n2 ys) (hr : Rising xs) (hr2 : Rising ys) (hx : ∀ x ∈ xs, x < n) (hy : ∀ y ∈ ys, y < xs.length) (hn : n ≤ 100) (hk : xs.length = k) (hk2 : ys.length = k2) (hn2 : k = n2) :
    Calls Try.prog 23 #[.agg #[.slice a n c, .int .i64 k], .agg #[.slice a2 n2 c2, .int .i64 k2]] w fun e w' =>
      ∃ a' c', e = .returned (.tuple #[.agg #[.slice a' n c', .int .i64 k2], .int .i64 0]) ∧ MvX w' a' c' n (thenXs xs ys) ∧ Pure w w' := by
  subst hk2 hn2
  rw [← hk] at h2 ⊢
  exact ref_Then_ok h h2 _ hr hx rfl hy (by omega) hr2.len
theorem ref_RemoveR {w : World} {aL : Option Addr} {cL : Nat} {aG : Option Addr} {cG m : Nat} {Q : List RQ} (h : RefRow w aL cL aG cG Q) (hm : Q.length = m) (s : Nat) (hs : s ≤ 4294967295) (D : Nat → Prop) (hD : ∀ k, D k → k < w.heap.size) (hA : ∀ g, (Value.slice aL m cL).ownBlock = some g → ¬ D g) :
    Calls Try.prog 21 #[.agg #[.slice aL m cL, .slice aG m cG], .int .u32 s] w fun e w' => ∃ aL' cL' aG' cG' Q' v f, e = .returned (.tuple #[.agg #[.slice aL' m cL', .slice aG' m cG'], v, .int .i64 f]) ∧ Q'.length = m ∧ Q'.map absQ = rmR (Q.map absQ) s ∧ RefRow w' aL' cL' aG' cG' Q' ∧
      (∀ g, (Value.slice aL' m cL').ownBlock = some g → ¬ D g) ∧ Pure w w' := by
  subst hm
  by_cases hh : ∃ x, (Q.map absQ)[s]? = some (x, false)
  · obtain ⟨x, hx⟩ := hh
    obtain ⟨v, hq⟩ := absQ_get hx
    refine Calls.mono (ref_Remove_hit h s hs x v hq) ?_
    rintro e w' ⟨aL', cL', aG', cG', Q', rfl, h1, h2, h3, h4, h5⟩
    have hl : Q'.length = Q.length := by have := congrArg List.length h1; simpa using this
    refine ⟨aL', cL', aG', cG', Q', _, _, by rw [hl], hl, by rw [h1, rmR_hit hx], h2, fun g hg hd => ?_, h5⟩
    rw [← hl] at hg
    have := h3 g hg
    have := hD g hd
    omega
  · have hmiss : ∀ x, (Q.map absQ)[s]? ≠ some (x, false) := fun x hx => hh ⟨x, hx⟩
    refine Calls.mono (ref_Remove_miss h s hs (hasQ_miss rfl hmiss)) ?_
    rintro e w' ⟨rfl, hp⟩
    exact ⟨aL, cL, aG, cG, Q, _, _, rfl, rfl, by rw [rmR_miss hmiss], h.pure hp, hA, hp⟩
theorem removeR {w : World} {D : Nat → Prop} {p : Nat} {R : List (Ent × Bool)} (h : LogAt w D p (slotsR R)) (s : Nat) (hs : s ≤ 4294967295) : Calls Try.prog 20 #[logPtr p, .int .u32 s] w fun e w' => (∃ v, e = .returned v) ∧ LogAt w' D p (slotsR (rmR R s)) ∧ Mod D w w' := by
  by_cases hh : ∃ x, R[s]? = some (x, false)
  · obtain ⟨x, hx⟩ := hh
    refine Calls.mono (removeA_ok h s x (slotsR_get hx)) ?_
    rintro e w' ⟨a, n, c, rfl, _, _, h1, h2⟩
    exact ⟨⟨_, rfl⟩, by rw [rmR_hit hx, slotsR_set]; exact h1, h2⟩
  · have hmiss : ∀ x, R[s]? ≠ some (x, false) := fun x hx => hh ⟨x, hx⟩
    refine Calls.mono (removeMissA_ok h s hs (slotsR_miss hmiss)) ?_
    rintro e w' ⟨rfl, hp⟩
    exact ⟨⟨_, rfl⟩, by rw [rmR_miss hmiss]; exact h.pure hp, Mod.of_pure hp⟩
theorem nil_rowU (w : World) : U32Row w none 0 [] := World.ownsRow_nil _ _ _ _
theorem moves_trueT {b13 b16 : Nat} {a : Option Addr} {c k n : Nat} {xs : List Nat} {aN : Option Addr} {cN : Nat} {W : World} (h : TMv b13 b16 a c k n xs aN cN W) :
    Calls Try.prog 24 #[.agg #[.slice a k c, .int .i64 n], .agg #[.slice aN n cN, .int .i64 k]] W fun e w' => e = .returned (.bool true) ∧ Pure W w' :=
  moves_trueC h.row h.up h.mv (by have := h.n100; omega) h.lt k h.len
end Go.Proofs.Ytbjiebhbmpafpaa
