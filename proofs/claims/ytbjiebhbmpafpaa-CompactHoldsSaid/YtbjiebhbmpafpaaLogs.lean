/- law11.CompactLogs, walked: it answers true. Condition: the slot numbers are read. -/
import Derived.Test.YtbjiebhbmpafpaaSame
import Derived.Test.YtbjiebhbmpafpaaLawMv
import Derived.Test.YtbjiebhbmpafpaaRefLog
import Derived.Test.YtbjiebhbmpafpaaKnown
namespace Go.Proofs.Ytbjiebhbmpafpaa
open Go.RowKit Go.Shelf
set_option maxRecDepth 100000

theorem setA_any {w : World} {D : Nat → Prop} {p : Nat} {L : List (Option Ent)} (h : LogAt w D p L) (i : Nat) (hu : i ≤ 4294967295) : Calls Try.prog 34 #[logPtr p, .int .u32 i, .slice none 0 0, .int .u64 0] w fun e w' => (∃ v, e = .returned v) ∧ (∃ L', LogAt w' D p L') ∧ Mod D w w' := by
  obtain ⟨sv, M, rfl, h⟩ := h
  cases e : M[i]? with
  | none =>
    refine Calls.mono (Set_miss h hu (by unfold slotOf; rw [e]; rfl) _ _) ?_
    rintro e w' ⟨rfl, hp⟩
    exact ⟨⟨_, rfl⟩, ⟨_, (h.pure hp).toAt⟩, Mod.of_pure hp⟩
  | some m =>
    obtain ⟨o, v⟩ := m
    cases o with
    | none =>
      refine Calls.mono (Set_miss h hu (by unfold slotOf; rw [e]; rfl) _ _) ?_
      rintro e w' ⟨rfl, hp⟩
      exact ⟨⟨_, rfl⟩, ⟨_, (h.pure hp).toAt⟩, Mod.of_pure hp⟩
    | some x =>
      refine Calls.mono (Set_hit h e none 0 0 [] (ReadAt.nil _ _) (by simp) 0) ?_
      rintro e w' ⟨rfl, v', h1, h2⟩
      exact ⟨⟨_, rfl⟩, ⟨_, h1.toAt⟩, h2⟩
theorem removeA_any {w : World} {D : Nat → Prop} {p : Nat} {L : List (Option Ent)} (h : LogAt w D p L) (i : Nat) (hu : i ≤ 4294967295) : Calls Try.prog 20 #[logPtr p, .int .u32 i] w fun e w' => (∃ v, e = .returned v) ∧ (∃ L', LogAt w' D p L') ∧ Mod D w w' := by
  by_cases hx : ∃ x, L[i]? = some (some x)
  · obtain ⟨x, hx⟩ := hx
    refine Calls.mono (removeA_ok h i x hx) ?_
    rintro e w' ⟨a, n, c, rfl, _, _, h1, h2⟩
    exact ⟨⟨_, rfl⟩, ⟨_, h1⟩, h2⟩
  · refine Calls.mono (removeMissA_ok h i hu (fun x hh => hx ⟨x, hh⟩)) ?_
    rintro e w' ⟨rfl, hp⟩
    exact ⟨⟨_, rfl⟩, ⟨_, h.pure hp⟩, Mod.of_pure hp⟩
theorem compactC {w : World} {D : Nat → Prop} {p : Nat} {L : List (Option Ent)} (h : LogAt w D p L) (xs : List Nat) (n k : Nat) (hx : olds L = xs) (hn : L.length = n) (hk : xs.length = k) :
    Calls Try.prog 18 #[logPtr p] w fun e w' => ∃ q a c D, e = .returned (.tuple #[logPtr q, .agg #[.slice a k c, .int .i64 n], .int .i64 0]) ∧ LogAt w' D q (packed L) ∧ U32Row w' a c xs ∧ Pure w w' ∧ (∀ k, D k → w.heap.size ≤ k) := by
  subst hx hn hk
  refine Calls.mono (compactA_ok h) ?_
  rintro e w' ⟨q, a, c, D, rfl, h1, h2, h3, h4, _⟩
  exact ⟨q, a, c, D, rfl, h1, h2, h3, h4⟩

structure CLs (w : World) (p b6 : Nat) (D : Nat → Prop) (aL : Option Addr) (cL : Nat) (aG : Option Addr) (cG n : Nat) (Q : List RQ) (W : World) : Prop where
  pu : Pure w W
  log : LogAt W D p (slotsR (Q.map absQ))
  r6 : W.heap[b6]? = some (.cells #[.slice aL n cL, .slice aG n cG] 30 (0, 0))
  ref : RefRow W aL cL aG cG Q
  len : Q.length = n
  ap : ∀ g, (Value.slice aL n cL).ownBlock = some g → ¬ D g
  dd : ∀ k, D k → w.heap.size ≤ k
theorem CLs.pure {w : World} {p b6 : Nat} {D : Nat → Prop} {aL : Option Addr} {cL : Nat} {aG : Option Addr} {cG n : Nat} {Q : List RQ} {W W' : World} (h : CLs w p b6 D aL cL aG cG n Q W) (hq : Pure W W') : CLs w p b6 D aL cL aG cG n Q W' :=
  ⟨h.pu.trans hq, h.log.pure hq, hq.heap (fun h => h) h.r6, h.ref.pure hq, h.len, h.ap, h.dd⟩
structure CLx (q b9 : Nat) (D2 : Nat → Prop) (L : List (Option Ent)) (a : Option Addr) (c k n : Nat) (xs : List Nat) (W : World) : Prop where
  log : LogAt W D2 q L
  r9 : W.heap[b9]? = some (.cells #[.slice a k c, .int .i64 n] 34 (0, 0))
  row : U32Row W a c xs
  len : xs.length = k
theorem CLx.pure {q b9 : Nat} {D2 : Nat → Prop} {L : List (Option Ent)} {a : Option Addr} {c k n : Nat} {xs : List Nat} {W W' : World} (h : CLx q b9 D2 L a c k n xs W) (hq : Pure W W') : CLx q b9 D2 L a c k n xs W' :=
  ⟨h.log.pure hq, hq.heap (fun h => h) h.r9, owns_mod h.row hq (fun _ _ h => h), h.len⟩
structure CLy (b11 b12 : Nat) (aL : Option Addr) (cL : Nat) (aG : Option Addr) (cG m : Nat) (Q : List RQ) (aN : Option Addr) (cN n : Nat) (xs : List Nat) (k : Nat) (W : World) : Prop where
  r11 : W.heap[b11]? = some (.cells #[.slice aL m cL, .slice aG m cG] 30 (0, 0))
  ref : RefRow W aL cL aG cG Q
  len : Q.length = m
  r12 : W.heap[b12]? = some (.cells #[.slice aN n cN, .int .i64 k] 40 (0, 0))
  mv : MvX W aN cN n xs
theorem CLy.pure {b11 b12 : Nat} {aL : Option Addr} {cL : Nat} {aG : Option Addr} {cG m : Nat} {Q : List RQ} {aN : Option Addr} {cN n : Nat} {xs : List Nat} {k : Nat} {W W' : World} (h : CLy b11 b12 aL cL aG cG m Q aN cN n xs k W) (hq : Pure W W') : CLy b11 b12 aL cL aG cG m Q aN cN n xs k W' :=
  ⟨hq.heap (fun h => h) h.r11, h.ref.pure hq, h.len, hq.heap (fun h => h) h.r12, h.mv.pure hq⟩
theorem cls_beside {w : World} {p b6 q : Nat} {D D2 : Nat → Prop} {aL : Option Addr} {cL : Nat} {aG : Option Addr} {cG n : Nat} {Q : List RQ} {W W' : World} {L : List (Option Ent)} (h : CLs w p b6 D aL cL aG cG n Q W) (k : LogAt W D2 q L) (hm : Mod D2 W W')
    (hdd : ∀ i, D i → ¬ D2 i) (hda : ∀ g, (Value.slice aL n cL).ownBlock = some g → ¬ D2 g) (hdw : ∀ i, D2 i → w.heap.size ≤ i) : CLs w p b6 D aL cL aG cG n Q W' :=
  ⟨h.pu.then hm (fun i hi h => by have := hdw i h; omega), h.log.beside k hm hdd, k.box hm h.r6 (by decide) (by decide), h.ref.beside k hm (by rw [h.len]; exact hda), h.len, h.ap, h.dd⟩
theorem ref_LogC {w : World} {aL : Option Addr} {cL : Nat} {aG : Option Addr} {cG : Nat} {Q : List RQ} (h : RefRow w aL cL aG cG Q) (n : Nat) (hn : Q.length = n) (xs : List Nat) (k : Nat) (hx : olds (slotsR (Q.map absQ)) = xs) (hk : xs.length = k) :
    Calls Try.prog 19 #[.agg #[.slice aL n cL, .slice aG n cG]] w fun e w' => ∃ aL' cL' aG' cG' m Q' aN cN, e = .returned (.tuple #[.agg #[.slice aL' m cL', .slice aG' m cG'], .agg #[.slice aN n cN, .int .i64 k]]) ∧ Q'.length = m ∧ Q'.map absQ = packR (Q.map absQ) ∧ RefRow w' aL' cL' aG' cG' Q' ∧ MvX w' aN cN n xs ∧ Fresh w (.slice aL' m cL') ∧ Pure w w' := by
  subst hn hx hk
  refine Calls.mono (ref_Log_any h) ?_
  rintro e w' ⟨aL', cL', aG', cG', Q', aN, cN, rfl, h1, h2, h3, h4, h5⟩
  exact ⟨aL', cL', aG', cG', Q'.length, Q', aN, cN, rfl, rfl, h1, h2, h3, h4, h5⟩
theorem same_trueC {w : World} {D : Nat → Prop} {p : Nat} {aL : Option Addr} {cL : Nat} {aG : Option Addr} {cG : Nat} {Q : List RQ} {L : List (Option Ent)} (h : LogAt w D p L) (hR : RefRow w aL cL aG cG Q) (n : Nat) (hn : Q.length = n) (hL : L = slotsR (Q.map absQ)) :
    Calls Try.prog 33 #[logPtr p, .agg #[.slice aL n cL, .slice aG n cG]] w fun e w' => e = .returned (.bool true) ∧ Pure w w' := by
  subst hn hL
  exact same_true h hR
theorem moves_trueC {w : World} {a a2 : Option Addr} {c c2 n : Nat} {xs : List Nat} (h : U32Row w a c xs) (hr : Rising xs) (h2 : MvX w a2 c2 n xs) (hn : n ≤ 4194300) (hx : ∀ x ∈ xs, x < n) (k : Nat) (hk : xs.length = k) :
    Calls Try.prog 24 #[.agg #[.slice a k c, .int .i64 n], .agg #[.slice a2 n c2, .int .i64 k]] w fun e w' => e = .returned (.bool true) ∧ Pure w w' := by
  subst hk
  exact moves_true h hr h2 hn hx
end Go.Proofs.Ytbjiebhbmpafpaa
