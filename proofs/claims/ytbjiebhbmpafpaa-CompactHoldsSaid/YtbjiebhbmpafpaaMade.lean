/- law11.made: the log and the reference's log of n entries without those of some slots. Conditions: 0 ≤ n ≤ 100, at most 100 slots, which are read. -/
import Derived.Test.YtbjiebhbmpafpaaSet
import Derived.Test.YtbjiebhbmpafpaaRefEq
import Derived.Test.YtbjiebhbmpafpaaRef9e
import Derived.Test.YtbjiebhbmpafpaaMv
namespace Go.Proofs.Ytbjiebhbmpafpaa
open Go.RowKit Go.Shelf
set_option maxRecDepth 100000

/-! ### plain -/
def mkE (i : Nat) : Ent := ⟨⟨#[UInt8.ofNat i]⟩, [UInt8.ofNat i, 7], i, i + 1⟩
theorem mkE_ok (i : Nat) : (mkE i).Ok := ⟨by show 0 < 1; omega, by show 1 ≤ 250; omega, by show 2 ≤ 65536; omega, by show (0 : Int) < (i : Int) + 1; omega⟩
def baseR (n : Nat) : List (Ent × Bool) := (List.range n).map (fun i => (mkE i, false))
theorem baseR_succ (n : Nat) : baseR (n + 1) = baseR n ++ [(mkE n, false)] := by simp [baseR, List.range_succ]
theorem baseR_length (n : Nat) : (baseR n).length = n := by simp [baseR]
def rmR (R : List (Ent × Bool)) (s : Nat) : List (Ent × Bool) := match R[s]? with
  | some (x, false) => R.set s (x, true)
  | _ => R
theorem rmR_length (R : List (Ent × Bool)) (s : Nat) : (rmR R s).length = R.length := by
  unfold rmR; split <;> simp
def madeR (n : Nat) (gs : List Nat) : List (Ent × Bool) := gs.foldl rmR (baseR n)
theorem foldl_rmR_length (gs : List Nat) : ∀ R, (gs.foldl rmR R).length = R.length := by
  induction gs with
  | nil => intro R; rfl
  | cons g gs ih => intro R; rw [List.foldl_cons, ih, rmR_length]
theorem madeR_length (n : Nat) (gs : List Nat) : (madeR n gs).length = n := by rw [madeR, foldl_rmR_length, baseR_length]
theorem slotsR_snoc (R : List (Ent × Bool)) (x : Ent) : slotsR (R ++ [(x, false)]) = slotsR R ++ [some x] := by simp [slotsR]
theorem slotsR_set (R : List (Ent × Bool)) (s : Nat) (x : Ent) : slotsR (R.set s (x, true)) = (slotsR R).set s none := by
  unfold slotsR; rw [List.map_set]; rfl
theorem slotsR_get {R : List (Ent × Bool)} {s : Nat} {x : Ent} (h : R[s]? = some (x, false)) : (slotsR R)[s]? = some (some x) := by
  unfold slotsR; rw [List.getElem?_map, h]; rfl
theorem absQ_get {Q : List RQ} {s : Nat} {x : Ent} {g : Bool} (h : (Q.map absQ)[s]? = some (x, g)) : ∃ v, Q[s]? = some (x, v, g) := by
  rw [List.getElem?_map] at h
  cases e : Q[s]? with
  | none => rw [e] at h; cases h
  | some q =>
    rw [e] at h
    obtain ⟨y, v, g'⟩ := q
    cases h
    exact ⟨v, rfl⟩
theorem take_foldl {gs : List Nat} {j s : Nat} (h : gs[j]? = some s) (R : List (Ent × Bool)) : (gs.take (j + 1)).foldl rmR R = rmR ((gs.take j).foldl rmR R) s := by
  rw [List.take_add_one, h, List.foldl_append]; rfl

/-! ### in memory -/
/-- A slice that came in and is read, by its block and its place in it. -/
theorem ReadAt.place {w : World} {a : Option Addr} {n c : Nat} {xs : List Value} (h : ReadAt w (.slice a n c) 1 xs) (hn : 0 < n) :
    ∃ b off, a = some ⟨b, off, none⟩ ∧ b < w.heap.size ∧ ∀ j u, xs[j]? = some u → w.cell? ⟨b, off + j, none⟩ = some u := by
  obtain ⟨a', n', c', he, hl, _, h0, hc⟩ := h
  cases he
  cases a with
  | none => have := h0 rfl; omega
  | some ad =>
    obtain ⟨b, off, spot⟩ := ad
    have hx : 0 < xs.length := by omega
    have h1 := hc _ rfl 0 _ (List.getElem?_eq_getElem hx)
    have hs : spot = none := by
      cases spot with
      | none => rfl
      | some s =>
        simp only [Addr.add, World.cell?] at h1
        split at h1 <;> simp at h1
    subst hs
    refine ⟨b, off, rfl, World.block_lt_of_cell? w ⟨b, off, none⟩ (by simpa [Addr.add] using h1), fun j u hu => ?_⟩
    have := hc _ rfl j u hu
    unfold Addr.add at this
    split at this
    · rename_i hj; subst hj; exact this
    · exact this
theorem RefRow.beside {w w' : World} {S : Nat → Prop} {q : Nat} {K : List (Option Ent)} {aL : Option Addr} {cL : Nat} {aG : Option Addr} {cG : Nat} {Q : List RQ} (h : RefRow w aL cL aG cG Q) (k : LogAt w S q K) (hm : Mod S w w')
    (hA : ∀ g, (Value.slice aL Q.length cL).ownBlock = some g → ¬ S g) : RefRow w' aL cL aG cG Q :=
  ⟨owns_mod h.L hm hA, k.owns hm h.G (by decide) (by decide), fun q hq => k.owns hm (h.vals q hq) (by decide) (by decide), h.ok, h.len⟩
theorem LogAt.notin {w : World} {D : Nat → Prop} {p : Nat} {L : List (Option Ent)} (h : LogAt w D p L) {b : Nat} {cs : Array Value} {T : TypeId} {fz : Nat × Nat} (hb : w.heap[b]? = some (.cells cs T fz)) (h1 : T ≠ 107) (h2 : T ≠ 48) : ¬ D b := fun hd => by
  rcases h.types hd hb with e | e
  · exact h1 e
  · exact h2 e

/-- A log and a reference's log (its value in block b8) of the same slots; the result's block. -/
structure MdInv (w : World) (p b8 : Nat) (R : List (Ent × Bool)) (wr : World) : Prop where
  pu : Pure w wr
  r5 : wr.heap[w.heap.size]? = some (.cells #[.slice none 0 0, .slice none 0 0] 30 (0, 0))
  hb : w.heap.size < b8
  ex : ∃ D aL cL aG cG Q, LogAt wr D p (slotsR R) ∧ (∀ k, D k → w.heap.size < k) ∧ Q.map absQ = R ∧ wr.heap[b8]? = some (.cells #[.slice aL Q.length cL, .slice aG Q.length cG] 30 (0, 0)) ∧ RefRow wr aL cL aG cG Q ∧
    (∀ g, (Value.slice aL Q.length cL).ownBlock = some g → ¬ D g)
theorem MdInv.pure {w : World} {p b8 : Nat} {R : List (Ent × Bool)} {wr wr' : World} (h : MdInv w p b8 R wr) (hq : Pure wr wr') : MdInv w p b8 R wr' := by
  obtain ⟨pu, r5, hb, D, aL, cL, aG, cG, Q, h1, h2, h3, h4, h5, h6⟩ := h
  exact ⟨pu.trans hq, hq.heap (fun h => h) r5, hb, D, aL, cL, aG, cG, Q, h1.pure hq, h2, h3, hq.heap (fun h => h) h4, h5.pure hq, h6⟩
/-- Behind the two calls: the reference's result (rows of Q2, made since W) is stored into b8, the log has turned by a call of its own. -/
theorem md_step {w W w2 w3 : World} {p b8 : Nat} {R2 : List (Ent × Bool)} {D : Nat → Prop} {aL2 aG2 : Option Addr} {cL2 cG2 : Nat} {Q2 : List RQ} {L : List (Option Ent)} {u0 u1 : Value}
    (pu : Pure w W) (r5 : W.heap[w.heap.size]? = some (.cells #[.slice none 0 0, .slice none 0 0] 30 (0, 0))) (hb : w.heap.size < b8) (hl : LogAt W D p L) (hD : ∀ k, D k → w.heap.size < k)
    (r8 : W.heap[b8]? = some (.cells #[u0, u1] 30 (0, 0)))
    (hp : Pure W w2) (hR : RefRow w2 aL2 cL2 aG2 cG2 Q2) (hf : ∀ g, (Value.slice aL2 Q2.length cL2).ownBlock = some g → ¬ D g) (hQ : Q2.map absQ = R2)
    (hw3 : w3 = (w2.setCell ⟨b8, 0, none⟩ (.slice aL2 Q2.length cL2)).setCell ⟨b8, 1, none⟩ (.slice aG2 Q2.length cG2)) :
    LogAt w3 D p L ∧ Mod (fun i => i = b8) W w3 ∧ ∀ D' L' w4, LogAt w4 D' p L' → Mod D w3 w4 → Grew D D' w3 → L' = slotsR R2 → MdInv w p b8 R2 w4 := by
  subst hw3
  have hm : Mod (fun i => i = b8) w2 ((w2.setCell ⟨b8, 0, none⟩ (.slice aL2 Q2.length cL2)).setCell ⟨b8, 1, none⟩ (.slice aG2 Q2.length cG2)) := Mod.set2 _ _ _ _ _
  have hl2 := hl.pure hp
  have r82 := hp.heap (fun h => h) r8
  have hn8 := hl2.notin r82 (by decide) (by decide)
  have hl3 := hl2.frame hm (fun k hk h => hn8 (h ▸ hk)) (fun k _ h cs fz e => by subst h; rw [r82] at e; cases e)
  have hR3 := hR.modT hm (fun i hi _ => by subst hi; exact ⟨_, _, r82⟩)
  have r83 := heap_set12 (v0 := .slice aL2 Q2.length cL2) (v1 := .slice aG2 Q2.length cG2) r82
  have r53 := hm.heap (by omega) (hp.heap (fun h => h) r5)
  refine ⟨hl3, (Mod.of_pure hp).trans hm, fun D' L' w4 h4 hm4 hg e => ?_⟩
  subst e
  refine ⟨((pu.trans hp).then hm (fun i hi h => by omega)).then hm4 (fun i hi h => by have := hD i h; omega), hl3.box hm4 r53 (by decide) (by decide), hb, D', aL2, cL2, aG2, cG2, Q2, h4, fun k hk => ?_, hQ, hl3.box hm4 r83 (by decide) (by decide), hR3.beside hl3 hm4 hf, fun g hg' hd => ?_⟩
  · rcases hg k hk with h | h
    · exact hD k h
    · have := hm.size; have := hp.size; have := pu.size; have := lt_of_block r5; omega
  · rcases hg g hd with h | h
    · exact hf g hg' h
    · have := owns_lt hR3.L hg'; omega
/-- The reference's call first, then the log's, then the reference's result is stored into b8. -/
theorem md_step2 {w W2 w3 W4 W5 : World} {p b8 : Nat} {R2 : List (Ent × Bool)} {D D' : Nat → Prop} {aL2 aG2 : Option Addr} {cL2 cG2 : Nat} {Q2 : List RQ} {L L' : List (Option Ent)} {u0 u1 : Value}
    (pu : Pure w W2) (r5 : W2.heap[w.heap.size]? = some (.cells #[.slice none 0 0, .slice none 0 0] 30 (0, 0))) (hb : w.heap.size < b8) (hl : LogAt W2 D p L) (hD : ∀ k, D k → w.heap.size < k)
    (r8 : W2.heap[b8]? = some (.cells #[u0, u1] 30 (0, 0)))
    (hR : RefRow W2 aL2 cL2 aG2 cG2 Q2) (hf : ∀ g, (Value.slice aL2 Q2.length cL2).ownBlock = some g → ¬ D g) (hQ : Q2.map absQ = R2)
    (hm3 : Mod D W2 w3) (h3 : LogAt w3 D' p L') (hg : Grew D D' W2) (e : L' = slotsR R2) (hp4 : Pure w3 W4)
    (hw5 : W5 = (W4.setCell ⟨b8, 0, none⟩ (.slice aL2 Q2.length cL2)).setCell ⟨b8, 1, none⟩ (.slice aG2 Q2.length cG2)) :
    MdInv w p b8 R2 W5 := by
  subst hw5 e
  have hm5 : Mod (fun i => i = b8) W4 ((W4.setCell ⟨b8, 0, none⟩ (.slice aL2 Q2.length cL2)).setCell ⟨b8, 1, none⟩ (.slice aG2 Q2.length cG2)) := Mod.set2 _ _ _ _ _
  have r84 := hp4.heap (fun h => h) (hl.box hm3 r8 (by decide) (by decide))
  have r54 := hp4.heap (fun h => h) (hl.box hm3 r5 (by decide) (by decide))
  have hR4 := (hR.beside hl hm3 hf).pure hp4
  have h4 := h3.pure hp4
  have hn8 := h4.notin r84 (by decide) (by decide)
  refine ⟨((pu.then hm3 (fun i hi h => by have := hD i h; omega)).trans hp4).then hm5 (fun i hi h => by omega), hm5.heap (by omega) r54, hb, D', aL2, cL2, aG2, cG2, Q2,
    h4.frame hm5 (fun k hk h => hn8 (h ▸ hk)) (fun k _ h cs fz e => by subst h; rw [r84] at e; cases e), fun k hk => ?_, hQ, heap_set12 r84, hR4.modT hm5 (fun i hi _ => by subst hi; exact ⟨_, _, r84⟩), fun g hg' hd => ?_⟩
  · rcases hg k hk with h | h
    · exact hD k h
    · have := lt_of_block r5; omega
  · rcases hg g hd with h | h
    · exact hf g hg' h
    · have := owns_lt hR.L hg'; omega
theorem rmR_hit {R : List (Ent × Bool)} {s : Nat} {x : Ent} (h : R[s]? = some (x, false)) : rmR R s = R.set s (x, true) := by unfold rmR; rw [h]
theorem rmR_miss {R : List (Ent × Bool)} {s : Nat} (h : ∀ x, R[s]? ≠ some (x, false)) : rmR R s = R := by
  unfold rmR; split
  · rename_i x e; exact absurd e (h x)
  · rfl
theorem hasQ_miss {Q : List RQ} {R : List (Ent × Bool)} (hQ : Q.map absQ = R) {s : Nat} (h : ∀ x, R[s]? ≠ some (x, false)) : hasQ Q s = false := by
  unfold hasQ
  cases e : Q[s]? with
  | none => rfl
  | some q =>
    obtain ⟨x, v, g⟩ := q
    cases g
    · exact absurd (by rw [← hQ, List.getElem?_map, e]; rfl) (h x)
    · rfl
theorem slotsR_miss {R : List (Ent × Bool)} {s : Nat} (h : ∀ x, R[s]? ≠ some (x, false)) : ∀ x, (slotsR R)[s]? ≠ some (some x) := by
  intro x hx
  unfold slotsR at hx
  rw [List.getElem?_map] at hx
  cases e : R[s]? with
  | none => rw [e] at hx; cases hx
  | some q =>
    obtain ⟨y, g⟩ := q
    rw [e] at hx
    cases g
    · exact h y e
    · cases hx
end Go.Proofs.Ytbjiebhbmpafpaa
