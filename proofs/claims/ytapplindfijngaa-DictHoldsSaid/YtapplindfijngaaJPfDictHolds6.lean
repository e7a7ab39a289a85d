/- Lemmas and contracts of functions, strung together out of 1 texts. No condition. -/
import Derived.Test.YtapplindfijngaaJPfDictHolds5
import Derived.Test.YtapplindfijngaaJPfDictHolds3
/- The index in memory: its groups' lanes; what is seen for a hash. -/
namespace Go.Proofs.Ytapplindfijngaa
open Go.RowKit Go.Shelf
set_option maxRecDepth 100000

/-- A group: control bytes and slot numbers. -/
abbrev Grp := List Nat × List Nat
def groupCells (c : Grp) : List Value := .int .u64 (word8 c.1) :: (List.range 8).map (fun i => .int .u32 ((c.2.getD i 0 : Nat) : Int))
theorem groupCells_length (c : Grp) : (groupCells c).length = 9 := by simp [groupCells]
theorem groupCells_slot (c : Grp) {j : Nat} (hj : j < 8) : (groupCells c)[j + 1]? = some (.int .u32 ((c.2.getD j 0 : Nat) : Int)) := by
  unfold groupCells
  rw [List.getElem?_cons_succ, List.getElem?_map, List.getElem?_range hj]
  rfl
theorem groupCells_one (Gs : List Grp) : ∀ u ∈ Gs.flatMap groupCells, u.oneCell' = true := by
  intro u hu
  obtain ⟨c, _, hu⟩ := List.mem_flatMap.1 hu
  unfold groupCells at hu
  rcases List.mem_cons.1 hu with rfl | hu
  · rfl
  · obtain ⟨i, _, rfl⟩ := List.mem_map.1 hu; rfl
structure GrpOk (c : Grp) : Prop where
  ctl : Group c.1
  len : c.2.length = 8
  lt : ∀ s ∈ c.2, s ≤ 4294967295
theorem GrpOk.slot {c : Grp} (h : GrpOk c) (j : Nat) : c.2.getD j 0 ≤ 4294967295 := by
  rw [List.getD_eq_getElem?_getD]
  cases hi : c.2[j]? with
  | none => simp
  | some s => exact h.lt s (List.mem_of_getElem? hi)
/-- How many slot numbers there are; how many lanes are deleted. -/
def usedN (Gs : List Grp) : Nat := (Gs.map (fun c => c.1.countP (· < 128))).sum
def tombN (Gs : List Grp) : Nat := (Gs.map (fun c => c.1.countP (· == 254))).sum
structure IxOk (Gs : List Grp) : Prop where
  pow : Pow Gs.length
  grp : ∀ c ∈ Gs, GrpOk c
def grpAt (Gs : List Grp) (i : Nat) : Grp := Gs.getD i ([], [])
theorem grpAt_some {Gs : List Grp} {i : Nat} (h : i < Gs.length) : Gs[i]? = some (grpAt Gs i) := by
  unfold grpAt; rw [List.getD_eq_getElem?_getD, List.getElem?_eq_getElem h]; rfl
theorem IxOk.at {Gs : List Grp} (h : IxOk Gs) {i : Nat} (hi : i < Gs.length) : GrpOk (grpAt Gs i) := h.grp _ (List.mem_of_getElem? (grpAt_some hi))

structure IxRow (w : World) (D : Nat → Prop) (p : Nat) (sv : Value) (Gs : List Grp) : Prop where
  box : w.heap[p]? = some (.cells #[sv, .int .i64 (usedN Gs), .int .i64 (tombN Gs)] 85 (0, 0))
  row : w.ownsRow 0 89 9 sv Gs.length (Gs.flatMap groupCells)
  dd : ∀ k, D k ↔ k = p ∨ sv.ownBlock = some k
  ok : IxOk Gs
theorem IxRow.mod {w w' : World} {D S : Nat → Prop} {p : Nat} {sv : Value} {Gs : List Grp} (h : IxRow w D p sv Gs) (hm : Mod S w w') (hS : ∀ k, D k → ¬ S k) : IxRow w' D p sv Gs :=
  ⟨hm.heap (hS p ((h.dd p).2 (.inl rfl))) h.box, owns_mod h.row hm (fun g hg => hS g ((h.dd g).2 (.inr hg))), h.dd, h.ok⟩
theorem IxRow.pure {w w' : World} {D : Nat → Prop} {p : Nat} {sv : Value} {Gs : List Grp} (h : IxRow w D p sv Gs) (hm : Pure w w') : IxRow w' D p sv Gs := h.mod hm (fun _ _ h => h)
theorem IxRow.quiet {N : Nat} {w w' : World} {D : Nat → Prop} {p : Nat} {sv : Value} {Gs : List Grp} (h : IxRow w D p sv Gs) (hq : Quiet N w w') : IxRow w' D p sv Gs :=
  ⟨hq.cells h.box, hq.owns h.row, h.dd, h.ok⟩
/-- The row's block, its cells. -/
theorem IxRow.at {w : World} {D : Nat → Prop} {p : Nat} {sv : Value} {Gs : List Grp} (h : IxRow w D p sv Gs) :
    ∃ B c, sv = .slice (some ⟨B, 0, none⟩) Gs.length c ∧ Gs.length ≤ c ∧ B < w.heap.size ∧ D B ∧ (∀ j, w.frozen? ⟨B, j, none⟩ = false) ∧
      ∀ i, i < Gs.length → w.cell? ⟨B, i * 9, none⟩ = some (.int .u64 (word8 (grpAt Gs i).1)) ∧ ∀ j, j < 8 → w.cell? ⟨B, i * 9 + (j + 1), none⟩ = some (.int .u32 (((grpAt Gs i).2.getD j 0 : Nat) : Int)) := by
  obtain ⟨B, c, rfl, hc, hB, hcells, hf, _⟩ := owns_at h.row h.ok.pow.pos
  refine ⟨B, c, rfl, hc, hB, (h.dd B).2 (.inr rfl), hf, fun i hi => ⟨?_, fun j hj => ?_⟩⟩
  · have := flat_get groupCells 9 groupCells_length 0 (by omega) Gs i
    rw [grpAt_some hi] at this
    exact hcells _ _ this
  · have := flat_get groupCells 9 groupCells_length (j + 1) (by omega) Gs i
    rw [grpAt_some hi] at this
    exact hcells _ _ (this.trans (groupCells_slot _ hj))

/-! ### what is seen -/
/-- The lanes of a group that have a tag. -/
def seenIn (c : Grp) (tag : Nat) : List Nat := lanesOf (mask (c.1.map (· == tag)))
def blanks (c : Grp) : Bool := c.1.any (· == 128)
def seenFrom (Gs : List Grp) (tag : Nat) : List Nat → List (Nat × Nat)
  | [] => []
  | i :: r => (seenIn (grpAt Gs i) tag).map (fun j => (i, j)) ++ if blanks (grpAt Gs i) then [] else seenFrom Gs tag r
def seenM (Gs : List Grp) (sum : Nat) : List (Nat × Nat) := seenFrom Gs (sum % 128) (probes (sum / 128) Gs.length)
def slotAt (Gs : List Grp) (x : Nat × Nat) : Nat := (grpAt Gs x.1).2.getD x.2 0
/-- The function says false of each one, behind those ahead of it. -/
def falses (f : List Nat → Nat → Bool) (xs : List Nat) : Prop := ∀ a b c, xs = a ++ b :: c → f a b = false
theorem falses_nil (f : List Nat → Nat → Bool) : falses f [] := fun a b c h => by simp at h
theorem falses_snoc {f : List Nat → Nat → Bool} {xs : List Nat} {x : Nat} (h : falses f xs) (hx : f xs x = false) : falses f (xs ++ [x]) := by
  intro a b c e
  rcases List.eq_nil_or_concat c with rfl | ⟨c', y, rfl⟩
  · have : xs = a ∧ x = b := by
      have := List.append_inj' e rfl
      exact ⟨this.1, by simpa using this.2⟩
    rw [← this.1, ← this.2]; exact hx
  · have : xs ++ [x] = (a ++ b :: c') ++ [y] := by rw [e]; simp
    have := (List.append_inj' this rfl).1
    exact h a b c' this
/-- The seen ones: those of the groups that were gone over, and of the lanes of this one. -/
theorem seen_pre {Gs : List Grp} {tag : Nat} : ∀ (pre : List Nat) (i : Nat) (post : List Nat), (∀ k ∈ pre, blanks (grpAt Gs k) = false) →
    seenFrom Gs tag (pre ++ i :: post) = pre.flatMap (fun i => (seenIn (grpAt Gs i) tag).map (fun j => (i, j))) ++ ((seenIn (grpAt Gs i) tag).map (fun j => (i, j)) ++ if blanks (grpAt Gs i) then [] else seenFrom Gs tag post)
  | [], i, post, _ => rfl
  | k :: pre, i, post, h => by
    have hk := h k (by simp)
    simp only [List.cons_append, seenFrom, hk, List.flatMap_cons]
    rw [seen_pre pre i post (fun k' h' => h k' (by simp [h']))]
    simp
theorem seen_all {Gs : List Grp} {tag : Nat} : ∀ (pre : List Nat), (∀ k ∈ pre, blanks (grpAt Gs k) = false) →
    seenFrom Gs tag pre = pre.flatMap (fun i => (seenIn (grpAt Gs i) tag).map (fun j => (i, j)))
  | [], _ => rfl
  | k :: pre, h => by
    have hk := h k (by simp)
    simp only [seenFrom, hk, List.flatMap_cons]
    rw [seen_all pre (fun k' h' => h k' (by simp [h']))]
    simp
end Go.Proofs.Ytapplindfijngaa
