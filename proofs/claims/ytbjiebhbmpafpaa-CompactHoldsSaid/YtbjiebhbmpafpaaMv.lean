/- The reference's moves of layer 11: the list of new slot numbers (newX), To and From. Conditions: the row is owned, the slot numbers rise and are below the length. -/
import Derived.Test.YtbjiebhbmpafpaaRef9e
namespace Go.Proofs.Ytbjiebhbmpafpaa
open Go.RowKit Go.Shelf
set_option maxRecDepth 100000

/-! ### plain -/
/-- The reference's list: for each old slot number the new one, or -1. -/
def newX (xs : List Nat) (n : Nat) : List Int := (List.range n).map (fun i => if i ∈ xs then (below xs i : Int) else -1)
theorem newX_length (xs : List Nat) (n : Nat) : (newX xs n).length = n := by simp [newX]
theorem newX_get {xs : List Nat} {n i : Nat} (h : i < n) : (newX xs n)[i]? = some (if i ∈ xs then (below xs i : Int) else -1) := by
  simp [newX, h]
theorem newX_gone {xs : List Nat} {k : Nat} (h : ∀ x ∈ xs, x < k) : newX xs (k + 1) = newX xs k ++ [-1] := by
  have hk : k ∉ xs := fun hm => by have := h k hm; omega
  simp [newX, List.range_succ, hk]
theorem newX_live {xs : List Nat} {k : Nat} (h : ∀ x ∈ xs, x < k) : newX (xs ++ [k]) (k + 1) = newX xs k ++ [(xs.length : Int)] := by
  unfold newX
  rw [List.range_succ, List.map_append]
  congr 1
  · refine List.map_congr_left (fun i hi => ?_)
    have hik : i < k := List.mem_range.1 hi
    have e1 : (i ∈ xs ++ [k]) ↔ i ∈ xs := by simp; omega
    have e2 : below (xs ++ [k]) i = below xs i := by
      have : ¬ k < i := by omega
      simp [below, List.countP_append, this]
    simp only [e1, e2]
  · have e2 : below (xs ++ [k]) k = xs.length := by
      unfold below
      rw [List.countP_append]
      have : List.countP (fun x => decide (x < k)) xs = xs.length := List.countP_eq_length.2 (fun x hx => by simp [h x hx])
      simp [this]
    simp [e2]
def slotsR (R : List (Ent × Bool)) : List (Option Ent) := R.map (fun p => if p.2 then none else some p.1)
theorem slotsR_length (R : List (Ent × Bool)) : (slotsR R).length = R.length := by simp [slotsR]
theorem olds_append_none (L : List (Option Ent)) : olds (L ++ [none]) = olds L := by
  simp [olds, live, liveFrom_append, liveFrom]
theorem olds_append_some (L : List (Option Ent)) (x : Ent) : olds (L ++ [some x]) = olds L ++ [L.length] := by
  simp [olds, live, liveFrom_append, liveFrom]
theorem packed_append_none (L : List (Option Ent)) : packed (L ++ [none]) = packed L := by
  simp [packed, live, liveFrom_append, liveFrom]
theorem packed_append_some (L : List (Option Ent)) (x : Ent) : packed (L ++ [some x]) = packed L ++ [some x] := by
  simp [packed, live, liveFrom_append, liveFrom]
theorem snoc_ind {α : Type} {P : List α → Prop} (h0 : P []) (h1 : ∀ l a, P l → P (l ++ [a])) (l : List α) : P l := by
  rw [← l.reverse_reverse]
  induction l.reverse with
  | nil => exact h0
  | cons a t ih => rw [List.reverse_cons]; exact h1 _ _ ih
/-- The reference's compacted log. -/
def packR (R : List (Ent × Bool)) : List (Ent × Bool) := R.filter (fun p => !p.2)
theorem packR_slots (R : List (Ent × Bool)) : slotsR (packR R) = packed (slotsR R) := by
  refine snoc_ind (P := fun R => slotsR (packR R) = packed (slotsR R)) rfl (fun R p ih => ?_) R
  · obtain ⟨x, g⟩ := p
    cases g
    · have e : slotsR (R ++ [(x, false)]) = slotsR R ++ [some x] := by simp [slotsR]
      have e2 : packR (R ++ [(x, false)]) = packR R ++ [(x, false)] := by simp [packR, List.filter_append]
      rw [e, packed_append_some, e2, ← ih]
      simp [slotsR]
    · have e : slotsR (R ++ [(x, true)]) = slotsR R ++ [none] := by simp [slotsR]
      have e2 : packR (R ++ [(x, true)]) = packR R := by simp [packR, List.filter_append]
      rw [e, packed_append_none, e2, ← ih]
theorem packR_length (R : List (Ent × Bool)) : (packR R).length = (olds (slotsR R)).length := by
  have := congrArg List.length (packR_slots R)
  rw [slotsR_length] at this
  rw [this]
  simp [packed, olds]

/-! ### To, From -/
def ints (N : List Int) : List Value := N.map (fun n : Int => (.int .i64 n : Value))
abbrev MvRow (w : World) (a : Option Addr) (c : Nat) (N : List Int) : Prop := w.ownsRow 0 3 1 (.slice a N.length c) N.length (ints N)
def MvX (w : World) (a : Option Addr) (c n : Nat) (xs : List Nat) : Prop := w.ownsRow 0 3 1 (.slice a n c) n (ints (newX xs n))
theorem MvX.pure {w w' : World} {a : Option Addr} {c n : Nat} {xs : List Nat} (h : MvX w a c n xs) (hm : Pure w w') : MvX w' a c n xs := owns_mod h hm (fun _ _ h => h)
theorem MvX.cell {w : World} {a : Option Addr} {c n : Nat} {xs : List Nat} (h : MvX w a c n xs) {o : Nat} (ho : o < n) :
    ∃ g, a = some ⟨g, 0, none⟩ ∧ g < w.heap.size ∧ w.cell? ⟨g, o, none⟩ = some (.int .i64 (if o ∈ xs then (below xs o : Int) else -1)) := by
  obtain ⟨g, _, hsv, _, hg, hc, _⟩ := owns_at h (by omega)
  cases hsv
  exact ⟨g, rfl, hg, hc o _ (by simp [ints, List.getElem?_map, newX_get ho])⟩

theorem ref_To {w : World} {a : Option Addr} {c n : Nat} {xs : List Nat} (h : MvX w a c n xs) (hn : n ≤ 4194304) (hx : ∀ x ∈ xs, x < n) (hl : xs.length ≤ 4194304) (m : Int) (o : Nat) (ho : o ≤ 4294967295) :
    Calls Try.prog 66 #[.agg #[.slice a n c, .int .i64 m], .int .u32 o] w fun e w' => e = .returned (.tuple #[.int .u32 (toM xs o).1, .int .i64 (toM xs o).2]) ∧ Pure w w' := by
  have hp : Pure w (w.alloc (.cells #[.slice a n c, .int .i64 m] 40)) := (Mod.refl _ w).alloc _
  have HP := Lib.hid hp
  have ho2 : (o : Int) ≤ 4294967295 := by omega
  by_cases hlt : o < n
  · obtain ⟨g, rfl, hg, hc⟩ := h.cell hlt
    have hlt1 : (o : Int) < (n : Int) := by omega
    by_cases hm : o ∈ xs
    · rw [if_pos hm] at hc
      have e : toM xs o = (below xs o, 0) := by simp [toM, hm]
      have E := Lib.hid e
      have hb1 : (below xs o : Int) ≤ 4294967295 := by have := below_le xs o; omega
      have hb0 : decide ((below xs o : Int) < 0) = false := by simp <;> omega
      clear hm e h hp hx
      generalize below xs o = bl at hc E hb1 hb0
      go_enter Try.func66, Try.ntmps66
      go_wp2
      go_ret2
      exact ⟨by rw [E.out]; simp, HP.out⟩
    · rw [if_neg hm] at hc
      have e : toM xs o = (0, 9) := by simp [toM, hm]
      have E := Lib.hid e
      clear hm e h hp hx
      go_enter Try.func66, Try.ntmps66
      go_wp2
      go_ret2
      exact ⟨by rw [E.out]; simp, HP.out⟩
  · have hlt1 : (n : Int) ≤ (o : Int) := by omega
    have e : toM xs o = (0, 9) := by
      have : o ∉ xs := fun hm => by have := hx o hm; omega
      simp [toM, this]
    have E := Lib.hid e
    clear e h hp hx
    go_enter Try.func66, Try.ntmps66
    go_wp2
    go_ret2
    exact ⟨by rw [E.out]; simp, HP.out⟩
end Go.Proofs.Ytbjiebhbmpafpaa
