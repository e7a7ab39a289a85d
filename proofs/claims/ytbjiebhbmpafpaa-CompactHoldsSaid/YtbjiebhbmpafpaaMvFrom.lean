/- The reference's From of layer 11. Conditions: the row is owned, the slot numbers rise and are below the length. -/
import Derived.Test.YtbjiebhbmpafpaaMv
namespace Go.Proofs.Ytbjiebhbmpafpaa
open Go.RowKit Go.Shelf
set_option maxRecDepth 100000

/-- No slot number below k goes to s. -/
def FrInv (w : World) (a : Option Addr) (c n : Nat) (m : Int) (xs : List Nat) (s : Nat) (i : Value) (wr : World) : Prop :=
  ∃ k : Nat, k ≤ n ∧ i = .int .i64 k ∧ (∀ j, j < k → j ∈ xs → below xs j ≠ s) ∧ Pure w wr ∧ wr.heap[w.heap.size]? = some (.cells #[.slice a n c, .int .i64 m] 40 (0, 0))
theorem below_at {xs : List Nat} (h : xs.Pairwise (· < ·)) {s x : Nat} (hs : xs[s]? = some x) : below xs x = s := by
  refine below_of h (Nat.le_of_lt (List.getElem?_eq_some_iff.1 hs).1) (fun k y hk hy => rising_lt h hk hy hs) (fun k y hk hy => ?_)
  rcases Nat.lt_or_eq_of_le hk with hlt | rfl
  · exact Nat.le_of_lt (rising_lt h hlt hs hy)
  · rw [hs] at hy; cases hy; exact Nat.le_refl _
theorem at_below {xs : List Nat} (h : xs.Pairwise (· < ·)) {x : Nat} (hx : x ∈ xs) : xs[below xs x]? = some x := by
  obtain ⟨s, hs⟩ := List.mem_iff_getElem?.1 hx
  rw [below_at h hs]; exact hs
theorem fromM_hit {xs : List Nat} (h : xs.Pairwise (· < ·)) {x : Nat} (hx : x ∈ xs) : fromM xs (below xs x) = (x, 0) := by
  have h1 := at_below h hx
  have hlt := (List.getElem?_eq_some_iff.1 h1).1
  unfold fromM
  rw [if_pos hlt]
  simp [List.getD, h1]
theorem fromM_miss {xs : List Nat} (h : xs.Pairwise (· < ·)) {n s : Nat} (hx : ∀ x ∈ xs, x < n) (hno : ∀ j, j < n → j ∈ xs → below xs j ≠ s) : fromM xs s = (0, 9) := by
  unfold fromM
  rw [if_neg]
  intro hlt
  have h1 := List.getElem?_eq_getElem hlt
  have hm := List.mem_of_getElem? h1
  exact hno _ (hx _ hm) hm (below_at h h1)

set_option maxHeartbeats 1000000 in
theorem ref_From {w : World} {a : Option Addr} {c n : Nat} {xs : List Nat} (h : MvX w a c n xs) (hr : Rising xs) (hn : n ≤ 4194304) (hx : ∀ x ∈ xs, x < n) (m : Int) (s : Nat) (hs : s ≤ 4294967295) :
    Calls Try.prog 67 #[.agg #[.slice a n c, .int .i64 m], .int .u32 s] w fun e w' => e = .returned (.tuple #[.int .u32 (fromM xs s).1, .int .i64 (fromM xs s).2]) ∧ Pure w w' := by
  have H := Lib.hid h
  have HR := Lib.hid hr
  have HX := Lib.hid hx
  have hl : xs.length ≤ 4194304 := hr.len
  clear h hr hx
  go_enter Try.func67, Try.ntmps67
  go_wp2
  go_loopw [6] (fun i wr => FrInv w a c n m xs s i wr) (fun i _ => n - (intOf i).toNat)
  case atStart => exact ⟨0, Nat.zero_le _, rfl, fun j hj => by omega, (Mod.refl _ w).alloc _, heap_new rfl⟩
  case round =>
    obtain ⟨k, hk, rfl, hno, hpu, hr1⟩ := hrel
    have HW := Lib.hid (H.out.pure hpu)
    have HPU := Lib.hid hpu
    have HNO := Lib.hid hno
    clear hpu hno
    have hr1_0 := cell_of_row _ _ 0 _ _ _ hr1; have hr1_1 := cell_of_row _ _ 1 _ _ _ hr1; have hr1_f := (fun j => frozen_of_row _ _ j _ _ hr1); have hr1_l := lt_of_block hr1; simp at hr1_0 hr1_1; have H_hr1 := Lib.hid hr1; clear hr1
    by_cases hlt : k < n
    · have hk1 : (k : Int) < (n : Int) := by omega
      obtain ⟨g, hga, hg, hc⟩ := HW.out.cell hlt
      subst hga
      by_cases hm : k ∈ xs
      · rw [if_pos hm] at hc
        have hb1 : (below xs k : Int) ≤ 4294967295 := by have := below_le xs k; omega
        have hb0 : (0 : Int) ≤ (below xs k : Int) := by omega
        by_cases he : below xs k = s
        · have E := Lib.hid (he ▸ fromM_hit HR.out.up hm : fromM xs s = (k, 0))
          have hb2 : (s : Int) ≤ 4294967295 := by omega
          have hb3 : (0 : Int) ≤ (s : Int) := by omega
          rw [he] at hc
          clear he hb0 hb1 hm
          go_wp2
          go_ret2
          exact ⟨by rw [E.out]; simp, HPU.out⟩
        · have hne : ¬ ((below xs k : Int) = (s : Int)) := by omega
          have hne2 : ((below xs k : Int) == (s : Int)) = false := by simp; omega
          have HN2 : Hid (∀ j, j < k + 1 → j ∈ xs → below xs j ≠ s) := fun j hj hjm => by
            rcases Nat.lt_or_eq_of_le (Nat.lt_succ_iff.1 hj) with hlt | rfl
            · exact HNO.out j hlt hjm
            · exact he
          clear he hm
          generalize below xs k = bl at hc hb0 hb1 hne hne2
          go_wp2
          go_roundw
          case rel =>
            unfold FrInv
            exact ⟨k + 1, by omega, by go_num, HN2.out, HPU.out, H_hr1.out⟩
          case measure => simp [intOf]; omega
      · rw [if_neg hm] at hc
        have HN2 : Hid (∀ j, j < k + 1 → j ∈ xs → below xs j ≠ s) := fun j hj hjm => by
          rcases Nat.lt_or_eq_of_le (Nat.lt_succ_iff.1 hj) with hlt | rfl
          · exact HNO.out j hlt hjm
          · exact absurd hjm hm
        clear hm
        go_wp2
        go_roundw
        case rel =>
          unfold FrInv
          exact ⟨k + 1, by omega, by go_num, HN2.out, HPU.out, H_hr1.out⟩
        case measure => simp [intOf]; omega
    · have hk1 : (n : Int) ≤ (k : Int) := by omega
      have E := Lib.hid (fromM_miss HR.out.up HX.out (fun j hj => HNO.out j (by omega)))
      go_wp2
      go_ret2
      exact ⟨by rw [E.out]; simp, HPU.out⟩
end Go.Proofs.Ytbjiebhbmpafpaa
