/- compact.Due and its reference answer dueM. Condition: the numbers are ints. -/
import Derived.Test.YtbjiebhbmpafpaaKeys
namespace Go.Proofs.Ytbjiebhbmpafpaa
open Go.RowKit Go.Shelf
set_option maxRecDepth 100000

/-! ### Due -/
def dueM (a b : Int) : Bool := decide (0 ≤ b) && decide (16 < a) && decide (2 * b ≤ a - 17)
theorem Due_any (w : World) (a b : Int) (a0 : -9223372036854775808 ≤ a) (a1 : a ≤ 9223372036854775807) :
    Calls Try.prog 13 #[.int .i64 a, .int .i64 b] w fun e w' => e = .returned (.bool (dueM a b)) ∧ w = w' := by
  unfold dueM
  by_cases h1 : 0 ≤ b
  · by_cases h2 : 16 < a
    · have h3 : (a - 16 - 1).tdiv 2 = (a - 17) / 2 := by rw [Int.tdiv_eq_ediv_of_nonneg (by omega)]; omega
      by_cases h4 : 2 * b ≤ a - 17
      · have h5 : b ≤ (a - 17) / 2 := by omega
        go_enter Try.func13, Try.ntmps13
        go_wp2
        go_ret
        exact ⟨by simp <;> omega, rfl⟩
      · have h5 : (a - 17) / 2 < b := by omega
        go_enter Try.func13, Try.ntmps13
        go_wp2
        go_ret
        exact ⟨by simp <;> omega, rfl⟩
    · have h2' : a ≤ 16 := by omega
      go_enter Try.func13, Try.ntmps13
      go_wp2
      go_ret
      exact ⟨by simp <;> omega, rfl⟩
  · have h1' : b < 0 := by omega
    go_enter Try.func13, Try.ntmps13
    go_wp2
    go_ret
    exact ⟨by simp <;> omega, rfl⟩

theorem ref_Due_any (w : World) (a b : Int) (a0 : -9223372036854775808 ≤ a) (a1 : a ≤ 9223372036854775807) (b1 : b ≤ 9223372036854775807) :
    Calls Try.prog 14 #[.int .i64 a, .int .i64 b] w fun e w' => e = .returned (.bool (dueM a b)) ∧ w = w' := by
  unfold dueM
  by_cases h1 : a < 0
  · go_enter Try.func14, Try.ntmps14
    go_wp2
    go_ret
    exact ⟨by simp; omega, rfl⟩
  · by_cases h2 : b < 0
    · have h1' : 0 ≤ a := by omega
      go_enter Try.func14, Try.ntmps14
      go_wp2
      go_ret
      exact ⟨by simp; omega, rfl⟩
    · by_cases h3 : a < b
      · have h1' : 0 ≤ a := by omega
        have h2' : 0 ≤ b := by omega
        go_enter Try.func14, Try.ntmps14
        go_wp2
        go_ret
        exact ⟨by simp; omega, rfl⟩
      · have h1' : 0 ≤ a := by omega
        have h2' : 0 ≤ b := by omega
        have h3' : b ≤ a := by omega
        by_cases h4 : 16 < a - b
        · by_cases h5 : b < a - b - 16
          · go_enter Try.func14, Try.ntmps14
            go_wp2
            go_ret
            exact ⟨by simp; omega, rfl⟩
          · have h5' : a - b - 16 ≤ b := by omega
            go_enter Try.func14, Try.ntmps14
            go_wp2
            go_ret
            exact ⟨by simp; omega, rfl⟩
        · have h4' : a - b ≤ 16 := by omega
          go_enter Try.func14, Try.ntmps14
          go_wp2
          go_ret
          exact ⟨by simp; omega, rfl⟩
end Go.Proofs.Ytbjiebhbmpafpaa
