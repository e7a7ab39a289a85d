/- compact.Log, compact.Dict at nil and zero; CompactNil answers true. No condition. -/
import Derived.Test.YtbjiebhbmpafpaaKnown
namespace Go.Proofs.Ytbjiebhbmpafpaa
open Go.RowKit Go.Shelf
set_option maxRecDepth 100000

theorem Copy_nil (w : World) : Calls Try.prog 61 #[.pointer none] w fun e w' => e = .returned (.pointer none) ∧ w = w' := by
  go_enter Try.func61, Try.ntmps61
  go_wp2_with (go_at_call 68; refine Calls.mono (zero_nil _) ?_; rintro e w' ⟨rfl, rfl⟩)
  go_ret
  exact ⟨rfl, rfl⟩
theorem Copy_zero (p : Nat) (w : World) (h : w.cell? ⟨p, 0, none⟩ = some (.bool false)) : Calls Try.prog 61 #[.pointer (some ⟨p, 0, none⟩)] w fun e w' => e = .returned (.pointer none) ∧ w = w' := by
  go_enter Try.func61, Try.ntmps61
  go_wp2_with (go_at_call 68; refine Calls.mono (zero_made p false _ h) ?_; rintro e w' ⟨rfl, rfl⟩)
  go_ret
  exact ⟨rfl, rfl⟩
def nilMoves : Value := .agg #[.slice none 0 0, .int .i64 0]
def logNil (w : World) (e : Ending) (w' : World) : Prop := e = .returned (.tuple #[.pointer none, .agg #[.slice none 0 0, .int .i64 0], .int .i64 1]) ∧ Pure w w'
theorem compact_nil (w : World) : Calls Try.prog 18 #[.pointer none] w (logNil w) := by
  go_enter Try.func18, Try.ntmps18
  go_wp2_with (go_at_call 61; refine Calls.mono (Copy_nil _) ?_; rintro e w' ⟨rfl, rfl⟩)
  refine bodyPost_ret (v := .tuple #[.pointer none, .agg #[.slice none 0 0, .int .i64 0], .int .i64 1]) (by simp [results, Try.results18, go_sem]) rfl ⟨rfl, ?_⟩
  (repeat' (first | (with_reducible exact Mod.refl _ _) | (with_reducible refine Mod.alloc ?_ _) | (with_reducible refine Mod.drew ?_) | (with_reducible refine Mod.drewN ?_ _) | (with_reducible refine Mod.setCell ?_ ?_ _) | (refine Mod.then ?_ (by with_reducible assumption) ?_)))
  (all_goals (intros; first | (exfalso; assumption) | omega | (simp at *; done) | (simp at *; omega)))
theorem compact_zero (p : Nat) (w : World) (h : w.cell? ⟨p, 0, none⟩ = some (.bool false)) : Calls Try.prog 18 #[.pointer (some ⟨p, 0, none⟩)] w (logNil w) := by
  have hlp : p < w.heap.size := World.block_lt_of_cell? w _ h
  have hlp1 : p < w.heap.size + 1 := by omega
  have hlp2 : p < w.heap.size + 1 + 1 := by omega
  go_enter Try.func18, Try.ntmps18
  go_wp2_with (go_at_call 61; refine Calls.mono (Copy_zero p _ (by simpa [go_sem, hlp, hlp1, hlp2] using h)) ?_; rintro e w' ⟨rfl, rfl⟩)
  refine bodyPost_ret (v := .tuple #[.pointer none, .agg #[.slice none 0 0, .int .i64 0], .int .i64 1]) (by simp [results, Try.results18, go_sem]) rfl ⟨rfl, ?_⟩
  (repeat' (first | (with_reducible exact Mod.refl _ _) | (with_reducible refine Mod.alloc ?_ _) | (with_reducible refine Mod.drew ?_) | (with_reducible refine Mod.drewN ?_ _) | (with_reducible refine Mod.setCell ?_ ?_ _) | (refine Mod.then ?_ (by with_reducible assumption) ?_)))
  (all_goals (intros; first | (exfalso; assumption) | omega | (simp at *; done) | (simp at *; omega)))
theorem dict_zero_nil (w : World) : Calls Try.prog 129 #[.pointer none] w fun e w' => e = .returned (.bool true) ∧ w = w' := by
  go_enter Try.func129, Try.ntmps129
  go_wp2
  go_ret
  exact ⟨rfl, rfl⟩
theorem dict_zero_zero (p : Nat) (w : World) (h : w.cell? ⟨p, 3, none⟩ = some (.pointer none)) : Calls Try.prog 129 #[.pointer (some ⟨p, 0, none⟩)] w fun e w' => e = .returned (.bool true) ∧ w = w' := by
  go_enter Try.func129, Try.ntmps129
  go_wp2
  go_ret
  exact ⟨rfl, rfl⟩
theorem dict_Log_nil (w : World) : Calls Try.prog 108 #[.pointer none] w fun e w' => e = .returned (.pointer none) ∧ w = w' := by
  go_enter Try.func108, Try.ntmps108
  go_wp2_with (go_at_call 129; refine Calls.mono (dict_zero_nil _) ?_; rintro e w' ⟨rfl, rfl⟩)
  go_ret
  exact ⟨rfl, rfl⟩
theorem dict_Log_zero (p : Nat) (w : World) (h : w.cell? ⟨p, 3, none⟩ = some (.pointer none)) : Calls Try.prog 108 #[.pointer (some ⟨p, 0, none⟩)] w fun e w' => e = .returned (.pointer none) ∧ w = w' := by
  go_enter Try.func108, Try.ntmps108
  go_wp2_with (go_at_call 129; refine Calls.mono (dict_zero_zero p _ h) ?_; rintro e w' ⟨rfl, rfl⟩)
  go_ret
  exact ⟨rfl, rfl⟩
theorem compact_Dict_nil (w : World) : Calls Try.prog 56 #[.pointer none] w (logNil w) := by
  go_enter Try.func56, Try.ntmps56
  go_wp2_with (first | (go_at_call 108; refine Calls.mono (dict_Log_nil _) ?_; rintro e w' ⟨rfl, rfl⟩) | (go_at_call 18; refine Calls.mono (compact_nil _) ?_; rintro e w1 ⟨rfl, hp⟩; obtain ⟨hpc, hpf⟩ := hp.cells; have hz : w.heap.size < w1.heap.size := (by have := hp.size; simp at this; omega)))
  refine bodyPost_ret (v := .tuple #[.pointer none, .agg #[.slice none 0 0, .int .i64 0], .int .i64 1]) (by simp [results, Try.results56, go_sem, hpc, hpf, hz]) rfl ⟨rfl, ?_⟩
  (repeat' (first | (with_reducible exact Mod.refl _ _) | (with_reducible refine Mod.alloc ?_ _) | (with_reducible refine Mod.drew ?_) | (with_reducible refine Mod.drewN ?_ _) | (with_reducible refine Mod.setCell ?_ ?_ _) | (refine Mod.then ?_ (by with_reducible assumption) ?_)))
  (all_goals (intros; first | (exfalso; assumption) | omega | (simp at *; done) | (simp at *; omega)))
theorem compact_Dict_zero (p : Nat) (w : World) (h : w.cell? ⟨p, 3, none⟩ = some (.pointer none)) : Calls Try.prog 56 #[.pointer (some ⟨p, 0, none⟩)] w (logNil w) := by
  have hlp : p < w.heap.size := World.block_lt_of_cell? w _ h
  go_enter Try.func56, Try.ntmps56
  go_wp2_with (first | (go_at_call 108; refine Calls.mono (dict_Log_zero p _ (by simpa [go_sem, hlp] using h)) ?_; rintro e w' ⟨rfl, rfl⟩) | (go_at_call 18; refine Calls.mono (compact_nil _) ?_; rintro e w1 ⟨rfl, hp⟩; obtain ⟨hpc, hpf⟩ := hp.cells; have hz : w.heap.size < w1.heap.size := (by have := hp.size; simp at this; omega)))
  refine bodyPost_ret (v := .tuple #[.pointer none, .agg #[.slice none 0 0, .int .i64 0], .int .i64 1]) (by simp [results, Try.results56, go_sem, hpc, hpf, hz]) rfl ⟨rfl, ?_⟩
  (repeat' (first | (with_reducible exact Mod.refl _ _) | (with_reducible refine Mod.alloc ?_ _) | (with_reducible refine Mod.drew ?_) | (with_reducible refine Mod.drewN ?_ _) | (with_reducible refine Mod.setCell ?_ ?_ _) | (refine Mod.then ?_ (by with_reducible assumption) ?_)))
  (all_goals (intros; first | (exfalso; assumption) | omega | (simp at *; done) | (simp at *; omega)))
end Go.Proofs.Ytbjiebhbmpafpaa
