/- law12: after, finds, ranks, adds, gives, known. -/
import Derived.Test.YtpafcocciggfpaaGreatBirth2
namespace Go.Proofs.YtpafcocciggfpaaGreat
open Go.RowKit Go.Shelf
set_option maxRecDepth 100000

theorem eqI (a b : Nat) : ((a : Int) == (b : Int)) = (a == b) := by rw [Bool.eq_iff_iff]; simp; omega
/-- A pair of numbers is the one that is wanted. -/
def isP (x : Nat × Nat) (want no : Nat) : Bool := (x.1 == want) && (x.2 == no)
theorem after12_ok {w : World} {v : Value} {x : Nat × Nat} {b : Nat} (hA : Calls Tryz.prog 60 #[v, .int .u64 b] w fun e w' => e = .returned (.tuple #[.int .u32 (x.1 : Nat), .int .i64 (x.2 : Nat)]) ∧ Pure w w') (want no : Nat) :
    Calls Tryz.prog 57 #[v, .int .u64 b, .int .u32 want, .int .i64 no] w fun e w' => e = .returned (.bool (isP x want no)) ∧ Pure w w' := by
  have HA := Lib.hid hA
  clear hA
  unfold isP
  have e1 := eqI x.1 want; have e2 := eqI x.2 no
  generalize hx1 : (x.1 == want) = r1 at *
  generalize hx2 : (x.2 == no) = r2 at *
  cases r1
  all_goals
    go_enter Tryz.func57, Tryz.ntmps57
    go_wp2_with (go_at_call 60; refine Calls.mono HA.out ?_; rintro e w1 ⟨rfl, hp1⟩)
    go_ret
    exact ⟨by simp [*], hp1⟩
theorem finds12_ok {w : World} {v : Value} {x : Nat × Nat} {b : Nat} (hA : Calls Tryz.prog 120 #[v, .int .u64 b] w fun e w' => e = .returned (.tuple #[.int .u32 (x.1 : Nat), .int .i64 (x.2 : Nat)]) ∧ Pure w w') (want no : Nat) :
    Calls Tryz.prog 58 #[v, .int .u64 b, .int .u32 want, .int .i64 no] w fun e w' => e = .returned (.bool (isP x want no)) ∧ Pure w w' := by
  have HA := Lib.hid hA
  clear hA
  unfold isP
  have e1 := eqI x.1 want; have e2 := eqI x.2 no
  generalize hx1 : (x.1 == want) = r1 at *
  generalize hx2 : (x.2 == no) = r2 at *
  cases r1
  all_goals
    go_enter Tryz.func58, Tryz.ntmps58
    go_wp2_with (go_at_call 120; refine Calls.mono HA.out ?_; rintro e w1 ⟨rfl, hp1⟩)
    go_ret
    exact ⟨by simp [*], hp1⟩
theorem ranks12_ok {w : World} {v : Value} {n b : Nat} (hA : Calls Tryz.prog 121 #[v, .int .u64 b] w fun e w' => e = .returned (.tuple #[.int .i64 n, .int .i64 0]) ∧ Pure w w') (want : Nat) :
    Calls Tryz.prog 59 #[v, .int .u64 b, .int .i64 want] w fun e w' => e = .returned (.bool (n == want)) ∧ Pure w w' := by
  have HA := Lib.hid hA
  clear hA
  have e1 := eqI n want
  generalize hx1 : (n == want) = r1 at *
  cases r1
  all_goals
    go_enter Tryz.func59, Tryz.ntmps59
    go_wp2_with (go_at_call 121; refine Calls.mono HA.out ?_; rintro e w1 ⟨rfl, hp1⟩)
    go_ret
    exact ⟨rfl, hp1⟩
def addPost (w : World) (D : Nat → Prop) (d seed : Nat) (same : Bool) (L : List (Option Ent)) (Gs : List Grp) (x : Ent) (e : Ending) (w' : World) : Prop :=
  e = .returned (.bool true) ∧ ∃ D' Gs', DictAt w' D' d seed same (L ++ [some x]) Gs' ∧ Mod D w w' ∧ Grew D D' w
theorem adds12_ok {w : World} {D : Nat → Prop} {d seed : Nat} {same : Bool} {L : List (Option Ent)} {Gs : List Grp} (h : DictAt w D d seed same L Gs) (key : ByteArray) (b : Int) (hok : (Ent.mk key [] 0 b).Ok) (hL : L.length < 4194304) (hf : findK L key = none) :
    Calls Tryz.prog 55 #[dPtr d, .string key, .int .u64 b] w (addPost w D d seed same L Gs ⟨key, [], 0, b⟩) := by
  have HI := Lib.hid (dins_ok h ⟨key, [], 0, b⟩ hok hL hf none 0 0 (ReadAt.nil _ _))
  dsimp only at HI
  clear h hok hL hf
  go_enter Tryz.func55, Tryz.ntmps55
  go_wp2_with (go_at_call 14; refine Calls.mono HI.out ?_; rintro e w1 ⟨rfl, D', hd, hm, hg⟩)
  go_ret
  exact ⟨rfl, D', _, hd, hm, hg⟩
theorem gives12_ok {w : World} {c n : Nat} (h : Ctr w c n) (hn : n < 18446744073709551616) (want no : Nat) :
    Calls Tryz.prog 117 #[cPtr c, .int .u64 want, .int .i64 no] w fun e w' => e = .returned (.bool (isP (nxV n) want no)) ∧ Ctr w' c (nxS n) ∧ Mod (fun k => k = c) w w' := by
  have HA := Lib.hid (CNext_ok h hn)
  clear h
  unfold isP
  have e1 := eqI (nxV n).1 want; have e2 := eqI (nxV n).2 no
  generalize hx1 : ((nxV n).1 == want) = r1 at *
  generalize hx2 : ((nxV n).2 == no) = r2 at *
  cases r1
  all_goals
    go_enter Tryz.func117, Tryz.ntmps117
    go_wp2_with (go_at_call 54; refine Calls.mono HA.out ?_; rintro e w1 ⟨rfl, hc1, hm1⟩)
    go_ret
    exact ⟨by simp [*], hc1, hm1⟩
theorem gives12_nil {w : World} {v : Value} (h : NilC w v) :
    Calls Tryz.prog 117 #[v, .int .u64 0, .int .i64 1] w fun e w' => e = .returned (.bool true) ∧ w = w' := by
  have HA := Lib.hid (CNext_nil h)
  clear h
  go_enter Tryz.func117, Tryz.ntmps117
  go_wp2_with (go_at_call 54; refine Calls.mono HA.out ?_; rintro e w1 ⟨rfl, rfl⟩)
  go_ret
  exact ⟨rfl, rfl⟩
theorem hnew_ok (seed : Int) (same : Bool) (w : World) : Calls Tryz.prog 12 #[.int .u64 seed, .bool same] w fun e w' => e = .returned (.agg #[.int .u64 seed, .bool same]) ∧ Pure w w' := by
  go_enter Tryz.func12, Tryz.ntmps12
  go_wp2
  refine bodyPost_ret (v := .agg #[.int .u64 seed, .bool same]) (by simp [results, Tryz.results12, go_sem]) rfl ⟨rfl, ?_⟩
  (repeat' (first | (with_reducible exact Mod.refl _ _) | (with_reducible refine Mod.alloc ?_ _) | (with_reducible refine Mod.drew ?_) | (with_reducible refine Mod.drewN ?_ _) | (with_reducible refine Mod.setCell ?_ ?_ _) | (refine Mod.then ?_ (by with_reducible assumption) ?_)))
  (all_goals (intros; first | (exfalso; assumption) | omega | (simp at *; done) | (simp at *; omega)))
end Go.Proofs.YtpafcocciggfpaaGreat
