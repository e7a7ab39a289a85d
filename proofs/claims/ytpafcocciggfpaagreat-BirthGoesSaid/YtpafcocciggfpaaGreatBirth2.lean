/- birth.zero, After, Find; nil and zero dictionaries. -/
import Derived.Test.YtpafcocciggfpaaGreatBirth
import Derived.Test.YtpafcocciggfpaaGreatDict4
namespace Go.Proofs.YtpafcocciggfpaaGreat
open Go.RowKit Go.Shelf
set_option maxRecDepth 100000

/-! ### nil and zero dictionaries -/
def NilD (w : World) (v : Value) : Prop := v = .pointer none ∨ ∃ d, v = dPtr d ∧ w.heap[d]? = some (.cells #[.pointer none, .int .u64 0, .bool false, .pointer none] 81 (0, 0))
theorem NilD.pure {w w' : World} {v : Value} (h : NilD w v) (hp : Pure w w') : NilD w' v := by
  rcases h with h | ⟨b, h1, h2⟩
  · exact .inl h
  · exact .inr ⟨b, h1, hp.heap (fun h => h) h2⟩
theorem dzero_nil {w : World} {v : Value} (h : NilD w v) : Calls Tryz.prog 64 #[v] w fun e w' => e = .returned (.bool true) ∧ w = w' := by
  rcases h with rfl | ⟨b, rfl, h⟩
  · go_enter Tryz.func64, Tryz.ntmps64
    go_wp2
    go_ret
    exact ⟨rfl, rfl⟩
  · have h_0 := cell_of_row _ _ 0 _ _ _ h; have h_1 := cell_of_row _ _ 1 _ _ _ h; have h_2 := cell_of_row _ _ 2 _ _ _ h; have h_3 := cell_of_row _ _ 3 _ _ _ h; have h_f := (fun j => frozen_of_row _ _ j _ _ h); have h_l := lt_of_block h; simp at h_0 h_1 h_2 h_3; have H_h := Lib.hid h; clear h
    go_enter Tryz.func64, Tryz.ntmps64
    go_wp2
    go_ret
    exact ⟨rfl, rfl⟩
theorem dlog_nil {w : World} {v : Value} (h : NilD w v) : Calls Tryz.prog 40 #[v] w fun e w' => e = .returned (.pointer none) ∧ w = w' := by
  have HZ := Lib.hid (dzero_nil h)
  clear h
  go_enter Tryz.func40, Tryz.ntmps40
  go_wp2_with (go_at_call 64; refine Calls.mono HZ.out ?_; rintro e w' ⟨rfl, rfl⟩)
  go_ret
  exact ⟨rfl, rfl⟩
theorem lall_nil (w : World) : Calls Tryz.prog 92 #[.pointer none] w (allA w []) := by
  go_enter Tryz.func92, Tryz.ntmps92
  go_wp2_with (go_at_call 86; refine Calls.mono (zero_nil _) ?_; rintro e w' ⟨rfl, rfl⟩)
  go_ret
  exact ⟨[], w.heap.size, none, 0, rfl, rfl, ⟨heap_new rfl, World.ownsRow_nil _ _ _ _, (fun e v h => by simp at h), ⟨by simp, fun e h => by simp at h⟩⟩, (Mod.refl _ w).alloc _, Nat.le_refl _, fun g e => by cases e⟩
theorem dall_nil {w : World} {v : Value} (h : NilD w v) : Calls Tryz.prog 39 #[v] w (allA w []) := by
  have HZ := Lib.hid (dzero_nil h)
  have HC := Lib.hid (lall_nil w)
  clear h
  go_enter Tryz.func39, Tryz.ntmps39
  go_wp2_with (first
    | (go_at_call 64; refine Calls.mono HZ.out ?_; rintro e w' ⟨rfl, rfl⟩)
    | (go_at_call 92; refine Calls.mono HC.out ?_; rintro e w' ⟨M, B, a, c, hM, rfl, g1, g2, g3, g4⟩))
  go_ret
  exact ⟨M, B, a, c, hM, rfl, g1, g2, g3, g4⟩
theorem isZ_nil {w : World} {v : Value} (h : NilD w v) : IsZ w v := fun W hW => by
  have HL := Lib.hid (dlog_nil (h.pure hW))
  clear h hW
  go_enter Tryz.func122, Tryz.ntmps122
  go_wp2_with (go_at_call 40; refine Calls.mono HL.out ?_; rintro e w' ⟨rfl, rfl⟩)
  go_ret
  exact ⟨rfl, Mod.refl _ _⟩
theorem allOf_nil {w : World} {v : Value} (h : NilD w v) : AllOf w v [] := fun W hW => dall_nil (h.pure hW)
section
variable {w : World} {D : Nat → Prop} {d seed : Nat} {same : Bool} {L : List (Option Ent)} {Gs : List Grp}
theorem notZ_dict (h : DictAt w D d seed same L Gs) : NotZ w (dPtr d) := fun W hW => by
  have HL := Lib.hid (dlog_ok (h.pure hW))
  clear h hW
  go_enter Tryz.func122, Tryz.ntmps122
  go_wp2_with (go_at_call 40; refine Calls.mono HL.out ?_; rintro e w' ⟨q2, D2, rfl, g1, g2, g3⟩)
  go_ret
  exact ⟨rfl, g2⟩
theorem allOf_dict (h : DictAt w D d seed same L Gs) : AllOf w (dPtr d) L := fun W hW => dall_ok (h.pure hW)
end

/-! ### After, Find -/
def afterV (L : List (Option Ent)) (b : Nat) : Nat × Nat := if b < 18446744073709551615 then (match firstM ((b : Int) + 1) 18446744073709551615 (live L) with
  | some x => (x.1, 0)
  | none => (0, 14)) else (0, 14)
def findBV (L : List (Option Ent)) (b : Nat) : Nat × Nat := match firstM b b (live L) with
  | some x => (x.1, 0)
  | none => (0, 9)
def pairV (x : Nat × Nat) : Value := .tuple #[.int .u32 (x.1 : Nat), .int .i64 (x.2 : Nat)]
theorem After_ok {w : World} {v : Value} {L : List (Option Ent)} (h : AllOf w v L) (hz : NotZ w v) (b : Nat) (hb : b < 18446744073709551616) : Calls Tryz.prog 60 #[v, .int .u64 b] w fun e w' => e = .returned (.tuple #[.int .u32 ((afterV L b).1 : Nat), .int .i64 ((afterV L b).2 : Nat)]) ∧ Pure w w' := by
  have HZ := Lib.hid (hz w (Mod.refl _ _))
  by_cases c : b < 18446744073709551615
  · have d1 : decide ((b : Int) < 18446744073709551615) = true := decide_eq_true (by omega)
    have wn : IntKind.u64.wrap ((b : Int) + 1) = (b : Int) + 1 := by
      have := u64_wrap (b + 1) (by omega)
      rw [show (((b + 1 : Nat)) : Int) = (b : Int) + 1 by omega] at this
      exact this
    have HF := Lib.hid (fun (W : World) (hW : Pure w W) => first_ok (d := 0) v (h.pure hW) ((b : Int) + 1) 18446744073709551615)
    unfold afterV
    rw [if_pos c]
    clear h hz c hb
    obtain ⟨o, ho⟩ : ∃ o, firstM ((b : Int) + 1) 18446744073709551615 (live L) = o := ⟨_, rfl⟩
    rw [ho] at HF ⊢
    clear ho
    unfold firstV at HF
    cases o with
    | none =>
      simp only [slotO, Option.isSome] at HF
      go_enter Tryz.func60, Tryz.ntmps60
      go_wp2_with (first
        | (go_at_call 122; refine Calls.mono HZ.out ?_; rintro e w1 ⟨rfl, hp1⟩)
        | (go_at_call 123; refine Calls.mono (HF.out _ hp1) ?_; rintro e w2 ⟨rfl, hp2⟩))
      go_ret2
      exact ⟨rfl, hp1.trans hp2⟩
    | some x =>
      simp only [slotO, Option.isSome] at HF
      go_enter Tryz.func60, Tryz.ntmps60
      go_wp2_with (first
        | (go_at_call 122; refine Calls.mono HZ.out ?_; rintro e w1 ⟨rfl, hp1⟩)
        | (go_at_call 123; refine Calls.mono (HF.out _ hp1) ?_; rintro e w2 ⟨rfl, hp2⟩))
      go_ret2
      exact ⟨rfl, hp1.trans hp2⟩
  · have d1 : decide ((b : Int) < 18446744073709551615) = false := decide_eq_false (by omega)
    unfold afterV
    rw [if_neg c]
    clear h hz c hb
    go_enter Tryz.func60, Tryz.ntmps60
    go_wp2_with (first
      | (go_at_call 122; refine Calls.mono HZ.out ?_; rintro e w1 ⟨rfl, hp1⟩))
    go_ret2
    exact ⟨rfl, hp1⟩
theorem After_nil {w : World} {v : Value} (hz : IsZ w v) (b : Int) : Calls Tryz.prog 60 #[v, .int .u64 b] w fun e w' => e = .returned (.tuple #[.int .u32 0, .int .i64 1]) ∧ Pure w w' := by
  have HZ := Lib.hid (hz w (Mod.refl _ _))
  clear hz
  go_enter Tryz.func60, Tryz.ntmps60
  go_wp2_with (go_at_call 122; refine Calls.mono HZ.out ?_; rintro e w1 ⟨rfl, hp1⟩)
  go_ret2
  exact ⟨rfl, hp1⟩
theorem FindB_ok {w : World} {v : Value} {L : List (Option Ent)} (h : AllOf w v L) (hz : NotZ w v) (b : Nat) : Calls Tryz.prog 120 #[v, .int .u64 b] w fun e w' => e = .returned (.tuple #[.int .u32 ((findBV L b).1 : Nat), .int .i64 ((findBV L b).2 : Nat)]) ∧ Pure w w' := by
  have HZ := Lib.hid (hz w (Mod.refl _ _))
  have HF := Lib.hid (fun (W : World) (hW : Pure w W) => first_ok (d := 0) v (h.pure hW) b b)
  unfold findBV
  clear h hz
  obtain ⟨o, ho⟩ : ∃ o, firstM (b : Int) b (live L) = o := ⟨_, rfl⟩
  rw [ho] at HF ⊢
  clear ho
  unfold firstV at HF
  cases o with
  | none =>
    simp only [slotO, Option.isSome] at HF
    go_enter Tryz.func120, Tryz.ntmps120
    go_wp2_with (first
      | (go_at_call 122; refine Calls.mono HZ.out ?_; rintro e w1 ⟨rfl, hp1⟩)
      | (go_at_call 123; refine Calls.mono (HF.out _ hp1) ?_; rintro e w2 ⟨rfl, hp2⟩))
    go_ret2
    exact ⟨rfl, hp1.trans hp2⟩
  | some x =>
    simp only [slotO, Option.isSome] at HF
    go_enter Tryz.func120, Tryz.ntmps120
    go_wp2_with (first
      | (go_at_call 122; refine Calls.mono HZ.out ?_; rintro e w1 ⟨rfl, hp1⟩)
      | (go_at_call 123; refine Calls.mono (HF.out _ hp1) ?_; rintro e w2 ⟨rfl, hp2⟩))
    go_ret2
    exact ⟨rfl, hp1.trans hp2⟩
theorem FindB_nil {w : World} {v : Value} (hz : IsZ w v) (b : Int) : Calls Tryz.prog 120 #[v, .int .u64 b] w fun e w' => e = .returned (.tuple #[.int .u32 0, .int .i64 1]) ∧ Pure w w' := by
  have HZ := Lib.hid (hz w (Mod.refl _ _))
  clear hz
  go_enter Tryz.func120, Tryz.ntmps120
  go_wp2_with (go_at_call 122; refine Calls.mono HZ.out ?_; rintro e w1 ⟨rfl, hp1⟩)
  go_ret2
  exact ⟨rfl, hp1⟩
theorem Rank_nil {w : World} {v : Value} (hz : IsZ w v) (b : Int) : Calls Tryz.prog 121 #[v, .int .u64 b] w fun e w' => e = .returned (.tuple #[.int .i64 0, .int .i64 1]) ∧ Pure w w' := by
  have hp0 : Pure w (w.alloc (.cells #[.int .u64 b] 22)) := (Mod.refl _ w).alloc _
  have HZ := Lib.hid (hz _ hp0)
  clear hz
  (refine (callsIn_wide (n := 0)).1 (callsIn_of_wp_marks Tryz.func121 rfl trivial (wpIn_wide.2 ?_) rfl); simp only [Tryz.ntmps121, List.size_toArray, List.length_cons, List.length_nil, Nat.reduceAdd, Nat.reduceSub, Array.replicate_succ, Array.replicate_zero, List.push_toArray, List.append_toArray, List.nil_append, List.cons_append])
  go_wp2_with (go_at_call 122; refine Calls.mono HZ.out ?_; rintro e w1 ⟨rfl, hp1⟩)
  exact ⟨.tuple #[.int .i64 0, .int .i64 1], by simp [results, Tryz.results121, go_sem], rfl, hp0.trans hp1⟩
end Go.Proofs.YtpafcocciggfpaaGreat
