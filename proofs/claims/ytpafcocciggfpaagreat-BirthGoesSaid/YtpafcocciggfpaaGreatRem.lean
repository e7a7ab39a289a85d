/- swiss.Index: Len, Tombs, Groups, Replace$1, Remove$1, Remove, Replace. -/
import Derived.Test.YtpafcocciggfpaaGreatFind
import Derived.Test.YtpafcocciggfpaaGreatIns
namespace Go.Proofs.YtpafcocciggfpaaGreat
open Go.RowKit Go.Shelf
set_option maxRecDepth 100000

theorem ILen_ok {w : World} {D : Nat → Prop} {p : Nat} {sv : Value} {Gs : List Grp} (h : IxRow w D p sv Gs) : Calls Tryz.prog 77 #[.pointer (some ⟨p, 0, none⟩)] w fun e w' => e = .returned (.int .i64 (usedN Gs)) ∧ w = w' := by
  obtain ⟨B, c, rfl, hc, hB, hDB, hBf, hcells⟩ := h.at
  have zp := h.box
  have HZ := Lib.hid (fun (hW : w.cell? ⟨p, 0, none⟩ = _) => izero_ok (w := w) (c := c) (a := some ⟨B, 0, none⟩) hW h.ok.pow.pos h.ok.pow.le)
  clear hcells h
  have zp_0 := cell_of_row _ _ 0 _ _ _ zp; have zp_1 := cell_of_row _ _ 1 _ _ _ zp; have zp_2 := cell_of_row _ _ 2 _ _ _ zp; have zp_f := (fun j => frozen_of_row _ _ j _ _ zp); have zp_l := lt_of_block zp; simp at zp_0 zp_1 zp_2; have H_zp := Lib.hid zp; clear zp
  go_enter Tryz.func77, Tryz.ntmps77
  go_wp2_with (go_at_call 133; refine Calls.mono (HZ.out zp_0) ?_; rintro e w' ⟨rfl, rfl⟩)
  go_ret
  exact ⟨rfl, rfl⟩
theorem ITombs_ok {w : World} {D : Nat → Prop} {p : Nat} {sv : Value} {Gs : List Grp} (h : IxRow w D p sv Gs) : Calls Tryz.prog 78 #[.pointer (some ⟨p, 0, none⟩)] w fun e w' => e = .returned (.int .i64 (tombN Gs)) ∧ w = w' := by
  obtain ⟨B, c, rfl, hc, hB, hDB, hBf, hcells⟩ := h.at
  have zp := h.box
  have HZ := Lib.hid (fun (hW : w.cell? ⟨p, 0, none⟩ = _) => izero_ok (w := w) (c := c) (a := some ⟨B, 0, none⟩) hW h.ok.pow.pos h.ok.pow.le)
  clear hcells h
  have zp_0 := cell_of_row _ _ 0 _ _ _ zp; have zp_1 := cell_of_row _ _ 1 _ _ _ zp; have zp_2 := cell_of_row _ _ 2 _ _ _ zp; have zp_f := (fun j => frozen_of_row _ _ j _ _ zp); have zp_l := lt_of_block zp; simp at zp_0 zp_1 zp_2; have H_zp := Lib.hid zp; clear zp
  go_enter Tryz.func78, Tryz.ntmps78
  go_wp2_with (go_at_call 133; refine Calls.mono (HZ.out zp_0) ?_; rintro e w' ⟨rfl, rfl⟩)
  go_ret
  exact ⟨rfl, rfl⟩
theorem IGroups_ok {w : World} {D : Nat → Prop} {p : Nat} {sv : Value} {Gs : List Grp} (h : IxRow w D p sv Gs) : Calls Tryz.prog 76 #[.pointer (some ⟨p, 0, none⟩)] w fun e w' => e = .returned (.int .i64 Gs.length) ∧ w = w' := by
  obtain ⟨B, c, rfl, hc, hB, hDB, hBf, hcells⟩ := h.at
  have zp := h.box
  have HZ := Lib.hid (fun (hW : w.cell? ⟨p, 0, none⟩ = _) => izero_ok (w := w) (c := c) (a := some ⟨B, 0, none⟩) hW h.ok.pow.pos h.ok.pow.le)
  have wg : IntKind.i64.wrap (Gs.length : Int) = Gs.length := IntWalk.i64_in _ (by have := h.ok.pow.le; omega)
  clear hcells h
  have zp_0 := cell_of_row _ _ 0 _ _ _ zp; have zp_1 := cell_of_row _ _ 1 _ _ _ zp; have zp_2 := cell_of_row _ _ 2 _ _ _ zp; have zp_f := (fun j => frozen_of_row _ _ j _ _ zp); have zp_l := lt_of_block zp; simp at zp_0 zp_1 zp_2; have H_zp := Lib.hid zp; clear zp
  go_enter Tryz.func76, Tryz.ntmps76
  go_wp2_with (go_at_call 133; refine Calls.mono (HZ.out zp_0) ?_; rintro e w' ⟨rfl, rfl⟩)
  go_ret
  exact ⟨rfl, rfl⟩

/-! ### the functions that are called back -/
/-- A closure that compares with the slot number in block B0. -/
theorem rem1_ok {w : World} {B0 x : Nat} (hb : w.heap[B0]? = some (.cells #[.int .u32 x] 43 (0, 0))) (s : Nat) (hs : s ≤ 4294967295) (hx : x ≤ 4294967295) :
    Calls Tryz.prog 135 #[.int .u32 s, .pointer (some ⟨B0, 0, none⟩)] w fun e w' => e = .returned (.bool (s == x)) ∧ w = w' := by
  have hb_0 := cell_of_row _ _ 0 _ _ _ hb; have hb_f := (fun j => frozen_of_row _ _ j _ _ hb); have hb_l := lt_of_block hb; simp at hb_0; have H_hb := Lib.hid hb; clear hb
  have hs0 : (s : Int) ≤ 4294967295 := by omega
  have hx0 : (x : Int) ≤ 4294967295 := by omega
  have e : ((s : Int) == (x : Int)) = (s == x) := by rw [Bool.eq_iff_iff]; simp; omega
  go_enter Tryz.func135, Tryz.ntmps135
  go_wp2
  go_ret
  exact ⟨rfl, rfl⟩
/-- A contract of a closure that reads one slot number is one that find asks for. -/
theorem same_of {gf B0 : Nat} {g : Nat → Bool} {w : World} {cs : Array Value} {T : TypeId} (he : ∀ args w, (callFunc gf args).run Tryz.prog w = .ok (.enter gf args) w) (hB : B0 < w.heap.size)
    (hb : w.heap[B0]? = some (.cells cs T (0, 0)))
    (hc : ∀ (W : World) (s : Nat), s ≤ 4294967295 → W.heap[B0]? = some (.cells cs T (0, 0)) → Calls Tryz.prog gf #[.int .u32 s, .pointer (some ⟨B0, 0, none⟩)] W fun e w' => e = .returned (.bool (g s)) ∧ W = w') :
    SameOk Tryz.prog gf #[.pointer (some ⟨B0, 0, none⟩)] (fun _ s => g s) (fun _ => False) (fun _ W => W.heap[B0]? = some (.cells cs T (0, 0))) w :=
  ⟨he, fun pre s W hs hJ => (callsIn_wide.2 (hc W s hs hJ)).mono (fun e w' ⟨h1, h2⟩ => by subst h2; exact ⟨h1, hJ, ModC.refl _ _⟩), fun pre A B hJ hm => hm.heap (fun hk => by have := hk.1; omega) hJ, fun _ h => h.elim, hb⟩
/-- What find finds, by a function of the slot number alone. -/
def findM (Gs : List Grp) (sum : Nat) (g : Nat → Bool) : Option (Nat × Nat) := (seenM Gs sum).find? (fun x => g (slotAt Gs x))
def foundPost (w : World) (D : Nat → Prop) (p : Nat) (sv : Value) (Gs : List Grp) (sum : Nat) (g : Nat → Bool) (B : Nat) (e : Ending) (w' : World) : Prop :=
  Pure w w' ∧ IxRow w' D p sv Gs ∧
  match findM Gs sum g with
  | some x => x.1 < Gs.length ∧ x.2 < 8 ∧ x ∈ seenM Gs sum ∧ g (slotAt Gs x) = true ∧ e = .returned (.tuple #[.pointer (some ⟨B, x.1 * 9, none⟩), .int .i64 x.2, .int .i64 0])
  | none => e = .returned (.tuple #[.pointer none, .int .i64 0, .int .i64 9])
theorem falses_mem {g : Nat → Bool} {xs : List Nat} (h : falses (fun _ s => g s) xs) : ∀ x ∈ xs, g x = false := fun x hx => by
  obtain ⟨a, c, rfl⟩ := List.append_of_mem hx
  exact h a x c rfl
theorem found_of {w w' : World} {D : Nat → Prop} {p : Nat} {sv : Value} {Gs : List Grp} {sum : Nat} {g : Nat → Bool} {J : List Nat → World → Prop} {B : Nat} {e : Ending} (h : findPost w D p sv Gs sum (fun _ s => g s) (fun _ => False) J B e w') : foundPost w D p sv Gs sum g B e w' := by
  obtain ⟨h1, h2, h3⟩ := h
  refine ⟨Mod.mono h1 (fun k _ ⟨_, _, _, _, hf⟩ => hf), h2, ?_⟩
  rcases h3 with ⟨a, x, post, hs, hf, hg, hi, hj, he, _⟩ | ⟨hf, he, _⟩
  · have : findM Gs sum g = some x := by
      unfold findM
      rw [hs, List.find?_append, List.find?_eq_none.2 (fun y hy => by
        have := falses_mem hf (slotAt Gs y) (List.mem_map.2 ⟨y, hy, rfl⟩)
        simp [this])]
      simp [hg]
    rw [this]
    exact ⟨hi, hj, by rw [hs]; simp, hg, he⟩
  · have : findM Gs sum g = none := by
      unfold findM
      exact List.find?_eq_none.2 (fun y hy => by
        have := falses_mem hf (slotAt Gs y) (List.mem_map.2 ⟨y, hy, rfl⟩)
        simp [this])
    rw [this]
    exact he
end Go.Proofs.YtpafcocciggfpaaGreat
