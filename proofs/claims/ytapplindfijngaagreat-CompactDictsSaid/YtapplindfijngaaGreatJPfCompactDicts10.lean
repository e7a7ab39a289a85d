/- Lemmas and contracts of functions, strung together out of 6 texts. No condition. -/
import Derived.Test.YtapplindfijngaaGreatJPfCompactDicts9
import Derived.Test.YtapplindfijngaaGreatJPfCompactDicts7
import Derived.BigRegion
/- The reference of layer 8: check, Insert, Bound and Remove say what the package's growth says. -/
namespace Go.Proofs.YtapplindfijngaaGreat
open Go.RowKit Go.Shelf
set_option maxRecDepth 100000

theorem r8check_ok {g live tombs : Nat} (hg : Pow g) (h : live + tombs ≤ 8 * g) (w : World) : Calls Tryz.prog 123 #[.int .i64 g, .int .i64 live, .int .i64 tombs] w fun e w' => e = .returned (.int .i64 0) ∧ w = w' := by
  have hg1 := hg.le
  have HV := Lib.hid (fun W => (validM_pow hg ▸ rValid_ok (g : Int) W))
  have w8 : IntKind.i64.wrap (8 * (g : Int)) = 8 * (g : Int) := IntWalk.i64_in _ (by omega)
  have wl : IntKind.i64.wrap ((live : Int) + (tombs : Int)) = (live : Int) + (tombs : Int) := IntWalk.i64_in _ (by omega)
  have d1 : decide ((live : Int) < 0) = false := decide_eq_false (by omega)
  have d2 : decide ((tombs : Int) < 0) = false := decide_eq_false (by omega)
  have d3 : decide (8 * (g : Int) < (live : Int)) = false := decide_eq_false (by omega)
  have d4 : decide (8 * (g : Int) < (tombs : Int)) = false := decide_eq_false (by omega)
  have d5 : decide (8 * (g : Int) < (live : Int) + (tombs : Int)) = false := decide_eq_false (by omega)
  clear hg
  go_enter Tryz.func123, Tryz.ntmps123
  go_wp2_with (go_at_call 104; refine Calls.mono (HV.out _) ?_; rintro e w' ⟨rfl, rfl⟩)
  go_ret
  exact ⟨rfl, rfl⟩
theorem validM_dbl {g : Nat} (h : Pow g) : validM ((2 * g : Nat) : Int) = decide (g < 1048576) := by
  by_cases c : g < 1048576
  · rw [validM_pow (h.dbl c)]; simp [c]
  · have hle := h.le
    have : validM ((2 * g : Nat) : Int) = false := by
      cases hv : validM ((2 * g : Nat) : Int) with
      | false => rfl
      | true =>
        obtain ⟨k, hk, e⟩ := (validM_iff _).1 hv
        have := hk.le
        omega
    rw [this]; simp [c]
theorem rBound_ok (live : Nat) (hn : live ≤ 7340032) (w : World) : Calls Tryz.prog 124 #[.int .i64 live] w fun e w' => e = .returned (.tuple #[.int .i64 (boundM live), .int .i64 0]) ∧ w = w' := by
  have hmx : boundM live ≤ 2 ^ 25 := boundM_min (by omega)
  have hle := boundM_le live
  have HMN := Lib.hid (fun j (h : 4 * live + 16 ≤ 2 ^ j) => boundM_min (live := live) h)
  have HPW : Hid (∃ b, boundM live = 2 ^ b) := Lib.hid ⟨_, rfl⟩
  generalize boundM live = bm at *
  have w4 : IntKind.i64.wrap (4 * (live : Int)) = 4 * (live : Int) := IntWalk.i64_in _ (by omega)
  have w5 : IntKind.i64.wrap (4 * (live : Int) + 16) = 4 * (live : Int) + 16 := IntWalk.i64_in _ (by omega)
  have d1 : decide ((live : Int) < 0) = false := decide_eq_false (by omega)
  have d2 : decide (7340032 < (live : Int)) = false := decide_eq_false (by omega)
  go_enter Tryz.func124, Tryz.ntmps124
  go_upto_region 4 with fail
  go_loopw [4] (fun v wr => ∃ j, v = .int .i64 (2 ^ j : Nat) ∧ 2 ^ j ≤ bm ∧ wr = w) (fun v _ => 33554432 - (intOf v).toNat)
  case atStart => exact ⟨0, rfl, by omega, rfl⟩
  case round =>
    obtain ⟨j, rfl, hj, rfl⟩ := hrel
    obtain ⟨n, hnn⟩ : ∃ n, 2 ^ j = n := ⟨_, rfl⟩
    have hnx : 2 ^ (j + 1) = 2 * n := by rw [Nat.pow_succ, hnn]; omega
    have hn0 : 0 < n := by rw [← hnn]; exact Nat.pow_pos (by decide)
    by_cases hlt : n < 4 * live + 16
    · have hlt' : (n : Int) < 4 * (live : Int) + 16 := by omega
      have w2 : IntKind.i64.wrap (2 * (n : Int)) = 2 * (n : Int) := IntWalk.i64_in _ (by omega)
      have hj2 : 2 ^ (j + 1) ≤ bm := by
        obtain ⟨b, hb⟩ := HPW.out
        rw [hb] at hle ⊢
        refine Nat.pow_le_pow_right (by decide) ?_
        by_cases c : j + 1 ≤ b
        · exact c
        · have : 2 ^ b ≤ 2 ^ j := Nat.pow_le_pow_right (by decide) (by omega)
          omega
      have HNX := Lib.hid hnx; have HJ2 := Lib.hid hj2
      rw [hnn] at hj ⊢
      clear hnx hj2 hnn
      go_wp2
      go_roundw
      case rel => exact ⟨j + 1, by rw [HNX.out]; rfl, HJ2.out, trivial⟩
      case measure => simp [intOf]; omega
    · have hlt' : ¬ ((n : Int) < 4 * (live : Int) + 16) := by omega
      have h1 := HMN.out j (by omega)
      have e : bm = n := by omega
      rw [hnn]
      subst e
      clear hnx h1 hj
      go_wp2
      exact bodyPost_ret (v := .tuple #[.int .i64 bm, .int .i64 0]) (by simp [results, Tryz.results124, go_sem]) rfl ⟨rfl, rfl⟩
set_option maxHeartbeats 1000000 in
theorem rInsertP_ok {g live tombs : Nat} (hg : Pow g) (h : live + tombs ≤ 8 * g) (w : World) : Calls Tryz.prog 109 #[.int .i64 g, .int .i64 live, .int .i64 tombs] w fun e w' => e = .returned (planV (planI g live tombs)) ∧ Pure w w' := by
  have hg1 := hg.le
  have HC := Lib.hid (fun W => r8check_ok hg h W)
  have hp0 : Pure w (w.alloc (.cells #[.int .i64 0, .bool false] 112)) := (Mod.refl _ w).alloc _
  have h6 := heap_new (w := w) (o := .cells #[.int .i64 0, .bool false] 112 (0, 0)) rfl
  have HP := Lib.hid hp0
  clear hp0
  have HV := Lib.hid (fun W => (validM_dbl hg ▸ rValid_ok ((2 * g : Nat) : Int) W))
  have wl : IntKind.i64.wrap ((live : Int) + (tombs : Int)) = (live : Int) + (tombs : Int) := IntWalk.i64_in _ (by omega)
  have w7 : IntKind.i64.wrap (7 * (g : Int)) = 7 * (g : Int) := IntWalk.i64_in _ (by omega)
  have w2 : IntKind.i64.wrap (2 * (live : Int)) = 2 * (live : Int) := IntWalk.i64_in _ (by omega)
  have wg : IntKind.i64.wrap (2 * (g : Int)) = ((2 * g : Nat) : Int) := by rw [IntWalk.i64_in _ (by omega)]; omega
  unfold planI
  by_cases c1 : live + tombs < 7 * g
  · rw [if_pos c1]
    have d1 : decide ((live : Int) + (tombs : Int) < 7 * (g : Int)) = true := decide_eq_true (by omega)
    clear hg h c1
    go_enter Tryz.func109, Tryz.ntmps109
    go_upto_region 1 with fail
    generalize w.alloc (.cells #[.int .i64 0, .bool false] 112) = W1 at *
    obtain ⟨b6, hb6⟩ : ∃ b, w.heap.size = b := ⟨_, rfl⟩
    rw [hb6] at h6 ⊢
    have HB6 := Lib.hid hb6
    clear hb6
    have h6_0 := cell_of_row _ _ 0 _ _ _ h6; have h6_1 := cell_of_row _ _ 1 _ _ _ h6; have h6_f := (fun j => frozen_of_row _ _ j _ _ h6); have h6_l := lt_of_block h6; simp at h6_0 h6_1; have H_h6 := Lib.hid h6; clear h6
    go_wp2_with (first
      | (go_at_call 123; refine Calls.mono (HC.out _) ?_; rintro e w' ⟨rfl, rfl⟩)
      | (go_at_call 104; refine Calls.mono (HV.out _) ?_; rintro e w' ⟨rfl, rfl⟩))
    obtain ⟨f1, x0, x1⟩ := gfin (v0 := .int .i64 g) (v1 := .bool false) H_h6.out HP.out (by have := HB6.out; omega) rfl
    obtain ⟨Y, hY⟩ : ∃ Y, (W1.setCell ⟨b6, 0, none⟩ (.int .i64 g)).setCell ⟨b6, 1, none⟩ (.bool false) = Y := ⟨_, rfl⟩
    rw [hY] at f1 x0 x1 ⊢
    exact bodyPost_ret (v := .tuple #[.agg #[.int .i64 g, .bool false], .int .i64 0]) (by simp [results, Tryz.results109, go_sem, x0, x1]) rfl ⟨rfl, f1⟩
  · rw [if_neg c1]
    have d1 : decide ((live : Int) + (tombs : Int) < 7 * (g : Int)) = false := decide_eq_false (by omega)
    by_cases c2 : 2 * live ≤ 7 * g
    · rw [if_pos c2]
      have d2 : decide (2 * (live : Int) ≤ 7 * (g : Int)) = true := decide_eq_true (by omega)
      clear hg h c1 c2
      go_enter Tryz.func109, Tryz.ntmps109
      go_upto_region 1 with fail
      generalize w.alloc (.cells #[.int .i64 0, .bool false] 112) = W1 at *
      obtain ⟨b6, hb6⟩ : ∃ b, w.heap.size = b := ⟨_, rfl⟩
      rw [hb6] at h6 ⊢
      have HB6 := Lib.hid hb6
      clear hb6
      have h6_0 := cell_of_row _ _ 0 _ _ _ h6; have h6_1 := cell_of_row _ _ 1 _ _ _ h6; have h6_f := (fun j => frozen_of_row _ _ j _ _ h6); have h6_l := lt_of_block h6; simp at h6_0 h6_1; have H_h6 := Lib.hid h6; clear h6
      go_wp2_with (first
        | (go_at_call 123; refine Calls.mono (HC.out _) ?_; rintro e w' ⟨rfl, rfl⟩)
        | (go_at_call 104; refine Calls.mono (HV.out _) ?_; rintro e w' ⟨rfl, rfl⟩))
      obtain ⟨f1, x0, x1⟩ := gfin (v0 := .int .i64 g) (v1 := .bool true) H_h6.out HP.out (by have := HB6.out; omega) rfl
      obtain ⟨Y, hY⟩ : ∃ Y, (W1.setCell ⟨b6, 0, none⟩ (.int .i64 g)).setCell ⟨b6, 1, none⟩ (.bool true) = Y := ⟨_, rfl⟩
      rw [hY] at f1 x0 x1 ⊢
      exact bodyPost_ret (v := .tuple #[.agg #[.int .i64 g, .bool true], .int .i64 0]) (by simp [results, Tryz.results109, go_sem, x0, x1]) rfl ⟨rfl, f1⟩
    · rw [if_neg c2]
      have d2 : decide (2 * (live : Int) ≤ 7 * (g : Int)) = false := decide_eq_false (by omega)
      by_cases c3 : g < 1048576
      · rw [if_pos c3]
        rw [decide_eq_true c3] at HV
        obtain ⟨g2, hg2⟩ : ∃ g2, 2 * g = g2 := ⟨_, rfl⟩
        rw [hg2] at HV wg ⊢
        clear hg h c1 c2 c3 hg2
        go_enter Tryz.func109, Tryz.ntmps109
        go_upto_region 1 with fail
        generalize w.alloc (.cells #[.int .i64 0, .bool false] 112) = W1 at *
        obtain ⟨b6, hb6⟩ : ∃ b, w.heap.size = b := ⟨_, rfl⟩
        rw [hb6] at h6 ⊢
        have HB6 := Lib.hid hb6
        clear hb6
        have h6_0 := cell_of_row _ _ 0 _ _ _ h6; have h6_1 := cell_of_row _ _ 1 _ _ _ h6; have h6_f := (fun j => frozen_of_row _ _ j _ _ h6); have h6_l := lt_of_block h6; simp at h6_0 h6_1; have H_h6 := Lib.hid h6; clear h6
        go_wp2_with (first
          | (go_at_call 123; refine Calls.mono (HC.out _) ?_; rintro e w' ⟨rfl, rfl⟩)
          | (go_at_call 104; refine Calls.mono (HV.out _) ?_; rintro e w' ⟨rfl, rfl⟩))
        obtain ⟨f1, x0, x1⟩ := gfin (v0 := .int .i64 g2) (v1 := .bool true) H_h6.out HP.out (by have := HB6.out; omega) rfl
        obtain ⟨Y, hY⟩ : ∃ Y, (W1.setCell ⟨b6, 0, none⟩ (.int .i64 g2)).setCell ⟨b6, 1, none⟩ (.bool true) = Y := ⟨_, rfl⟩
        rw [hY] at f1 x0 x1 ⊢
        exact bodyPost_ret (v := .tuple #[.agg #[.int .i64 g2, .bool true], .int .i64 0]) (by simp [results, Tryz.results109, go_sem, x0, x1]) rfl ⟨rfl, f1⟩
      · rw [if_neg c3]
        rw [decide_eq_false c3] at HV
        by_cases c4 : live < 7 * g
        · rw [if_pos c4]
          have d4 : decide ((live : Int) < 7 * (g : Int)) = true := decide_eq_true (by omega)
          obtain ⟨g2, hg2⟩ : ∃ g2, 2 * g = g2 := ⟨_, rfl⟩
          rw [hg2] at HV wg
          clear hg h c1 c2 c3 hg2 c4
          go_enter Tryz.func109, Tryz.ntmps109
          go_upto_region 1 with fail
          generalize w.alloc (.cells #[.int .i64 0, .bool false] 112) = W1 at *
          obtain ⟨b6, hb6⟩ : ∃ b, w.heap.size = b := ⟨_, rfl⟩
          rw [hb6] at h6 ⊢
          have HB6 := Lib.hid hb6
          clear hb6
          have h6_0 := cell_of_row _ _ 0 _ _ _ h6; have h6_1 := cell_of_row _ _ 1 _ _ _ h6; have h6_f := (fun j => frozen_of_row _ _ j _ _ h6); have h6_l := lt_of_block h6; simp at h6_0 h6_1; have H_h6 := Lib.hid h6; clear h6
          go_wp2_with (first
            | (go_at_call 123; refine Calls.mono (HC.out _) ?_; rintro e w' ⟨rfl, rfl⟩)
            | (go_at_call 104; refine Calls.mono (HV.out _) ?_; rintro e w' ⟨rfl, rfl⟩))
          obtain ⟨f1, x0, x1⟩ := gfin (v0 := .int .i64 g) (v1 := .bool true) H_h6.out HP.out (by have := HB6.out; omega) rfl
          obtain ⟨Y, hY⟩ : ∃ Y, (W1.setCell ⟨b6, 0, none⟩ (.int .i64 g)).setCell ⟨b6, 1, none⟩ (.bool true) = Y := ⟨_, rfl⟩
          rw [hY] at f1 x0 x1 ⊢
          exact bodyPost_ret (v := .tuple #[.agg #[.int .i64 g, .bool true], .int .i64 0]) (by simp [results, Tryz.results109, go_sem, x0, x1]) rfl ⟨rfl, f1⟩
        · rw [if_neg c4]
          have d4 : decide ((live : Int) < 7 * (g : Int)) = false := decide_eq_false (by omega)
          obtain ⟨g2, hg2⟩ : ∃ g2, 2 * g = g2 := ⟨_, rfl⟩
          rw [hg2] at HV wg
          clear hg h c1 c2 c3 hg2 c4
          go_enter Tryz.func109, Tryz.ntmps109
          go_upto_region 1 with fail
          generalize w.alloc (.cells #[.int .i64 0, .bool false] 112) = W1 at *
          obtain ⟨b6, hb6⟩ : ∃ b, w.heap.size = b := ⟨_, rfl⟩
          rw [hb6] at h6 ⊢
          have HB6 := Lib.hid hb6
          clear hb6
          have h6_0 := cell_of_row _ _ 0 _ _ _ h6; have h6_1 := cell_of_row _ _ 1 _ _ _ h6; have h6_f := (fun j => frozen_of_row _ _ j _ _ h6); have h6_l := lt_of_block h6; simp at h6_0 h6_1; have H_h6 := Lib.hid h6; clear h6
          go_wp2_with (first
            | (go_at_call 123; refine Calls.mono (HC.out _) ?_; rintro e w' ⟨rfl, rfl⟩)
            | (go_at_call 104; refine Calls.mono (HV.out _) ?_; rintro e w' ⟨rfl, rfl⟩))
          obtain ⟨f1, x0, x1⟩ := gfin (v0 := .int .i64 0) (v1 := .bool false) H_h6.out HP.out (by have := HB6.out; omega) rfl
          obtain ⟨Y, hY⟩ : ∃ Y, (W1.setCell ⟨b6, 0, none⟩ (.int .i64 0)).setCell ⟨b6, 1, none⟩ (.bool false) = Y := ⟨_, rfl⟩
          rw [hY] at f1 x0 x1 ⊢
          exact bodyPost_ret (v := .tuple #[.agg #[.int .i64 0, .bool false], .int .i64 7]) (by simp [results, Tryz.results109, go_sem, x0, x1]) rfl ⟨rfl, f1⟩
set_option maxHeartbeats 1000000 in
theorem rRemoveP_ok {g live tombs : Nat} (hg : Pow g) (h : live + tombs ≤ 8 * g) (hl : live ≤ 7340032) (w : World) : Calls Tryz.prog 67 #[.int .i64 g, .int .i64 live, .int .i64 tombs] w (gremPost w (planR g live)) := by
  have hg1 := hg.le
  have HC := Lib.hid (fun W => r8check_ok hg h W)
  have hp0 : Pure w (w.alloc (.cells #[.int .i64 0, .bool false] 112)) := (Mod.refl _ w).alloc _
  have h6 := heap_new (w := w) (o := .cells #[.int .i64 0, .bool false] 112 (0, 0)) rfl
  have HP := Lib.hid hp0
  clear hp0
  have HB := Lib.hid (fun W => rBound_ok live hl W)
  have wg : IntKind.i64.wrap (8 * (g : Int)) = 8 * (g : Int) := IntWalk.i64_in _ (by omega)
  obtain ⟨r, hr⟩ : ∃ r, planR g live = r := ⟨_, rfl⟩
  rw [hr]
  unfold planR at hr
  obtain ⟨bm, hbm⟩ : ∃ bm, boundM live = bm := ⟨_, rfl⟩
  rw [hbm] at HB hr
  by_cases c2 : bm < 8 * g
  · have d2 : decide ((bm : Int) < 8 * (g : Int)) = true := decide_eq_true (by omega)
    rw [if_pos ⟨hl, c2⟩] at hr
    obtain ⟨q, hq⟩ : ∃ q, bm / 8 = q := ⟨_, rfl⟩
    have e8 : wrap64 ((bm : Int) / 8) = (q : Int) := by
      rw [show (bm : Int) / 8 = (q : Int) by omega]
      exact w64_nat _ (by omega)
    rw [hq] at hr
    subst hr
    clear hg h c2 hbm hq
    go_enter Tryz.func67, Tryz.ntmps67
    go_upto_region 1 with fail
    generalize w.alloc (.cells #[.int .i64 0, .bool false] 112) = W1 at *
    obtain ⟨b6, hb6⟩ : ∃ b, w.heap.size = b := ⟨_, rfl⟩
    rw [hb6] at h6 ⊢
    have HB6 := Lib.hid hb6
    clear hb6
    have h6_0 := cell_of_row _ _ 0 _ _ _ h6; have h6_1 := cell_of_row _ _ 1 _ _ _ h6; have h6_f := (fun j => frozen_of_row _ _ j _ _ h6); have h6_l := lt_of_block h6; simp at h6_0 h6_1; have H_h6 := Lib.hid h6; clear h6
    go_wp2_with (first
      | (go_at_call 123; refine Calls.mono (HC.out _) ?_; rintro e w' ⟨rfl, rfl⟩)
      | (go_at_call 124; refine Calls.mono (HB.out _) ?_; rintro e w' ⟨rfl, rfl⟩))
    obtain ⟨f1, x0, x1⟩ := gfin (v0 := .int .i64 q) (v1 := .bool true) H_h6.out HP.out (by have := HB6.out; omega) rfl
    obtain ⟨Y, hY⟩ : ∃ Y, (W1.setCell ⟨b6, 0, none⟩ (.int .i64 q)).setCell ⟨b6, 1, none⟩ (.bool true) = Y := ⟨_, rfl⟩
    rw [hY] at f1 x0 x1 ⊢
    exact bodyPost_ret (v := .tuple #[.agg #[.int .i64 q, .bool true], .int .i64 0]) (by simp [results, Tryz.results67, go_sem, x0, x1]) rfl ⟨rfl, f1⟩
  · have d2 : decide ((bm : Int) < 8 * (g : Int)) = false := decide_eq_false (by omega)
    rw [if_neg (fun h => c2 h.2)] at hr
    subst hr
    clear hg h c2 hbm
    go_enter Tryz.func67, Tryz.ntmps67
    go_upto_region 1 with fail
    generalize w.alloc (.cells #[.int .i64 0, .bool false] 112) = W1 at *
    obtain ⟨b6, hb6⟩ : ∃ b, w.heap.size = b := ⟨_, rfl⟩
    rw [hb6] at h6 ⊢
    have HB6 := Lib.hid hb6
    clear hb6
    have h6_0 := cell_of_row _ _ 0 _ _ _ h6; have h6_1 := cell_of_row _ _ 1 _ _ _ h6; have h6_f := (fun j => frozen_of_row _ _ j _ _ h6); have h6_l := lt_of_block h6; simp at h6_0 h6_1; have H_h6 := Lib.hid h6; clear h6
    go_wp2_with (first
      | (go_at_call 123; refine Calls.mono (HC.out _) ?_; rintro e w' ⟨rfl, rfl⟩)
      | (go_at_call 124; refine Calls.mono (HB.out _) ?_; rintro e w' ⟨rfl, rfl⟩))
    obtain ⟨f1, x0, x1⟩ := gfin (v0 := .int .i64 g) (v1 := .bool false) H_h6.out HP.out (by have := HB6.out; omega) rfl
    obtain ⟨Y, hY⟩ : ∃ Y, (W1.setCell ⟨b6, 0, none⟩ (.int .i64 g)).setCell ⟨b6, 1, none⟩ (.bool false) = Y := ⟨_, rfl⟩
    rw [hY] at f1 x0 x1 ⊢
    exact bodyPost_ret (v := .tuple #[.agg #[.int .i64 g, .bool false], .int .i64 0]) (by simp [results, Tryz.results67, go_sem, x0, x1]) rfl ⟨rfl, f1⟩
end Go.Proofs.YtapplindfijngaaGreat

/- law07.finds and its closure. -/
namespace Go.Proofs.YtapplindfijngaaGreat
open Go.RowKit Go.Shelf
set_option maxRecDepth 100000

/-- What finds' closure asks. -/
def wanted (slot mod s : Nat) : Bool := if mod = 0 then s == slot else s % mod == 0
/-- A contract of a closure that reads two numbers is one that find asks for. -/
theorem same_of2 {gf B1 B2 : Nat} {g : Nat → Bool} {w : World} {cs1 cs2 : Array Value} {T1 T2 : TypeId} (he : ∀ args w, (callFunc gf args).run Tryz.prog w = .ok (.enter gf args) w) (hB1 : B1 < w.heap.size) (hB2 : B2 < w.heap.size)
    (hb1 : w.heap[B1]? = some (.cells cs1 T1 (0, 0))) (hb2 : w.heap[B2]? = some (.cells cs2 T2 (0, 0)))
    (hc : ∀ (W : World) (s : Nat), s ≤ 4294967295 → W.heap[B1]? = some (.cells cs1 T1 (0, 0)) → W.heap[B2]? = some (.cells cs2 T2 (0, 0)) → Calls Tryz.prog gf #[.int .u32 s, .pointer (some ⟨B1, 0, none⟩), .pointer (some ⟨B2, 0, none⟩)] W fun e w' => e = .returned (.bool (g s)) ∧ W = w') :
    SameOk Tryz.prog gf #[.pointer (some ⟨B1, 0, none⟩), .pointer (some ⟨B2, 0, none⟩)] (fun _ s => g s) (fun _ => False) (fun _ W => W.heap[B1]? = some (.cells cs1 T1 (0, 0)) ∧ W.heap[B2]? = some (.cells cs2 T2 (0, 0))) w :=
  ⟨he, fun pre s W hs hJ => (callsIn_wide.2 (hc W s hs hJ.1 hJ.2)).mono (fun e w' ⟨h1, h2⟩ => by subst h2; exact ⟨h1, hJ, ModC.refl _ _⟩), fun pre A B hJ hm => ⟨hm.heap (fun hk => by have := hk.1; omega) hJ.1, hm.heap (fun hk => by have := hk.1; omega) hJ.2⟩, fun _ h => h.elim, ⟨hb1, hb2⟩⟩
/-- What Find finds, by a function of the slot number alone. -/
def fnd (Gs : List Grp) (sum : Nat) (g : Nat → Bool) : Nat × Nat := match findM Gs sum g with | some x => (slotAt Gs x, 0) | none => (0, 9)
theorem ifind_of {w w' : World} {D : Nat → Prop} {p : Nat} {sv : Value} {Gs : List Grp} {sum : Nat} {g : Nat → Bool} {J : List Nat → World → Prop} {e : Ending} (h : IFindPost w D p sv Gs sum (fun _ s => g s) (fun _ => False) J e w') :
    e = .returned (.tuple #[.int .u32 (fnd Gs sum g).1, .int .i64 (fnd Gs sum g).2]) ∧ Pure w w' ∧ IxRow w' D p sv Gs := by
  obtain ⟨h1, h2, h3⟩ := h
  refine ⟨?_, Mod.mono h1 (fun k _ ⟨_, _, _, _, hf⟩ => hf), h2⟩
  rcases h3 with ⟨a, x, post, hs, hf, hg, he, _⟩ | ⟨hf, he, _⟩
  · have : findM Gs sum g = some x := by
      unfold findM
      rw [hs, List.find?_append, List.find?_eq_none.2 (fun y hy => by
        have := falses_mem hf (slotAt Gs y) (List.mem_map.2 ⟨y, hy, rfl⟩)
        simp [this])]
      simp [hg]
    unfold fnd
    rw [this]
    exact he
  · have : findM Gs sum g = none := by
      unfold findM
      exact List.find?_eq_none.2 (fun y hy => by
        have := falses_mem hf (slotAt Gs y) (List.mem_map.2 ⟨y, hy, rfl⟩)
        simp [this])
    unfold fnd
    rw [this]
    exact he
theorem slotAt_lt {Gs : List Grp} (h : IxOk Gs) (x : Nat × Nat) : slotAt Gs x ≤ 4294967295 := by
  unfold slotAt
  by_cases hx : x.1 < Gs.length
  · exact (h.at hx).slot _
  · have : grpAt Gs x.1 = ([], []) := by unfold grpAt; rw [List.getD_eq_getElem?_getD, List.getElem?_eq_none (by omega)]; rfl
    rw [this]
    simp
theorem fnd_lt {Gs : List Grp} (h : IxOk Gs) (sum : Nat) (g : Nat → Bool) : (fnd Gs sum g).1 ≤ 4294967295 ∧ (fnd Gs sum g).2 ≤ 9 := by
  unfold fnd
  cases findM Gs sum g with
  | none => simp
  | some x => exact ⟨slotAt_lt h x, by simp⟩
def findsM (Gs : List Grp) (sum slot mod want no : Nat) : Bool := (fnd Gs sum (wanted slot mod)).1 == want && (fnd Gs sum (wanted slot mod)).2 == no
end Go.Proofs.YtapplindfijngaaGreat

/- word.Bytes, swiss.Index.Layout. -/
namespace Go.Proofs.YtapplindfijngaaGreat
open Go.RowKit Go.Shelf
set_option maxRecDepth 100000

/-- The lanes of a word while they are read. -/
def arrU (l : List Nat) (i : Nat) : Array Value := #[.int .u8 (if 0 < i then l.getD 0 0 else 0 : Nat), .int .u8 (if 1 < i then l.getD 1 0 else 0 : Nat), .int .u8 (if 2 < i then l.getD 2 0 else 0 : Nat), .int .u8 (if 3 < i then l.getD 3 0 else 0 : Nat), .int .u8 (if 4 < i then l.getD 4 0 else 0 : Nat), .int .u8 (if 5 < i then l.getD 5 0 else 0 : Nat), .int .u8 (if 6 < i then l.getD 6 0 else 0 : Nat), .int .u8 (if 7 < i then l.getD 7 0 else 0 : Nat)]
theorem lane_int {l : List Nat} (h : Bytes8 l) (j : Nat) : ((word8 l : Nat) : Int) / ((2 ^ (8 * j) : Nat) : Int) % 256 = ((l.getD j 0 : Nat) : Int) := by
  have := word8_lane l h.2 j
  omega
theorem lane_int0 {l : List Nat} (h : Bytes8 l) : ((word8 l : Nat) : Int) % 256 = ((l.getD 0 0 : Nat) : Int) := by
  have := word8_lane l h.2 0
  rw [Nat.mul_zero, Nat.pow_zero, Nat.div_one] at this
  omega
theorem lane_int7 {l : List Nat} (h : Bytes8 l) : ((word8 l : Nat) : Int) / 72057594037927936 = ((l.getD 7 0 : Nat) : Int) := by
  have := word8_lane l h.2 7
  have := h.lt
  omega
theorem arrU_step {l : List Nat} {W : World} {B i : Nat} {T : TypeId} (hi : i < 8) (h : W.heap[B]? = some (.cells (arrU l i) T (0, 0))) {v : Value} (hv : v = .int .u8 ((l.getD i 0 : Nat) : Int)) :
    (W.setCell ⟨B, i, none⟩ v).heap[B]? = some (.cells (arrU l (i + 1)) T (0, 0)) := by
  subst hv
  have := heap_set1 (j := i) (v := .int .u8 ((l.getD i 0 : Nat) : Int)) h
  rw [this]
  have : i = 0 ∨ i = 1 ∨ i = 2 ∨ i = 3 ∨ i = 4 ∨ i = 5 ∨ i = 6 ∨ i = 7 := by omega
  rcases this with rfl | rfl | rfl | rfl | rfl | rfl | rfl | rfl <;> rfl
/-- A slice of a block from an offset on. -/
theorem ReadAt.of_block_at {w : World} {B : Nat} {cs : Array Value} {T : TypeId} {fr : Nat × Nat} (o n c : Nat) {xs : List Value} (hb : w.heap[B]? = some (.cells cs T fr)) (hl : xs.length = n) (hx : ∀ j, j < n → cs[o + j]? = xs[j]?) (h1 : ∀ u ∈ xs, u.oneCell' = true) :
    ReadAt w (.slice (some ⟨B, o, none⟩) n c) 1 xs :=
  ⟨some ⟨B, o, none⟩, n, c, rfl, by omega, h1, (fun h => by cases h), fun ad ha j u hu => by
    cases ha
    have hj : j < n := by rw [← hl]; exact (List.getElem?_eq_some_iff.1 hu).1
    have e : (⟨B, 0, none⟩ : Addr).add (o + j) = (⟨B, o, none⟩ : Addr).add j := by
      unfold Addr.add
      by_cases h0 : j = 0
      · subst h0
        by_cases h1 : o = 0
        · subst h1; rfl
        · simp [h1]
      · have : o + j ≠ 0 := by omega
        simp [h0, this]
    rw [← e]
    refine World.news_of_block hb (o + j) u ?_
    rw [Array.getElem?_toList, hx j hj, hu]⟩
/-- Two slices that are appended to, of different types. -/
theorem two_app {w X Y Z : World} {T1 T2 n1 n2 m1 m2 : Nat} {v1 v2 v1' v2' : Value} {xs1 xs2 ys1 ys2 : List Value} (hT : T1 ≠ T2) (hA : X.ownsRow 0 T1 1 v1 n1 xs1) (hB : X.ownsRow 0 T2 1 v2 n2 xs2)
    (hgA : X.grownBy Y v1.ownBlock) (hrA : Y.ownsRow 0 T1 1 v1' m1 ys1) (hbA : v1'.ownBlock = v1.ownBlock ∨ v1'.ownBlock = some X.heap.size)
    (hgB : Y.grownBy Z v2.ownBlock) (hrB : Z.ownsRow 0 T2 1 v2' m2 ys2) (hbB : v2'.ownBlock = v2.ownBlock ∨ v2'.ownBlock = some Y.heap.size)
    (hp : Pure w X) (f1 : ∀ g, v1.ownBlock = some g → w.heap.size ≤ g) (f2 : ∀ g, v2.ownBlock = some g → w.heap.size ≤ g) :
    Pure w Z ∧ Z.ownsRow 0 T1 1 v1' m1 ys1 ∧ (∀ g, v1'.ownBlock = some g → w.heap.size ≤ g) ∧ ∀ g, v2'.ownBlock = some g → w.heap.size ≤ g := by
  have mA : Mod (fun k => v1.ownBlock = some k) X Y := Mod.of_grown hgA (fun k e _ => e)
  have mB : Mod (fun k => v2.ownBlock = some k) Y Z := Mod.of_grown hgB (fun k e _ => e)
  have hBY : Y.ownsRow 0 T2 1 v2 n2 xs2 := owns_mod hB mA (fun g hg hs => by
    obtain ⟨c1, e1⟩ := owns_type hA hs
    obtain ⟨c2, e2⟩ := owns_type hB hg
    rw [e1] at e2; cases e2; exact hT rfl)
  refine ⟨(hp.then mA (fun k hk hs => by have := f1 k hs; omega)).then mB (fun k hk hs => by have := f2 k hs; omega), owns_mod hrA mB (fun g hg hs => ?_), fun g hg => ?_, fun g hg => ?_⟩
  · obtain ⟨c1, e1⟩ := owns_type hrA hg
    obtain ⟨c2, e2⟩ := owns_type hBY hs
    rw [e1] at e2; cases e2; exact hT rfl
  · rcases hbA with e | e
    · exact f1 g (e ▸ hg)
    · rw [e] at hg; cases hg; exact hp.size
  · rcases hbB with e | e
    · exact f2 g (e ▸ hg)
    · rw [e] at hg; cases hg; exact Nat.le_trans hp.size mA.size
/-! ### Layout -/
def laneC (Gs : List Grp) : List Nat := Gs.flatMap (·.1)
def laneS (Gs : List Grp) : List Nat := Gs.flatMap (fun c => c.2)
def u8s (l : List Nat) : List Value := l.map (fun (x : Nat) => Value.int .u8 ((x : Nat) : Int))
def u32v (l : List Nat) : List Value := l.map (fun (x : Nat) => Value.int .u32 ((x : Nat) : Int))
structure LayInv (w : World) (Gs : List Grp) (k : Nat) (v4 v5 : Value) (W : World) : Prop where
  pu : Pure w W
  c : W.ownsRow 0 5 1 v4 (8 * k) (u8s (laneC (Gs.take k)))
  s : W.ownsRow 0 43 1 v5 (8 * k) (u32v (laneS (Gs.take k)))
  fc : ∀ g, v4.ownBlock = some g → w.heap.size ≤ g
  fs : ∀ g, v5.ownBlock = some g → w.heap.size ≤ g
  sc : ∃ a c, v4 = .slice a (8 * k) c
  ss : ∃ a c, v5 = .slice a (8 * k) c
def layPost (w : World) (Gs : List Grp) (e : Ending) (w' : World) : Prop :=
  ∃ v4 v5, e = .returned (.tuple #[v4, v5]) ∧ LayInv w Gs Gs.length v4 v5 w'
theorem lane_step {Gs : List Grp} {i : Nat} {g : Grp} (hi : i < Gs.length) (hg : grpAt Gs i = g) : u8s (laneC (Gs.take (i + 1))) = u8s (laneC (Gs.take i)) ++ u8s g.1 := by
  unfold laneC u8s
  rw [List.take_add_one, grpAt_some hi, hg]
  simp
theorem laneS_step {Gs : List Grp} {i : Nat} {g : Grp} (hi : i < Gs.length) (hg : grpAt Gs i = g) : u32v (laneS (Gs.take (i + 1))) = u32v (laneS (Gs.take i)) ++ u32v g.2 := by
  unfold laneS u32v
  rw [List.take_add_one, grpAt_some hi, hg]
  simp
theorem info_u32 : (Tryz.prog.info? 43).map (fun i => (i.zero, i.size, i.bytes)) = some (some (.int .u32 0), 1, 4) := by kernel_rfl
end Go.Proofs.YtapplindfijngaaGreat

/- The contracts of the index, at an index that the law itself has made. -/
namespace Go.Proofs.YtapplindfijngaaGreat
open Go.RowKit Go.Shelf
set_option maxRecDepth 100000

/-- An index that was made since w. -/
structure Has (w : World) (p : Nat) (sv : Value) (Gs : List Grp) (W : World) : Prop where
  ix : IxRow W (fun k => k = p ∨ sv.ownBlock = some k) p sv Gs
  pu : Pure w W
  fp : w.heap.size ≤ p
  fs : ∀ k, sv.ownBlock = some k → w.heap.size ≤ k
theorem Has.d {w W : World} {p : Nat} {sv : Value} {Gs : List Grp} (h : Has w p sv Gs W) (k : Nat) (hk : k = p ∨ sv.ownBlock = some k) : w.heap.size ≤ k := by
  rcases hk with rfl | hk
  · exact h.fp
  · exact h.fs k hk
theorem Has.pure {w W W' : World} {p : Nat} {sv : Value} {Gs : List Grp} (h : Has w p sv Gs W) (hp : Pure W W') : Has w p sv Gs W' := ⟨h.ix.pure hp, h.pu.trans hp, h.fp, h.fs⟩
theorem Has.put {w W W' : World} {p : Nat} {sv : Value} {Gs Gs' : List Grp} (h : Has w p sv Gs W) (hx : IxRow W' (fun k => k = p ∨ sv.ownBlock = some k) p sv Gs') (hm : Mod (fun k => k = p ∨ sv.ownBlock = some k) W W') : Has w p sv Gs' W' :=
  ⟨hx, h.pu.then hm (fun k hk hd => by have := h.d k hd; omega), h.fp, h.fs⟩
theorem Has.mk_new {w W W' : World} {g : Nat} {e : Ending} (hp : Pure w W) (h : newPost W g e W') : ∃ p sv, e = .returned (.tuple #[.pointer (some ⟨p, 0, none⟩), .int .i64 0]) ∧ Has w p sv (newG g) W' ∧ W.heap.size ≤ p ∧ (∀ k, sv.ownBlock = some k → W.heap.size ≤ k) ∧ Pure W W' := by
  obtain ⟨p, sv, he, hix, hpu, hlp, hls⟩ := h
  exact ⟨p, sv, he, ⟨hix, hp.trans hpu, Nat.le_trans hp.size hlp, fun k hk => Nat.le_trans hp.size (hls k hk)⟩, hlp, hls, hpu⟩
section
variable {w W : World} {p : Nat} {sv : Value} {Gs : List Grp}
theorem Has.ins (h : Has w p sv Gs W) {sum slot : Nat} {Gs' : List Grp} (hm : insM Gs sum slot = some Gs') (h1 : sum < 18446744073709551616) (h2 : slot ≤ 4294967295) :
    Calls Tryz.prog 107 #[.pointer (some ⟨p, 0, none⟩), .int .u64 sum, .int .u32 slot] W fun e w' => e = .returned (.int .i64 0) ∧ Has w p sv Gs' w' ∧ Mod (fun k => k = p ∨ sv.ownBlock = some k) W w' :=
  (Insert_ok h.ix sum slot h1 h2).mono (fun e w' hq => by
    unfold insPost at hq
    rw [hm] at hq
    exact ⟨hq.1, h.put hq.2.1 hq.2.2, hq.2.2⟩)
theorem Has.ins_full (h : Has w p sv Gs W) {sum slot : Nat} (hm : insM Gs sum slot = none) (h1 : sum < 18446744073709551616) (h2 : slot ≤ 4294967295) :
    Calls Tryz.prog 107 #[.pointer (some ⟨p, 0, none⟩), .int .u64 sum, .int .u32 slot] W fun e w' => e = .returned (.int .i64 7) ∧ Has w p sv Gs w' ∧ Mod (fun k => k = p ∨ sv.ownBlock = some k) W w' :=
  (Insert_ok h.ix sum slot h1 h2).mono (fun e w' hq => by
    unfold insPost at hq
    rw [hm] at hq
    exact ⟨hq.1, h.put hq.2.1 hq.2.2, hq.2.2⟩)
theorem Has.rem (h : Has w p sv Gs W) {sum slot i j : Nat} (hm : findM Gs sum (fun x => x == slot) = some (i, j)) (h1 : sum < 18446744073709551616) (h2 : slot ≤ 4294967295) :
    Calls Tryz.prog 57 #[.pointer (some ⟨p, 0, none⟩), .int .u64 sum, .int .u32 slot] W fun e w' => e = .returned (.int .i64 0) ∧ Has w p sv (delG Gs i j) w' ∧ Mod (fun k => k = p ∨ sv.ownBlock = some k) W w' :=
  (Remove_ok h.ix sum slot h1 h2).mono (fun e w' hq => by
    unfold remPost at hq
    rw [hm] at hq
    exact ⟨hq.1, h.put hq.2.1 hq.2.2, hq.2.2⟩)
theorem Has.rem_none (h : Has w p sv Gs W) {sum slot : Nat} (hm : findM Gs sum (fun x => x == slot) = none) (h1 : sum < 18446744073709551616) (h2 : slot ≤ 4294967295) :
    Calls Tryz.prog 57 #[.pointer (some ⟨p, 0, none⟩), .int .u64 sum, .int .u32 slot] W fun e w' => e = .returned (.int .i64 9) ∧ Has w p sv Gs w' ∧ Mod (fun k => k = p ∨ sv.ownBlock = some k) W w' :=
  (Remove_ok h.ix sum slot h1 h2).mono (fun e w' hq => by
    unfold remPost at hq
    rw [hm] at hq
    exact ⟨hq.1, h.put hq.2.1 hq.2.2, hq.2.2⟩)
theorem Has.len (h : Has w p sv Gs W) {n : Nat} (hn : usedN Gs = n) : Calls Tryz.prog 61 #[.pointer (some ⟨p, 0, none⟩)] W fun e w' => e = .returned (.int .i64 n) ∧ W = w' := by subst hn; exact ILen_ok h.ix
theorem Has.tombs (h : Has w p sv Gs W) {n : Nat} (hn : tombN Gs = n) : Calls Tryz.prog 62 #[.pointer (some ⟨p, 0, none⟩)] W fun e w' => e = .returned (.int .i64 n) ∧ W = w' := by subst hn; exact ITombs_ok h.ix
end
/-- Three is no power of two. -/
theorem PValid_three (W : World) : Calls Tryz.prog 102 #[.int .i64 3] W fun e w' => e = .returned (.bool false) ∧ W = w' := by
  go_enter Tryz.func102, Tryz.ntmps102
  go_wp2
  all_goals go_ret
  all_goals exact ⟨rfl, rfl⟩
theorem New_three (W : World) : Calls Tryz.prog 46 #[.int .i64 3] W fun e w' => e = .returned (.tuple #[.pointer none, .int .i64 2]) ∧ W = w' := by
  have HV := Lib.hid (fun W => PValid_three W)
  go_enter Tryz.func46, Tryz.ntmps46
  go_wp2_with (go_at_call 102; refine Calls.mono (HV.out _) ?_; rintro e w' ⟨rfl, rfl⟩)
  exact bodyPost_ret (v := .tuple #[.pointer none, .int .i64 2]) (by simp [results, Tryz.results46, go_sem]) rfl ⟨rfl, rfl⟩
/-- The bytes as a string. -/
def strOf (l : List Nat) : ByteArray := ⟨(l.map (fun x => UInt8.ofNat x)).toArray⟩
theorem conv_u8s {w : World} {a : Addr} {c : Nat} (l : List Nat) (hl : ∀ x ∈ l, x < 256) (h : ReadAt w (.slice (some a) l.length c) 1 (u8s l)) :
    (convert 33 9 (.slice (some a) l.length c)).run Tryz.prog w = .ok (.string (strOf l)) w := by
  obtain ⟨a', n', c', he, hlen, _, h0, hc⟩ := h
  cases he
  have := run_convert_bytes_back w _ _ _ a c (l.map (fun x => UInt8.ofNat x)) Tryz.underlying33 Tryz.underlying5 Tryz.underlying9 (fun j hj => by
    have hj' : j < l.length := by simpa using hj
    refine hc a rfl j _ ?_
    unfold u8s
    rw [List.getElem?_map, List.getElem?_eq_getElem hj']
    simp
    have := hl _ (List.getElem_mem hj')
    omega)
  rw [List.length_map] at this
  exact this
end Go.Proofs.YtapplindfijngaaGreat

/- law07.known is true. -/
namespace Go.Proofs.YtapplindfijngaaGreat
open Go.RowKit Go.Shelf
set_option maxRecDepth 100000

def kn1 : List Grp := [([0, 128, 128, 128, 128, 128, 128, 128], [7, 0, 0, 0, 0, 0, 0, 0])]
def kn2 : List Grp := [([0, 3, 128, 128, 128, 128, 128, 128], [7, 8, 0, 0, 0, 0, 0, 0])]
def kn3 : List Grp := [([0, 3, 0, 128, 128, 128, 128, 128], [7, 8, 9, 0, 0, 0, 0, 0])]
def kn4 : List Grp := [([128, 3, 0, 128, 128, 128, 128, 128], [0, 8, 9, 0, 0, 0, 0, 0])]
def kn5 : List Grp := [([5, 3, 0, 128, 128, 128, 128, 128], [4, 8, 9, 0, 0, 0, 0, 0])]
def kn6 : List Grp := [([5, 3, 0, 128, 128, 128, 128, 128], [4, 8, 1, 0, 0, 0, 0, 0])]
theorem kn_a : insM (newG 1) 128 7 = some kn1 := by decide
theorem kn_b : insM kn1 3 8 = some kn2 := by decide
theorem kn_c : insM kn2 128 9 = some kn3 := by decide
theorem kn_d : findsM kn3 128 9 0 9 0 = true := by decide +kernel
theorem kn_e : findsM kn3 3 9 0 0 9 = true := by decide +kernel
theorem kn_f : findsM kn3 128 0 1 7 0 = true := by decide +kernel
theorem kn_g : findM kn3 128 (fun x => x == 7) = some (0, 0) := by decide +kernel
theorem kn_h : delG kn3 0 0 = kn4 := by decide
theorem kn_i : findM kn4 128 (fun x => x == 7) = none := by decide +kernel
theorem kn_j : usedN kn4 = 2 := by decide
theorem kn_k : tombN kn4 = 0 := by decide
theorem kn_l : insM kn4 5 4 = some kn5 := by decide
theorem kn_m : findM kn5 128 (fun x => x == 9) = some (0, 2) := by decide +kernel
theorem kn_n : setG kn5 0 2 (128 % 128) 1 = kn6 := by decide
theorem kn_o : findsM kn6 128 0 1 1 0 = true := by decide +kernel
theorem pow_one : Pow 1 := ⟨0, by decide, rfl⟩

theorem lay_at {w W : World} {Gs : List Grp} {k : Nat} {v4 v5 : Value} (h : LayInv w Gs k v4 v5 W) (hk : 0 < k) : ∃ b4 c4 b5 c5, v4 = .slice (some ⟨b4, 0, none⟩) (8 * k) c4 ∧ v5 = .slice (some ⟨b5, 0, none⟩) (8 * k) c5 ∧ 8 * k ≤ c4 ∧ 8 * k ≤ c5 ∧
    (∀ j u, (u8s (laneC (Gs.take k)))[j]? = some u → W.cell? ⟨b4, j, none⟩ = some u) ∧ (∀ j u, (u32v (laneS (Gs.take k)))[j]? = some u → W.cell? ⟨b5, j, none⟩ = some u) := by
  obtain ⟨b4, c4, e4, l4, _, h4, _⟩ := owns_at h.c (by omega)
  obtain ⟨b5, c5, e5, l5, _, h5, _⟩ := owns_at h.s (by omega)
  exact ⟨b4, c4, b5, c5, e4, e5, l4, l5, h4, h5⟩
theorem kn_conv {w : World} {b c : Nat} (h0 : w.cell? ⟨b, 0, none⟩ = some (.int .u8 0)) (h1 : w.cell? ⟨b, 1, none⟩ = some (.int .u8 3)) (h2 : w.cell? ⟨b, 2, none⟩ = some (.int .u8 0)) (h3 : w.cell? ⟨b, 3, none⟩ = some (.int .u8 128)) :
    (convert 33 9 (.slice (some ⟨b, 0, none⟩) 4 c)).run Tryz.prog w = .ok (.string (strOf [0, 3, 0, 128])) w := by
  refine conv_u8s [0, 3, 0, 128] (by decide) ⟨some ⟨b, 0, none⟩, 4, c, rfl, rfl, by intro u hu; obtain ⟨x, _, rfl⟩ := List.mem_map.1 hu; rfl, (fun h => by cases h), fun ad ha j u hu => ?_⟩
  cases ha
  have hj : j < 4 := (List.getElem?_eq_some_iff.1 hu).1
  have : j = 0 ∨ j = 1 ∨ j = 2 ∨ j = 3 := by omega
  rcases this with rfl | rfl | rfl | rfl
  · cases hu; exact h0
  · cases hu; exact h1
  · cases hu; exact h2
  · cases hu; exact h3
end Go.Proofs.YtapplindfijngaaGreat

/- The reference of layer 7: New, Copy, Groups, Count, has. -/
namespace Go.Proofs.YtapplindfijngaaGreat
open Go.RowKit Go.Shelf
set_option maxRecDepth 100000

/-- A reference index: its lanes, in rows of its own. -/
structure RefI (W : World) (aC : Option Addr) (cC : Nat) (aS : Option Addr) (cS : Nat) (Gs : List Grp) : Prop where
  C : W.ownsRow 0 5 1 (.slice aC (8 * Gs.length) cC) (8 * Gs.length) (u8s (laneC Gs))
  S : W.ownsRow 0 43 1 (.slice aS (8 * Gs.length) cS) (8 * Gs.length) (u32v (laneS Gs))
  ok : IxOk Gs
def refI (aC : Option Addr) (cC : Nat) (aS : Option Addr) (cS n : Nat) : Value := .agg #[.slice aC (8 * n) cC, .slice aS (8 * n) cS]
theorem RefI.pure {W W' : World} {aC : Option Addr} {cC : Nat} {aS : Option Addr} {cS : Nat} {Gs : List Grp} (h : RefI W aC cC aS cS Gs) (hp : Pure W W') : RefI W' aC cC aS cS Gs := ⟨owns_mod h.C hp (fun _ _ h => h), owns_mod h.S hp (fun _ _ h => h), h.ok⟩
/-- .. behind a change of blocks of other types. -/
theorem RefI.modT {W W' : World} {S : Nat → Prop} {aC : Option Addr} {cC : Nat} {aS : Option Addr} {cS : Nat} {Gs : List Grp} (h : RefI W aC cC aS cS Gs) (hm : Mod S W W') (hS : ∀ i, S i → i < W.heap.size → ∃ cs T' fz, W.heap[i]? = some (.cells cs T' fz) ∧ T' ≠ 5 ∧ T' ≠ 43) : RefI W' aC cC aS cS Gs :=
  ⟨owns_modT h.C hm (fun i hi hl => by obtain ⟨cs, T', fz, e, h1, h2⟩ := hS i hi hl; exact ⟨cs, T', fz, e, h1⟩), owns_modT h.S hm (fun i hi hl => by obtain ⟨cs, T', fz, e, h1, h2⟩ := hS i hi hl; exact ⟨cs, T', fz, e, h2⟩), h.ok⟩
def lan8 (f : Grp → List Nat) (c : Grp) : List Nat := (List.range 8).map (fun j => (f c).getD j 0)
theorem lan8_length (f : Grp → List Nat) (c : Grp) : (lan8 f c).length = 8 := by simp [lan8]
theorem lan8_eq {f : Grp → List Nat} {c : Grp} (h : (f c).length = 8) : lan8 f c = f c := by
  unfold lan8
  obtain ⟨x0, x1, x2, x3, x4, x5, x6, x7, e⟩ := eight_of h
  rw [e]
  rfl
theorem lan8_flat {f : Grp → List Nat} {Gs : List Grp} (h : ∀ c ∈ Gs, (f c).length = 8) : Gs.flatMap f = Gs.flatMap (lan8 f) := by
  rw [List.flatMap_def, List.flatMap_def, List.map_congr_left (fun c hc => lan8_eq (h c hc))]
theorem lan8_len {f : Grp → List Nat} {Gs : List Grp} (h : ∀ c ∈ Gs, (f c).length = 8) : (Gs.flatMap f).length = 8 * Gs.length := by
  rw [lan8_flat h]
  clear h
  induction Gs with
  | nil => rfl
  | cons c Gs ih => rw [List.flatMap_cons, List.length_append, ih, lan8_length, List.length_cons]; omega
theorem lan8_at {f : Grp → List Nat} {Gs : List Grp} (h : ∀ c ∈ Gs, (f c).length = 8) {i j : Nat} (hi : i < Gs.length) (hj : j < 8) : (Gs.flatMap f)[8 * i + j]? = (f (grpAt Gs i))[j]? := by
  rw [lan8_flat h]
  have h1 := flat_get (lan8 f) 8 (lan8_length f) j hj Gs i
  rw [Nat.mul_comm i 8, grpAt_some hi] at h1
  rw [h1]
  show (lan8 f (grpAt Gs i))[j]? = _
  rw [lan8_eq (h _ (List.mem_of_getElem? (grpAt_some hi)))]
theorem laneC_length {Gs : List Grp} (h : IxOk Gs) : (laneC Gs).length = 8 * Gs.length := lan8_len (fun c hc => (h.grp c hc).ctl.1)
theorem laneS_length {Gs : List Grp} (h : IxOk Gs) : (laneS Gs).length = 8 * Gs.length := lan8_len (fun c hc => (h.grp c hc).len)
/-- Lane 8 i + j. -/
theorem laneC_at {Gs : List Grp} (h : IxOk Gs) {i j : Nat} (hi : i < Gs.length) (hj : j < 8) : (laneC Gs)[8 * i + j]? = (grpAt Gs i).1[j]? := lan8_at (fun c hc => (h.grp c hc).ctl.1) hi hj
theorem laneS_at {Gs : List Grp} (h : IxOk Gs) {i j : Nat} (hi : i < Gs.length) (hj : j < 8) : (laneS Gs)[8 * i + j]? = (grpAt Gs i).2[j]? := lan8_at (fun c hc => (h.grp c hc).len) hi hj
theorem newG_C (g : Nat) : laneC (newG g) = List.replicate (8 * g) 128 := by
  induction g with
  | zero => rfl
  | succ g ih =>
    have : newG (g + 1) = blankG :: newG g := List.replicate_succ
    rw [this]
    show blankG.1 ++ laneC (newG g) = _
    rw [ih, show 8 * (g + 1) = 8 + 8 * g by omega, ← List.replicate_append_replicate]
    rfl
theorem newG_S (g : Nat) : laneS (newG g) = List.replicate (8 * g) 0 := by
  induction g with
  | zero => rfl
  | succ g ih =>
    have : newG (g + 1) = blankG :: newG g := List.replicate_succ
    rw [this]
    show blankG.2 ++ laneS (newG g) = _
    rw [ih, show 8 * (g + 1) = 8 + 8 * g by omega, ← List.replicate_append_replicate]
    rfl
structure RNewI (w : World) (b2 b4 k : Nat) (W : World) (a : Option Addr) (c : Nat) (a' : Option Addr) (c' : Nat) : Prop where
  pu : Pure w W
  h2 : W.heap[b2]? = some (.cells #[.slice none 0 0, .slice none 0 0] 36 (0, 0))
  h4 : W.heap[b4]? = some (.cells #[.slice a k c, .slice a' k c'] 36 (0, 0))
  C : W.ownsRow 0 5 1 (.slice a k c) k (u8s (List.replicate k 128))
  S : W.ownsRow 0 43 1 (.slice a' k c') k (u32v (List.replicate k 0))
  fC : ∀ g, (Value.slice a k c).ownBlock = some g → w.heap.size ≤ g
  fS : ∀ g, (Value.slice a' k c').ownBlock = some g → w.heap.size ≤ g
set_option maxHeartbeats 1000000 in
theorem rNew_ok (g : Nat) (hg : Pow g) (w : World) : Calls Tryz.prog 47 #[.int .i64 g] w fun e w' => ∃ aC cC aS cS, e = .returned (.tuple #[refI aC cC aS cS (newG g).length, .int .i64 0]) ∧ RefI w' aC cC aS cS (newG g) ∧ Pure w w' ∧
    (∀ k, (Value.slice aC (8 * (newG g).length) cC).ownBlock = some k → w.heap.size ≤ k) ∧ ∀ k, (Value.slice aS (8 * (newG g).length) cS).ownBlock = some k → w.heap.size ≤ k := by
  have hg0 := hg.pos
  have hg1 := hg.le
  have HV := Lib.hid (fun W => (validM_pow hg ▸ rValid_ok (g : Int) W))
  have w8 : IntKind.i64.wrap (8 * (g : Int)) = 8 * (g : Int) := IntWalk.i64_in _ (by omega)
  have hp : Pure w ((w.alloc (.cells #[.slice none 0 0, .slice none 0 0] 36)).alloc (.cells #[.slice none 0 0, .slice none 0 0] 36)) := ((Mod.refl _ w).alloc _).alloc _
  have h2 := heap_keep (o := .cells #[.slice none 0 0, .slice none 0 0] 36 (0, 0)) (heap_new (w := w) (o := .cells #[.slice none 0 0, .slice none 0 0] 36 (0, 0)) rfl)
  have h4 := heap_new (w := w.alloc (.cells #[.slice none 0 0, .slice none 0 0] 36)) (o := .cells #[.slice none 0 0, .slice none 0 0] 36 (0, 0)) (n := w.heap.size + 1) (by simp)
  have H0 := Lib.hid (RNewI.mk (k := 0) hp h2 h4 (World.ownsRow_nil _ _ _ _) (World.ownsRow_nil _ _ _ _) (fun g e => by cases e) (fun g e => by cases e))
  clear hp h2 h4
  go_enter Tryz.func47, Tryz.ntmps47
  go_upto_region 5 with (go_at_call 104; refine Calls.mono (HV.out _) ?_; rintro e w' ⟨rfl, rfl⟩)
  generalize (w.alloc (.cells #[.slice none 0 0, .slice none 0 0] 36)).alloc (.cells #[.slice none 0 0, .slice none 0 0] 36) = W at *
  obtain ⟨b, hb⟩ : ∃ b, w.heap.size = b := ⟨_, rfl⟩
  rw [hb] at H0 ⊢
  obtain ⟨iA, hiA, iA0, iA1, iA2⟩ := info_parts info_u8
  obtain ⟨iB, hiB, iB0, iB1, iB2⟩ := info_parts info_u32
  go_loopw [5] (fun v wr => ∃ k a c a' c', v = .int .i64 (k : Nat) ∧ k ≤ 8 * g ∧ RNewI w b (b + 1) k wr a c a' c') (fun v _ => 8 * g - (intOf v).toNat)
  case atStart => exact ⟨0, none, 0, none, 0, rfl, Nat.zero_le _, H0.out⟩
  case round =>
    clear H0 HV
    obtain ⟨k, a, c, a', c', rfl, hk, hI⟩ := hrel
    have HI := Lib.hid hI
    have h4 := hI.h4
    clear hI
    by_cases hlt : k < 8 * g
    · have hlt' : (k : Int) < 8 * (g : Int) := by omega
      have h4_0 := cell_of_row _ _ 0 _ _ _ h4; have h4_1 := cell_of_row _ _ 1 _ _ _ h4; have h4_f := (fun j => frozen_of_row _ _ j _ _ h4); have h4_l := lt_of_block h4; simp at h4_0 h4_1; have H_h4 := Lib.hid h4; clear h4
      have nb4 : (Value.slice a k c).ownBlock ≠ some (b + 1) := fun e => by
        obtain ⟨cc, e2⟩ := owns_type HI.out.C e
        rw [HI.out.h4] at e2; cases e2
      have NB4 := Lib.hid nb4
      clear nb4
      go_upto_region 8 with (at_builtin; refine wpList_append_read _ rfl _ _ 33 rfl 5 iA _ 1 1 Tryz.underlying33 hiA iA0 iA1 iA2 rfl (by decide) (.slice a k c) k _ rfl (owns_mod HI.out.C ((Mod.refl (fun _ => False) wr).alloc _) (fun _ _ h => h)) _ [.int .u8 128] 1 rfl (ReadAt.of_block 1 1 1 (heap_new rfl) (by rfl) (by simp [Value.oneCell'])) rfl (by unfold maxLen; omega) (by omega) ?_; intro a7 c7 w5 hr7 hg7 hb7; have m7 := Mod.heap (Mod.of_grown (S := fun k' => (Value.slice a k c).ownBlock = some k') hg7 (fun k e _ => e)) NB4.out (heap_keep H_h4.out); have m7_0 := cell_of_row _ _ 0 _ _ _ m7; have m7_1 := cell_of_row _ _ 1 _ _ _ m7; have m7_f := (fun j => frozen_of_row _ _ j _ _ m7); have m7_l := lt_of_block m7; simp at m7_0 m7_1; have H_m7 := Lib.hid m7; clear m7)
      obtain ⟨q1, q2, q3, q4⟩ := field_append (j := 0) HI.out.h4 HI.out.C (by decide) ((Mod.refl (fun _ => False) wr).alloc _) hr7 hg7 hb7
      simp at q1
      have hty : ∀ i, i = b + 1 ∨ (Value.slice a k c).ownBlock = some i → i < wr.heap.size → ∃ cs T' fz, wr.heap[i]? = some (.cells cs T' fz) ∧ T' ≠ 43 := by
        rintro i (rfl | e) _
        · exact ⟨_, _, _, HI.out.h4, by decide⟩
        · obtain ⟨cc, e2⟩ := owns_type HI.out.C e
          exact ⟨_, _, _, e2, by decide⟩
      have r2 := owns_modT HI.out.S q3 hty
      have hwb : ∀ i, i = b + 1 ∨ (Value.slice a k c).ownBlock = some i → w.heap.size ≤ i := by
        rintro i (rfl | e)
        · omega
        · exact HI.out.fC i e
      have p2 : Pure w _ := HI.out.pu.then q3 (fun i hi hs => by have := hwb i hs; omega)
      have g2 := q3.heap (k := b) (fun e => by
        rcases e with e | e
        · omega
        · obtain ⟨cc, e2⟩ := owns_type HI.out.C e
          rw [HI.out.h2] at e2; cases e2) HI.out.h2
      have f2 : ∀ i, (Value.slice a7 (k + 1) c7).ownBlock = some i → w.heap.size ≤ i := fun i hi => by
        rcases q4 i hi with e | e
        · exact HI.out.fC i e
        · exact Nat.le_trans HI.out.pu.size e
      have Q2 := Lib.hid q2; have R2 := Lib.hid r2; have P2 := Lib.hid p2; have G2 := Lib.hid g2; have F2 := Lib.hid f2
      clear h4_0 h4_1 h4_f h4_l
      clear m7_0 m7_1 m7_f m7_l
      clear H_h4 H_m7 hr7 hg7 hb7 q2 q3 q4 r2 p2 g2 f2 hty hwb
      generalize w5.setCell ⟨b + 1, 0, none⟩ (.slice a7 (k + 1) c7) = W7 at *
      have h47 := q1
      have Q1 := Lib.hid q1
      clear q1
      have h47_0 := cell_of_row _ _ 0 _ _ _ h47; have h47_1 := cell_of_row _ _ 1 _ _ _ h47; have h47_f := (fun j => frozen_of_row _ _ j _ _ h47); have h47_l := lt_of_block h47; simp at h47_0 h47_1; have H_h47 := Lib.hid h47; clear h47
      have nb4 : (Value.slice a' k c').ownBlock ≠ some (b + 1) := fun e => by
        obtain ⟨cc, e2⟩ := owns_type R2.out e
        rw [Q1.out] at e2; cases e2
      have NB4' := Lib.hid nb4
      clear nb4
      go_upto_region 6 with (at_builtin; refine wpList_append_read _ rfl _ _ 34 rfl 43 iB _ 1 4 Tryz.underlying34 hiB iB0 iB1 iB2 rfl (by decide) (.slice a' k c') k _ rfl (owns_mod R2.out ((Mod.refl (fun _ => False) W7).alloc _) (fun _ _ h => h)) _ [.int .u32 0] 1 rfl (ReadAt.of_block 1 1 1 (heap_new rfl) (by rfl) (by simp [Value.oneCell'])) rfl (by unfold maxLen; omega) (by omega) ?_; intro a9 c9 w9 hr9 hg9 hb9; have m9 := Mod.heap (Mod.of_grown (S := fun k' => (Value.slice a' k c').ownBlock = some k') hg9 (fun k e _ => e)) NB4'.out (heap_keep H_h47.out); have m9_0 := cell_of_row _ _ 0 _ _ _ m9; have m9_1 := cell_of_row _ _ 1 _ _ _ m9; have m9_f := (fun j => frozen_of_row _ _ j _ _ m9); have m9_l := lt_of_block m9; simp at m9_0 m9_1; have H_m9 := Lib.hid m9; clear m9)
      obtain ⟨q1, q2, q3, q4⟩ := field_append (j := 1) Q1.out R2.out (by decide) ((Mod.refl (fun _ => False) W7).alloc _) hr9 hg9 hb9
      simp at q1
      have hty : ∀ i, i = b + 1 ∨ (Value.slice a' k c').ownBlock = some i → i < W7.heap.size → ∃ cs T' fz, W7.heap[i]? = some (.cells cs T' fz) ∧ T' ≠ 5 := by
        rintro i (rfl | e) _
        · exact ⟨_, _, _, Q1.out, by decide⟩
        · obtain ⟨cc, e2⟩ := owns_type R2.out e
          exact ⟨_, _, _, e2, by decide⟩
      have r2 := owns_modT Q2.out q3 hty
      have hwb : ∀ i, i = b + 1 ∨ (Value.slice a' k c').ownBlock = some i → w.heap.size ≤ i := by
        rintro i (rfl | e)
        · omega
        · exact HI.out.fS i e
      have p2 : Pure w _ := P2.out.then q3 (fun i hi hs => by have := hwb i hs; omega)
      have g2 := q3.heap (k := b) (fun e => by
        rcases e with e | e
        · omega
        · obtain ⟨cc, e2⟩ := owns_type R2.out e
          rw [G2.out] at e2; cases e2) G2.out
      have f2 : ∀ i, (Value.slice a9 (k + 1) c9).ownBlock = some i → w.heap.size ≤ i := fun i hi => by
        rcases q4 i hi with e | e
        · exact HI.out.fS i e
        · exact Nat.le_trans P2.out.size e
      have e128 : u8s (List.replicate (k + 1) 128) = u8s (List.replicate k 128) ++ [.int .u8 128] := by unfold u8s; rw [List.replicate_succ']; simp
      have e0 : u32v (List.replicate (k + 1) 0) = u32v (List.replicate k 0) ++ [.int .u32 0] := by unfold u32v; rw [List.replicate_succ']; simp
      have HN : Hid (RNewI w b (b + 1) (k + 1) _ a7 c7 a9 c9) := ⟨p2, g2, q1, by rw [e128]; exact r2, by rw [e0]; exact q2, F2.out, f2⟩
      clear h47_0 h47_1 h47_f h47_l
      clear m9_0 m9_1 m9_f m9_l
      clear H_h47 H_m9 hr9 hg9 hb9 q1 q2 q3 q4 r2 p2 g2 f2 hty hwb e128 e0
      go_wp2
      go_roundw
      case rel => exact ⟨k + 1, a7, c7, a9, c9, by go_num, hlt, HN.out⟩
      case measure => simp [intOf]; omega
    · have hlt' : 8 * (g : Int) ≤ (k : Int) := by omega
      have e : k = 8 * g := by omega
      have h2 := HI.out.h2
      have h2_0 := cell_of_row _ _ 0 _ _ _ h2; have h2_1 := cell_of_row _ _ 1 _ _ _ h2; have h2_f := (fun j => frozen_of_row _ _ j _ _ h2); have h2_l := lt_of_block h2; simp at h2_0 h2_1; have H_h2 := Lib.hid h2; clear h2
      have h4_0 := cell_of_row _ _ 0 _ _ _ h4; have h4_1 := cell_of_row _ _ 1 _ _ _ h4; have h4_f := (fun j => frozen_of_row _ _ j _ _ h4); have h4_l := lt_of_block h4; simp at h4_0 h4_1; have H_h4 := Lib.hid h4; clear h4
      subst e
      have HB := Lib.hid hb
      clear hb
      go_wp2
      have m2 := heap_set12 (v0 := .slice a (8 * g) c) (v1 := .slice a' (8 * g) c') H_h2.out
      have hm : Mod (fun i => i = b) wr ((wr.setCell ⟨b, 0, none⟩ (.slice a (8 * g) c)).setCell ⟨b, 1, none⟩ (.slice a' (8 * g) c')) := Mod.set2 b 0 1 _ _
      have x0 := cell_of_row _ b 0 _ _ _ m2; have x1 := cell_of_row _ b 1 _ _ _ m2
      simp at x0 x1
      have hl : (newG g).length = g := newG_length g
      have hpw := HI.out.pu.then hm (fun i hi e => by have := HB.out; omega)
      have hne : ∀ i, i = b → i < wr.heap.size → ∃ cs T' fz, wr.heap[i]? = some (.cells cs T' fz) ∧ T' ≠ 5 ∧ T' ≠ 43 := fun i e _ => ⟨_, _, _, e ▸ HI.out.h2, by decide, by decide⟩
      have hr0 : RefI wr a c a' c' (newG g) := ⟨by rw [hl, newG_C]; exact HI.out.C, by rw [hl, newG_S]; exact HI.out.S, newG_ok hg⟩
      exact bodyPost_ret (v := .tuple #[refI a c a' c' (newG g).length, .int .i64 0]) (by rw [hl]; simp [results, Tryz.results47, go_sem, x0, x1, refI]) rfl
        ⟨a, c, a', c', rfl, hr0.modT hm hne, hpw, fun i hi => HI.out.fC i (by rw [hl] at hi; exact hi), fun i hi => HI.out.fS i (by rw [hl] at hi; exact hi)⟩
theorem rNew_bad (z : Int) (hz : validM z = false) (w : World) : Calls Tryz.prog 47 #[.int .i64 z] w fun e w' => e = .returned (.tuple #[.agg #[.slice none 0 0, .slice none 0 0], .int .i64 2]) ∧ Pure w w' := by
  have HV := Lib.hid (fun W => (hz ▸ rValid_ok z W))
  have hp : Pure w (w.alloc (.cells #[.slice none 0 0, .slice none 0 0] 36)) := (Mod.refl _ w).alloc _
  have h2 := (heap_new (w := w) (o := .cells #[.slice none 0 0, .slice none 0 0] 36 (0, 0)) rfl)
  go_enter Tryz.func47, Tryz.ntmps47
  go_upto_region 1 with fail
  generalize w.alloc (.cells #[.slice none 0 0, .slice none 0 0] 36) = W at *
  obtain ⟨b, hb⟩ : ∃ b, w.heap.size = b := ⟨_, rfl⟩
  rw [hb] at h2 ⊢
  have h2_0 := cell_of_row _ _ 0 _ _ _ h2; have h2_1 := cell_of_row _ _ 1 _ _ _ h2; have h2_f := (fun j => frozen_of_row _ _ j _ _ h2); have h2_l := lt_of_block h2; simp at h2_0 h2_1; have H_h2 := Lib.hid h2; clear h2
  go_wp2_with (go_at_call 104; refine Calls.mono (HV.out _) ?_; rintro e w' ⟨rfl, rfl⟩)
  have m2 := heap_set12 (v0 := .slice none 0 0) (v1 := .slice none 0 0) H_h2.out
  have hm : Mod (fun i => i = b) W ((W.setCell ⟨b, 0, none⟩ (.slice none 0 0)).setCell ⟨b, 1, none⟩ (.slice none 0 0)) := Mod.set2 b 0 1 _ _
  have x0 := cell_of_row _ b 0 _ _ _ m2; have x1 := cell_of_row _ b 1 _ _ _ m2
  simp at x0 x1
  exact bodyPost_ret (v := .tuple #[.agg #[.slice none 0 0, .slice none 0 0], .int .i64 2]) (by simp [results, Tryz.results47, go_sem, x0, x1]) rfl ⟨rfl, hp.then hm (fun i hi e => by omega)⟩

/-! ### Copy -/
theorem rCopy_ok {w : World} {aC : Option Addr} {cC : Nat} {aS : Option Addr} {cS : Nat} {Gs : List Grp} (h : RefI w aC cC aS cS Gs) : Calls Tryz.prog 120 #[refI aC cC aS cS Gs.length] w fun e w' => ∃ aC' cC' aS' cS', e = .returned (refI aC' cC' aS' cS' Gs.length) ∧ RefI w' aC' cC' aS' cS' Gs ∧ Pure w w' ∧
    (∀ k, (Value.slice aC' (8 * Gs.length) cC').ownBlock = some k → w.heap.size ≤ k) ∧ ∀ k, (Value.slice aS' (8 * Gs.length) cS').ownBlock = some k → w.heap.size ≤ k := by
  have hg1 := h.ok.pow.le
  have one1 : ∀ u ∈ u8s (laneC Gs), u.oneCell' = true := fun u hu => by obtain ⟨x, _, rfl⟩ := List.mem_map.1 hu; rfl
  have one2 : ∀ u ∈ u32v (laneS Gs), u.oneCell' = true := fun u hu => by obtain ⟨x, _, rfl⟩ := List.mem_map.1 hu; rfl
  have l1 : (u8s (laneC Gs)).length = 8 * Gs.length * 1 := h.C.1
  have l2 : (u32v (laneS Gs)).length = 8 * Gs.length * 1 := h.S.1
  have hp : Pure w ((w.alloc (.cells #[.slice aC (8 * Gs.length) cC, .slice aS (8 * Gs.length) cS] 36)).alloc (.cells #[.slice none 0 0, .slice none 0 0] 36)) := ((Mod.refl _ w).alloc _).alloc _
  have h1 := heap_keep (o := .cells #[.slice none 0 0, .slice none 0 0] 36 (0, 0)) (heap_new (w := w) (o := .cells #[.slice aC (8 * Gs.length) cC, .slice aS (8 * Gs.length) cS] 36 (0, 0)) rfl)
  have h2 := heap_new (w := w.alloc (.cells #[.slice aC (8 * Gs.length) cC, .slice aS (8 * Gs.length) cS] 36)) (o := .cells #[.slice none 0 0, .slice none 0 0] 36 (0, 0)) (n := w.heap.size + 1) (by simp)
  have HX := Lib.hid (h.pure hp)
  have HP := Lib.hid hp; have HL1 := Lib.hid l1; have HL2 := Lib.hid l2; have ON1 := Lib.hid one1; have ON2 := Lib.hid one2
  clear h hp l1 l2 one1 one2
  unfold refI
  go_enter Tryz.func120, Tryz.ntmps120
  go_upto_region 1 with fail
  generalize (w.alloc (.cells #[.slice aC (8 * Gs.length) cC, .slice aS (8 * Gs.length) cS] 36)).alloc (.cells #[.slice none 0 0, .slice none 0 0] 36) = W at *
  obtain ⟨b, hb⟩ : ∃ b, w.heap.size = b := ⟨_, rfl⟩
  rw [hb] at h1 h2 ⊢
  have HB := Lib.hid hb
  clear hb
  have H1 := Lib.hid h1; have H2 := Lib.hid h2
  obtain ⟨iA, hiA, iA0, iA1, iA2⟩ := info_parts info_u8
  obtain ⟨iB, hiB, iB0, iB1, iB2⟩ := info_parts info_u32
  have h1_0 := cell_of_row _ _ 0 _ _ _ h1; have h1_1 := cell_of_row _ _ 1 _ _ _ h1; have h1_f := (fun j => frozen_of_row _ _ j _ _ h1); have h1_l := lt_of_block h1; simp at h1_0 h1_1; have H_h1 := Lib.hid h1; clear h1
  have h2_0 := cell_of_row _ _ 0 _ _ _ h2; have h2_1 := cell_of_row _ _ 1 _ _ _ h2; have h2_f := (fun j => frozen_of_row _ _ j _ _ h2); have h2_l := lt_of_block h2; simp at h2_0 h2_1; have H_h2 := Lib.hid h2; clear h2
  have c0 : W.drew.cell? ⟨b, 0, none⟩ = _ := h1_0
  have c1 : W.drew.cell? ⟨b, 1, none⟩ = _ := h1_1
  have HC := Lib.hid (ReadAt.of_owns HX.out.C ON1.out); have HS := Lib.hid (ReadAt.of_owns HX.out.S ON2.out)
  go_region_law ((first
    | (refine step_append_read _ (by rfl) _ _ 33 (by rfl) 5 iA _ 1 1 Tryz.underlying33 hiA iA0 iA1 iA2 rfl (by decide) (.slice none 0 0) 0 [] (by rfl) (World.ownsRow_nil _ _ _ _) (.slice aC (8 * Gs.length) cC) (u8s (laneC Gs)) (8 * Gs.length) (by rfl) HC.out HL1.out (by unfold maxLen; omega) (by omega) ?_; intro a7 c7 w7 hr7 hg7 hb7; have hp7 : Pure W w7 := Mod.of_drew (Mod.of_grown (S := fun _ => False) hg7 (fun k e _ => (by cases e))); have k1 := hp7.cell (fun h => h) h1_1; have hf7 := hp7.heap (fun h => h) H2.out; have k20 := cell_of_row w7 _ 0 _ _ _ hf7; have k21 := cell_of_row w7 _ 1 _ _ _ hf7; have kf := (fun j => frozen_of_row w7 _ j _ _ hf7); simp at k20 k21)
    | (refine step_append_read _ (by rfl) _ _ 34 (by rfl) 43 iB _ 1 4 Tryz.underlying34 hiB iB0 iB1 iB2 rfl (by decide) (.slice none 0 0) 0 [] (by rfl) (World.ownsRow_nil _ _ _ _) (.slice aS (8 * Gs.length) cS) (u32v (laneS Gs)) (8 * Gs.length) (by rfl) (HS.out.frame hp7 (fun _ _ h => h)) HL2.out (by unfold maxLen; omega) (by omega) ?_; intro a9 c9 w9 hr9 hg9 hb9; have hp9 : Pure w7 w9 := Mod.of_grown (S := fun _ => False) hg9 (fun k e _ => (by cases e)); have hf9 := hp9.heap (fun h => h) hf7; have m20 := cell_of_row w9 _ 0 _ _ _ hf9; have m21 := cell_of_row w9 _ 1 _ _ _ hf9; have mf := (fun j => frozen_of_row w9 _ j _ _ hf9); simp at m20 m21)))
  all_goals
    have hr7' : w7.ownsRow 0 5 1 (.slice a7 (8 * Gs.length) c7) (8 * Gs.length) (u8s (laneC Gs)) := by simpa using hr7
    have hr9' : w9.ownsRow 0 43 1 (.slice a9 (8 * Gs.length) c9) (8 * Gs.length) (u32v (laneS Gs)) := by simpa using hr9
    have hr0 : RefI w9 a7 c7 a9 c9 Gs := ⟨owns_mod hr7' hp9 (fun _ _ h => h), hr9', HX.out.ok⟩
    have hm : Mod (fun i => i = b + 1) w9 ((w9.setCell ⟨b + 1, 0, none⟩ (.slice a7 (8 * Gs.length) c7)).setCell ⟨b + 1, 1, none⟩ (.slice a9 (8 * Gs.length) c9)) := Mod.set2 (b + 1) 0 1 _ _
    have hne : ∀ i, i = b + 1 → i < w9.heap.size → ∃ cs T' fz, w9.heap[i]? = some (.cells cs T' fz) ∧ T' ≠ 5 ∧ T' ≠ 43 := fun i e _ => ⟨_, _, _, e ▸ hf9, by decide, by decide⟩
    have m2 := heap_set12 (v0 := .slice a7 (8 * Gs.length) c7) (v1 := .slice a9 (8 * Gs.length) c9) hf9
    have x0 := cell_of_row _ (b + 1) 0 _ _ _ m2; have x1 := cell_of_row _ (b + 1) 1 _ _ _ m2
    simp at x0 x1
    have f7 : ∀ k, (Value.slice a7 (8 * Gs.length) c7).ownBlock = some k → w.heap.size ≤ k := fun k hk => by
      rcases hb7 with e | e
      · have : (Value.slice a7 (0 + 8 * Gs.length) c7).ownBlock = some k := by simpa [Value.ownBlock] using hk
        rw [this] at e; cases e
      · have : (Value.slice a7 (0 + 8 * Gs.length) c7).ownBlock = some k := by simpa [Value.ownBlock] using hk
        rw [this] at e; cases e; exact HP.out.size
    have f9 : ∀ k, (Value.slice a9 (8 * Gs.length) c9).ownBlock = some k → w.heap.size ≤ k := fun k hk => by
      rcases hb9 with e | e
      · have : (Value.slice a9 (0 + 8 * Gs.length) c9).ownBlock = some k := by simpa [Value.ownBlock] using hk
        rw [this] at e; cases e
      · have : (Value.slice a9 (0 + 8 * Gs.length) c9).ownBlock = some k := by simpa [Value.ownBlock] using hk
        rw [this] at e; cases e; exact (HP.out.trans hp7).size
    have HR := Lib.hid (hr0.modT hm hne)
    have HPW := Lib.hid (((HP.out.trans hp7).trans hp9).then hm (fun i hi e => by have := HB.out; omega))
    have HF7 := Lib.hid f7; have HF9 := Lib.hid f9
    clear hr7 hr9 hr7' hr9' hr0 hm hne hg7 hg9 hb7 hb9 f7 f9 k1 k20 k21 kf m20 m21 mf hf7 hf9 hp7 hp9 m2
    go_wp2_with fail
    exact bodyPost_ret (v := .agg #[.slice a7 (8 * Gs.length) c7, .slice a9 (8 * Gs.length) c9]) (by simp [results, Tryz.results120, go_sem, x0, x1]) rfl ⟨a7, c7, a9, c9, rfl, HR.out, HPW.out, HF7.out, HF9.out⟩

/-! ### Groups, Count, has -/
theorem rGroups_ok {w : World} {aC : Option Addr} {cC : Nat} {aS : Option Addr} {cS : Nat} {Gs : List Grp} (h : IxOk Gs) : Calls Tryz.prog 14 #[refI aC cC aS cS Gs.length] w fun e w' => e = .returned (.int .i64 Gs.length) ∧ Pure w w' := by
  have hg1 := h.pow.le
  have hp : Pure w (w.alloc (.cells #[.slice aC (8 * Gs.length) cC, .slice aS (8 * Gs.length) cS] 36)) := (Mod.refl _ w).alloc _
  have h1 := heap_new (w := w) (o := .cells #[.slice aC (8 * Gs.length) cC, .slice aS (8 * Gs.length) cS] 36 (0, 0)) rfl
  have e1 : (((8 * Gs.length : Nat) : Int)).tdiv 8 = (Gs.length : Int) := by rw [Int.tdiv_eq_ediv_of_nonneg (by omega)]; omega
  have e2 : (((8 * Gs.length : Nat) : Int)) / 8 = (Gs.length : Int) := by omega
  have e3 : (8 * (Gs.length : Int)).tdiv 8 = (Gs.length : Int) := by rw [Int.tdiv_eq_ediv_of_nonneg (by omega)]; omega
  have e4 : (8 * (Gs.length : Int)) / 8 = (Gs.length : Int) := by omega
  have w1 : IntKind.i64.wrap (Gs.length : Int) = Gs.length := IntWalk.i64_in _ (by omega)
  unfold refI
  go_enter Tryz.func14, Tryz.ntmps14
  go_upto_region 1 with fail
  generalize w.alloc (.cells #[.slice aC (8 * Gs.length) cC, .slice aS (8 * Gs.length) cS] 36) = W at *
  generalize w.heap.size = b at *
  have h1_0 := cell_of_row _ _ 0 _ _ _ h1; have h1_1 := cell_of_row _ _ 1 _ _ _ h1; have h1_f := (fun j => frozen_of_row _ _ j _ _ h1); have h1_l := lt_of_block h1; simp at h1_0 h1_1; have H_h1 := Lib.hid h1; clear h1
  go_wp2
  go_ret
  refine ⟨?_, hp⟩
  first | rfl | simp
end Go.Proofs.YtapplindfijngaaGreat
