/- law07.do: both answer alike. -/
import Derived.Test.YtbjiebhbmpafpaaDo1
namespace Go.Proofs.Ytbjiebhbmpafpaa
open Go.RowKit Go.Shelf
set_option maxRecDepth 100000

set_option maxHeartbeats 8000000 in
theorem do_ok {w W : World} {p : Nat} {sv : Value} {Gs : List Grp} {aC : Option Addr} {cC : Nat} {aS : Option Addr} {cS : Nat} (h : Has w p sv Gs W) (hr : RefI W aC cC aS cS Gs) (a : ActV) (ha : a.Ok) :
    Calls Try.prog 47 #[.pointer (some ⟨p, 0, none⟩), refI aC cC aS cS Gs.length, .agg #[.int .i64 a.what, .int .u64 (a.sum : Nat), .int .u32 (a.slot : Nat), .int .u32 (a.other : Nat), .int .i64 a.groups]] W (doPost w W p sv) := by
  by_cases hw1 : a.what = 1
  · exact do_find h hr a ha hw1
  have HW1 := Lib.hid hw1
  clear hw1
  have hww : w.heap.size ≤ W.heap.size := h.pu.size
  have HS := Lib.hid (DS.new h hr a)
  have hg1 := h.ix.ok.pow.le
  have HA := Lib.hid ha
  clear h hr
  unfold refI
  go_enter Try.func47, Try.ntmps47
  go_upto_region 1 with fail
  generalize ((W.alloc (.cells #[.slice aC (8 * Gs.length) cC, .slice aS (8 * Gs.length) cS] 82)).alloc (.cells #[.int .i64 a.what, .int .u64 (a.sum : Nat), .int .u32 (a.slot : Nat), .int .u32 (a.other : Nat), .int .i64 a.groups] 86)).alloc (.cells #[.slice none 0 0, .slice none 0 0] 82) = X at *
  have hbw := HS.out.bw
  obtain ⟨b, hbe⟩ : ∃ b, W.heap.size = b := ⟨_, rfl⟩
  rw [hbe] at HS hbw ⊢
  have HBW := Lib.hid hbe
  clear hbe hbw
  have z4 := HS.out.h4
  have z5 := HS.out.h5
  have z4_0 := cell_of_row _ _ 0 _ _ _ z4; have z4_1 := cell_of_row _ _ 1 _ _ _ z4; have z4_f := (fun j => frozen_of_row _ _ j _ _ z4); have z4_l := lt_of_block z4; simp at z4_0 z4_1; have H_z4 := Lib.hid z4; clear z4
  have z5_0 := cell_of_row _ _ 0 _ _ _ z5; have z5_1 := cell_of_row _ _ 1 _ _ _ z5; have z5_2 := cell_of_row _ _ 2 _ _ _ z5; have z5_3 := cell_of_row _ _ 3 _ _ _ z5; have z5_4 := cell_of_row _ _ 4 _ _ _ z5; have z5_f := (fun j => frozen_of_row _ _ j _ _ z5); have z5_l := lt_of_block z5; simp at z5_0 z5_1 z5_2 z5_3 z5_4; have H_z5 := Lib.hid z5; clear z5
  by_cases hw0 : a.what = 0
  · rw [hw0] at z5_0
    cases hm : insM Gs a.sum a.slot with
    | some Gs' =>
      have HX := Lib.hid (HS.out.hs.ins hm ha.sum ha.slot)
      go_upto_region 4 with (go_at_call 37; refine Calls.mono HX.out ?_; rintro e X1 ⟨rfl, hq, hmq⟩)
      obtain ⟨r1, r4, r5, r7, rm⟩ := HS.out.put hq hmq
      have HRI := Lib.hid (gIns r1 ha.sum ha.slot hm); have HQ := Lib.hid hq; have RM := Lib.hid rm
      have R7 := Lib.hid r7
      clear z4_0 z4_1 z4_f z4_l
      clear z5_0 z5_1 z5_2 z5_3 z5_4 z5_f z5_l
      clear H_z4 H_z5 HS HX hq hmq r1 rm r7
      have r4_0 := cell_of_row _ _ 0 _ _ _ r4; have r4_1 := cell_of_row _ _ 1 _ _ _ r4; have r4_f := (fun j => frozen_of_row _ _ j _ _ r4); have r4_l := lt_of_block r4; simp at r4_0 r4_1; have H_r4 := Lib.hid r4; clear r4
      have r5_0 := cell_of_row _ _ 0 _ _ _ r5; have r5_1 := cell_of_row _ _ 1 _ _ _ r5; have r5_2 := cell_of_row _ _ 2 _ _ _ r5; have r5_3 := cell_of_row _ _ 3 _ _ _ r5; have r5_4 := cell_of_row _ _ 4 _ _ _ r5; have r5_f := (fun j => frozen_of_row _ _ j _ _ r5); have r5_l := lt_of_block r5; simp at r5_0 r5_1 r5_2 r5_3 r5_4; have H_r5 := Lib.hid r5; clear r5
      obtain ⟨G2, hG2⟩ : ∃ G2, Gs' = G2 := ⟨_, rfl⟩
      rw [hG2] at HQ HRI
      clear hG2
      go_upto_region 5 with (go_at_call 94; refine Calls.mono HRI.out ?_; rintro e X2 ⟨a1, c1, a2, c2, rfl, hr2, hp2⟩)
      have hp3 := hp2.trans ((Mod.refl (fun _ => False) X2).alloc (.cells #[.slice a1 (8 * G2.length) c1, .slice a2 (8 * G2.length) c2] 82))
      have z10 := heap_new (w := X2) (o := .cells #[.slice a1 (8 * G2.length) c1, .slice a2 (8 * G2.length) c2] 82 (0, 0)) rfl
      have HF := Lib.hid (HQ.out.pure hp3)
      have HF2 := Lib.hid (hr2.pure ((Mod.refl (fun _ => False) X2).alloc (.cells #[.slice a1 (8 * G2.length) c1, .slice a2 (8 * G2.length) c2] 82)))
      have HF3 := Lib.hid (RM.out.then hp3 (fun _ _ h => h.elim))
      have z7 := hp3.heap (fun h => h) R7.out
      clear r4_0 r4_1 r4_f r4_l
      clear r5_0 r5_1 r5_2 r5_3 r5_4 r5_f r5_l
      clear H_r4 H_r5 hp2 hp3 hr2 HRI HQ RM R7
      generalize X2.alloc (.cells #[.slice a1 (8 * G2.length) c1, .slice a2 (8 * G2.length) c2] 82) = X3 at *
      have z10_0 := cell_of_row _ _ 0 _ _ _ z10; have z10_1 := cell_of_row _ _ 1 _ _ _ z10; have z10_f := (fun j => frozen_of_row _ _ j _ _ z10); have z10_l := lt_of_block z10; simp at z10_0 z10_1; have H_z10 := Lib.hid z10; clear z10
      have z7_0 := cell_of_row _ _ 0 _ _ _ z7; have z7_1 := cell_of_row _ _ 1 _ _ _ z7; have z7_f := (fun j => frozen_of_row _ _ j _ _ z7); have z7_l := lt_of_block z7; simp at z7_0 z7_1; have H_z7 := Lib.hid z7; clear z7
      go_region
      all_goals
        go_wp2
        obtain ⟨f1, f2, f3, x0, x1⟩ := do_fin (v0 := .slice a1 (8 * G2.length) c1) (v1 := .slice a2 (8 * G2.length) c2) HF.out HF2.out HF3.out H_z7.out hww (by have := HBW.out; omega) rfl
        obtain ⟨Y, hY⟩ : ∃ Y, ((X3.setCell ⟨b + 1 + 1, 0, none⟩ (.slice a1 (8 * G2.length) c1)).setCell ⟨b + 1 + 1, 1, none⟩ (.slice a2 (8 * G2.length) c2)).drew = Y := ⟨_, rfl⟩
        rw [hY] at f1 f2 f3 x0 x1 ⊢
        exact bodyPost_ret (v := .tuple #[.pointer (some ⟨p, 0, none⟩), .agg #[.slice a1 (8 * G2.length) c1, .slice a2 (8 * G2.length) c2], .bool true]) (by simp [results, Try.results47, go_sem, x0, x1]) rfl ⟨p, _, G2, a1, c1, a2, c2, rfl, f1, f2, f3⟩
    | none =>
      have HX := Lib.hid (HS.out.hs.ins_full hm ha.sum ha.slot)
      go_upto_region 4 with (go_at_call 37; refine Calls.mono HX.out ?_; rintro e X1 ⟨rfl, hq, hmq⟩)
      obtain ⟨r1, r4, r5, r7, rm⟩ := HS.out.put hq hmq
      have HRI := Lib.hid (gInsN r1 ha.sum ha.slot hm); have HQ := Lib.hid hq; have RM := Lib.hid rm
      have R7 := Lib.hid r7
      clear z4_0 z4_1 z4_f z4_l
      clear z5_0 z5_1 z5_2 z5_3 z5_4 z5_f z5_l
      clear H_z4 H_z5 HS HX hq hmq r1 rm r7
      have r4_0 := cell_of_row _ _ 0 _ _ _ r4; have r4_1 := cell_of_row _ _ 1 _ _ _ r4; have r4_f := (fun j => frozen_of_row _ _ j _ _ r4); have r4_l := lt_of_block r4; simp at r4_0 r4_1; have H_r4 := Lib.hid r4; clear r4
      have r5_0 := cell_of_row _ _ 0 _ _ _ r5; have r5_1 := cell_of_row _ _ 1 _ _ _ r5; have r5_2 := cell_of_row _ _ 2 _ _ _ r5; have r5_3 := cell_of_row _ _ 3 _ _ _ r5; have r5_4 := cell_of_row _ _ 4 _ _ _ r5; have r5_f := (fun j => frozen_of_row _ _ j _ _ r5); have r5_l := lt_of_block r5; simp at r5_0 r5_1 r5_2 r5_3 r5_4; have H_r5 := Lib.hid r5; clear r5
      go_upto_region 5 with (go_at_call 94; refine Calls.mono HRI.out ?_; rintro e X2 ⟨a1, c1, a2, c2, rfl, hr2, hp2⟩)
      have hp3 := hp2.trans ((Mod.refl (fun _ => False) X2).alloc (.cells #[.slice a1 (8 * Gs.length) c1, .slice a2 (8 * Gs.length) c2] 82))
      have z10 := heap_new (w := X2) (o := .cells #[.slice a1 (8 * Gs.length) c1, .slice a2 (8 * Gs.length) c2] 82 (0, 0)) rfl
      have HF := Lib.hid (HQ.out.pure hp3)
      have HF2 := Lib.hid (hr2.pure ((Mod.refl (fun _ => False) X2).alloc (.cells #[.slice a1 (8 * Gs.length) c1, .slice a2 (8 * Gs.length) c2] 82)))
      have HF3 := Lib.hid (RM.out.then hp3 (fun _ _ h => h.elim))
      have z7 := hp3.heap (fun h => h) R7.out
      clear r4_0 r4_1 r4_f r4_l
      clear r5_0 r5_1 r5_2 r5_3 r5_4 r5_f r5_l
      clear H_r4 H_r5 hp2 hp3 hr2 HRI HQ RM R7
      generalize X2.alloc (.cells #[.slice a1 (8 * Gs.length) c1, .slice a2 (8 * Gs.length) c2] 82) = X3 at *
      have z10_0 := cell_of_row _ _ 0 _ _ _ z10; have z10_1 := cell_of_row _ _ 1 _ _ _ z10; have z10_f := (fun j => frozen_of_row _ _ j _ _ z10); have z10_l := lt_of_block z10; simp at z10_0 z10_1; have H_z10 := Lib.hid z10; clear z10
      have z7_0 := cell_of_row _ _ 0 _ _ _ z7; have z7_1 := cell_of_row _ _ 1 _ _ _ z7; have z7_f := (fun j => frozen_of_row _ _ j _ _ z7); have z7_l := lt_of_block z7; simp at z7_0 z7_1; have H_z7 := Lib.hid z7; clear z7
      go_region
      all_goals
        go_wp2
        obtain ⟨f1, f2, f3, x0, x1⟩ := do_fin (v0 := .slice a1 (8 * Gs.length) c1) (v1 := .slice a2 (8 * Gs.length) c2) HF.out HF2.out HF3.out H_z7.out hww (by have := HBW.out; omega) rfl
        obtain ⟨Y, hY⟩ : ∃ Y, ((X3.setCell ⟨b + 1 + 1, 0, none⟩ (.slice a1 (8 * Gs.length) c1)).setCell ⟨b + 1 + 1, 1, none⟩ (.slice a2 (8 * Gs.length) c2)).drew = Y := ⟨_, rfl⟩
        rw [hY] at f1 f2 f3 x0 x1 ⊢
        exact bodyPost_ret (v := .tuple #[.pointer (some ⟨p, 0, none⟩), .agg #[.slice a1 (8 * Gs.length) c1, .slice a2 (8 * Gs.length) c2], .bool true]) (by simp [results, Try.results47, go_sem, x0, x1]) rfl ⟨p, _, Gs, a1, c1, a2, c2, rfl, f1, f2, f3⟩
  by_cases hw2 : a.what = 2
  · rw [hw2] at z5_0
    rcases hm : findM Gs a.sum (fun x => x == a.slot) with _ | ⟨i, j⟩
    · have HX := Lib.hid (HS.out.hs.rem_none hm ha.sum ha.slot)
      go_upto_region 17 with (go_at_call 41; refine Calls.mono HX.out ?_; rintro e X1 ⟨rfl, hq, hmq⟩)
      obtain ⟨r1, r4, r5, r7, rm⟩ := HS.out.put hq hmq
      have HRI := Lib.hid (gRemN r1 ha.sum ha.slot hm); have HQ := Lib.hid hq; have RM := Lib.hid rm
      have R7 := Lib.hid r7
      clear z4_0 z4_1 z4_f z4_l
      clear z5_0 z5_1 z5_2 z5_3 z5_4 z5_f z5_l
      clear H_z4 H_z5 HS HX hq hmq r1 rm r7
      have r4_0 := cell_of_row _ _ 0 _ _ _ r4; have r4_1 := cell_of_row _ _ 1 _ _ _ r4; have r4_f := (fun j => frozen_of_row _ _ j _ _ r4); have r4_l := lt_of_block r4; simp at r4_0 r4_1; have H_r4 := Lib.hid r4; clear r4
      have r5_0 := cell_of_row _ _ 0 _ _ _ r5; have r5_1 := cell_of_row _ _ 1 _ _ _ r5; have r5_2 := cell_of_row _ _ 2 _ _ _ r5; have r5_3 := cell_of_row _ _ 3 _ _ _ r5; have r5_4 := cell_of_row _ _ 4 _ _ _ r5; have r5_f := (fun j => frozen_of_row _ _ j _ _ r5); have r5_l := lt_of_block r5; simp at r5_0 r5_1 r5_2 r5_3 r5_4; have H_r5 := Lib.hid r5; clear r5
      go_upto_region 18 with (go_at_call 95; refine Calls.mono HRI.out ?_; rintro e X2 ⟨a1, c1, a2, c2, rfl, hr2, hp2⟩)
      have hp3 := hp2.trans ((Mod.refl (fun _ => False) X2).alloc (.cells #[.slice a1 (8 * Gs.length) c1, .slice a2 (8 * Gs.length) c2] 82))
      have z10 := heap_new (w := X2) (o := .cells #[.slice a1 (8 * Gs.length) c1, .slice a2 (8 * Gs.length) c2] 82 (0, 0)) rfl
      have HF := Lib.hid (HQ.out.pure hp3)
      have HF2 := Lib.hid (hr2.pure ((Mod.refl (fun _ => False) X2).alloc (.cells #[.slice a1 (8 * Gs.length) c1, .slice a2 (8 * Gs.length) c2] 82)))
      have HF3 := Lib.hid (RM.out.then hp3 (fun _ _ h => h.elim))
      have z7 := hp3.heap (fun h => h) R7.out
      clear r4_0 r4_1 r4_f r4_l
      clear r5_0 r5_1 r5_2 r5_3 r5_4 r5_f r5_l
      clear H_r4 H_r5 hp2 hp3 hr2 HRI HQ RM R7
      generalize X2.alloc (.cells #[.slice a1 (8 * Gs.length) c1, .slice a2 (8 * Gs.length) c2] 82) = X3 at *
      have z10_0 := cell_of_row _ _ 0 _ _ _ z10; have z10_1 := cell_of_row _ _ 1 _ _ _ z10; have z10_f := (fun j => frozen_of_row _ _ j _ _ z10); have z10_l := lt_of_block z10; simp at z10_0 z10_1; have H_z10 := Lib.hid z10; clear z10
      have z7_0 := cell_of_row _ _ 0 _ _ _ z7; have z7_1 := cell_of_row _ _ 1 _ _ _ z7; have z7_f := (fun j => frozen_of_row _ _ j _ _ z7); have z7_l := lt_of_block z7; simp at z7_0 z7_1; have H_z7 := Lib.hid z7; clear z7
      go_region
      all_goals
        go_wp2
        obtain ⟨f1, f2, f3, x0, x1⟩ := do_fin (v0 := .slice a1 (8 * Gs.length) c1) (v1 := .slice a2 (8 * Gs.length) c2) HF.out HF2.out HF3.out H_z7.out hww (by have := HBW.out; omega) rfl
        obtain ⟨Y, hY⟩ : ∃ Y, ((X3.setCell ⟨b + 1 + 1, 0, none⟩ (.slice a1 (8 * Gs.length) c1)).setCell ⟨b + 1 + 1, 1, none⟩ (.slice a2 (8 * Gs.length) c2)).drew = Y := ⟨_, rfl⟩
        rw [hY] at f1 f2 f3 x0 x1 ⊢
        exact bodyPost_ret (v := .tuple #[.pointer (some ⟨p, 0, none⟩), .agg #[.slice a1 (8 * Gs.length) c1, .slice a2 (8 * Gs.length) c2], .bool true]) (by simp [results, Try.results47, go_sem, x0, x1]) rfl ⟨p, _, Gs, a1, c1, a2, c2, rfl, f1, f2, f3⟩
    · have HX := Lib.hid (HS.out.hs.rem hm ha.sum ha.slot)
      go_upto_region 17 with (go_at_call 41; refine Calls.mono HX.out ?_; rintro e X1 ⟨rfl, hq, hmq⟩)
      obtain ⟨r1, r4, r5, r7, rm⟩ := HS.out.put hq hmq
      have HRI := Lib.hid (gRem r1 ha.sum ha.slot hm); have HQ := Lib.hid hq; have RM := Lib.hid rm
      have R7 := Lib.hid r7
      clear z4_0 z4_1 z4_f z4_l
      clear z5_0 z5_1 z5_2 z5_3 z5_4 z5_f z5_l
      clear H_z4 H_z5 HS HX hq hmq r1 rm r7
      have r4_0 := cell_of_row _ _ 0 _ _ _ r4; have r4_1 := cell_of_row _ _ 1 _ _ _ r4; have r4_f := (fun j => frozen_of_row _ _ j _ _ r4); have r4_l := lt_of_block r4; simp at r4_0 r4_1; have H_r4 := Lib.hid r4; clear r4
      have r5_0 := cell_of_row _ _ 0 _ _ _ r5; have r5_1 := cell_of_row _ _ 1 _ _ _ r5; have r5_2 := cell_of_row _ _ 2 _ _ _ r5; have r5_3 := cell_of_row _ _ 3 _ _ _ r5; have r5_4 := cell_of_row _ _ 4 _ _ _ r5; have r5_f := (fun j => frozen_of_row _ _ j _ _ r5); have r5_l := lt_of_block r5; simp at r5_0 r5_1 r5_2 r5_3 r5_4; have H_r5 := Lib.hid r5; clear r5
      obtain ⟨G2, hG2⟩ : ∃ G2, (delG Gs i j) = G2 := ⟨_, rfl⟩
      rw [hG2] at HQ HRI
      clear hG2
      go_upto_region 18 with (go_at_call 95; refine Calls.mono HRI.out ?_; rintro e X2 ⟨a1, c1, a2, c2, rfl, hr2, hp2⟩)
      have hp3 := hp2.trans ((Mod.refl (fun _ => False) X2).alloc (.cells #[.slice a1 (8 * G2.length) c1, .slice a2 (8 * G2.length) c2] 82))
      have z10 := heap_new (w := X2) (o := .cells #[.slice a1 (8 * G2.length) c1, .slice a2 (8 * G2.length) c2] 82 (0, 0)) rfl
      have HF := Lib.hid (HQ.out.pure hp3)
      have HF2 := Lib.hid (hr2.pure ((Mod.refl (fun _ => False) X2).alloc (.cells #[.slice a1 (8 * G2.length) c1, .slice a2 (8 * G2.length) c2] 82)))
      have HF3 := Lib.hid (RM.out.then hp3 (fun _ _ h => h.elim))
      have z7 := hp3.heap (fun h => h) R7.out
      clear r4_0 r4_1 r4_f r4_l
      clear r5_0 r5_1 r5_2 r5_3 r5_4 r5_f r5_l
      clear H_r4 H_r5 hp2 hp3 hr2 HRI HQ RM R7
      generalize X2.alloc (.cells #[.slice a1 (8 * G2.length) c1, .slice a2 (8 * G2.length) c2] 82) = X3 at *
      have z10_0 := cell_of_row _ _ 0 _ _ _ z10; have z10_1 := cell_of_row _ _ 1 _ _ _ z10; have z10_f := (fun j => frozen_of_row _ _ j _ _ z10); have z10_l := lt_of_block z10; simp at z10_0 z10_1; have H_z10 := Lib.hid z10; clear z10
      have z7_0 := cell_of_row _ _ 0 _ _ _ z7; have z7_1 := cell_of_row _ _ 1 _ _ _ z7; have z7_f := (fun j => frozen_of_row _ _ j _ _ z7); have z7_l := lt_of_block z7; simp at z7_0 z7_1; have H_z7 := Lib.hid z7; clear z7
      go_region
      all_goals
        go_wp2
        obtain ⟨f1, f2, f3, x0, x1⟩ := do_fin (v0 := .slice a1 (8 * G2.length) c1) (v1 := .slice a2 (8 * G2.length) c2) HF.out HF2.out HF3.out H_z7.out hww (by have := HBW.out; omega) rfl
        obtain ⟨Y, hY⟩ : ∃ Y, ((X3.setCell ⟨b + 1 + 1, 0, none⟩ (.slice a1 (8 * G2.length) c1)).setCell ⟨b + 1 + 1, 1, none⟩ (.slice a2 (8 * G2.length) c2)).drew = Y := ⟨_, rfl⟩
        rw [hY] at f1 f2 f3 x0 x1 ⊢
        exact bodyPost_ret (v := .tuple #[.pointer (some ⟨p, 0, none⟩), .agg #[.slice a1 (8 * G2.length) c1, .slice a2 (8 * G2.length) c2], .bool true]) (by simp [results, Try.results47, go_sem, x0, x1]) rfl ⟨p, _, G2, a1, c1, a2, c2, rfl, f1, f2, f3⟩
  by_cases hw3 : a.what = 3
  · rw [hw3] at z5_0
    rcases hm : findM Gs a.sum (fun x => x == a.slot) with _ | ⟨i, j⟩
    · have HX := Lib.hid (HS.out.hs.rep_none hm ha.sum ha.slot ha.other)
      go_upto_region 21 with (go_at_call 53; refine Calls.mono HX.out ?_; rintro e X1 ⟨rfl, hq, hmq⟩)
      obtain ⟨r1, r4, r5, r7, rm⟩ := HS.out.put hq hmq
      have HRI := Lib.hid (gRepN r1 ha.sum ha.slot ha.other hm); have HQ := Lib.hid hq; have RM := Lib.hid rm
      have R7 := Lib.hid r7
      clear z4_0 z4_1 z4_f z4_l
      clear z5_0 z5_1 z5_2 z5_3 z5_4 z5_f z5_l
      clear H_z4 H_z5 HS HX hq hmq r1 rm r7
      have r4_0 := cell_of_row _ _ 0 _ _ _ r4; have r4_1 := cell_of_row _ _ 1 _ _ _ r4; have r4_f := (fun j => frozen_of_row _ _ j _ _ r4); have r4_l := lt_of_block r4; simp at r4_0 r4_1; have H_r4 := Lib.hid r4; clear r4
      have r5_0 := cell_of_row _ _ 0 _ _ _ r5; have r5_1 := cell_of_row _ _ 1 _ _ _ r5; have r5_2 := cell_of_row _ _ 2 _ _ _ r5; have r5_3 := cell_of_row _ _ 3 _ _ _ r5; have r5_4 := cell_of_row _ _ 4 _ _ _ r5; have r5_f := (fun j => frozen_of_row _ _ j _ _ r5); have r5_l := lt_of_block r5; simp at r5_0 r5_1 r5_2 r5_3 r5_4; have H_r5 := Lib.hid r5; clear r5
      go_upto_region 22 with (go_at_call 96; refine Calls.mono HRI.out ?_; rintro e X2 ⟨a1, c1, a2, c2, rfl, hr2, hp2⟩)
      have hp3 := hp2.trans ((Mod.refl (fun _ => False) X2).alloc (.cells #[.slice a1 (8 * Gs.length) c1, .slice a2 (8 * Gs.length) c2] 82))
      have z10 := heap_new (w := X2) (o := .cells #[.slice a1 (8 * Gs.length) c1, .slice a2 (8 * Gs.length) c2] 82 (0, 0)) rfl
      have HF := Lib.hid (HQ.out.pure hp3)
      have HF2 := Lib.hid (hr2.pure ((Mod.refl (fun _ => False) X2).alloc (.cells #[.slice a1 (8 * Gs.length) c1, .slice a2 (8 * Gs.length) c2] 82)))
      have HF3 := Lib.hid (RM.out.then hp3 (fun _ _ h => h.elim))
      have z7 := hp3.heap (fun h => h) R7.out
      clear r4_0 r4_1 r4_f r4_l
      clear r5_0 r5_1 r5_2 r5_3 r5_4 r5_f r5_l
      clear H_r4 H_r5 hp2 hp3 hr2 HRI HQ RM R7
      generalize X2.alloc (.cells #[.slice a1 (8 * Gs.length) c1, .slice a2 (8 * Gs.length) c2] 82) = X3 at *
      have z10_0 := cell_of_row _ _ 0 _ _ _ z10; have z10_1 := cell_of_row _ _ 1 _ _ _ z10; have z10_f := (fun j => frozen_of_row _ _ j _ _ z10); have z10_l := lt_of_block z10; simp at z10_0 z10_1; have H_z10 := Lib.hid z10; clear z10
      have z7_0 := cell_of_row _ _ 0 _ _ _ z7; have z7_1 := cell_of_row _ _ 1 _ _ _ z7; have z7_f := (fun j => frozen_of_row _ _ j _ _ z7); have z7_l := lt_of_block z7; simp at z7_0 z7_1; have H_z7 := Lib.hid z7; clear z7
      go_region
      all_goals
        go_wp2
        obtain ⟨f1, f2, f3, x0, x1⟩ := do_fin (v0 := .slice a1 (8 * Gs.length) c1) (v1 := .slice a2 (8 * Gs.length) c2) HF.out HF2.out HF3.out H_z7.out hww (by have := HBW.out; omega) rfl
        obtain ⟨Y, hY⟩ : ∃ Y, ((X3.setCell ⟨b + 1 + 1, 0, none⟩ (.slice a1 (8 * Gs.length) c1)).setCell ⟨b + 1 + 1, 1, none⟩ (.slice a2 (8 * Gs.length) c2)).drew = Y := ⟨_, rfl⟩
        rw [hY] at f1 f2 f3 x0 x1 ⊢
        exact bodyPost_ret (v := .tuple #[.pointer (some ⟨p, 0, none⟩), .agg #[.slice a1 (8 * Gs.length) c1, .slice a2 (8 * Gs.length) c2], .bool true]) (by simp [results, Try.results47, go_sem, x0, x1]) rfl ⟨p, _, Gs, a1, c1, a2, c2, rfl, f1, f2, f3⟩
    · have HX := Lib.hid (HS.out.hs.rep hm ha.sum ha.slot ha.other)
      go_upto_region 21 with (go_at_call 53; refine Calls.mono HX.out ?_; rintro e X1 ⟨rfl, hq, hmq⟩)
      obtain ⟨r1, r4, r5, r7, rm⟩ := HS.out.put hq hmq
      have HRI := Lib.hid (gRep r1 ha.sum ha.slot ha.other hm); have HQ := Lib.hid hq; have RM := Lib.hid rm
      have R7 := Lib.hid r7
      clear z4_0 z4_1 z4_f z4_l
      clear z5_0 z5_1 z5_2 z5_3 z5_4 z5_f z5_l
      clear H_z4 H_z5 HS HX hq hmq r1 rm r7
      have r4_0 := cell_of_row _ _ 0 _ _ _ r4; have r4_1 := cell_of_row _ _ 1 _ _ _ r4; have r4_f := (fun j => frozen_of_row _ _ j _ _ r4); have r4_l := lt_of_block r4; simp at r4_0 r4_1; have H_r4 := Lib.hid r4; clear r4
      have r5_0 := cell_of_row _ _ 0 _ _ _ r5; have r5_1 := cell_of_row _ _ 1 _ _ _ r5; have r5_2 := cell_of_row _ _ 2 _ _ _ r5; have r5_3 := cell_of_row _ _ 3 _ _ _ r5; have r5_4 := cell_of_row _ _ 4 _ _ _ r5; have r5_f := (fun j => frozen_of_row _ _ j _ _ r5); have r5_l := lt_of_block r5; simp at r5_0 r5_1 r5_2 r5_3 r5_4; have H_r5 := Lib.hid r5; clear r5
      obtain ⟨G2, hG2⟩ : ∃ G2, (setG Gs i j (a.sum % 128) a.other) = G2 := ⟨_, rfl⟩
      rw [hG2] at HQ HRI
      clear hG2
      go_upto_region 22 with (go_at_call 96; refine Calls.mono HRI.out ?_; rintro e X2 ⟨a1, c1, a2, c2, rfl, hr2, hp2⟩)
      have hp3 := hp2.trans ((Mod.refl (fun _ => False) X2).alloc (.cells #[.slice a1 (8 * G2.length) c1, .slice a2 (8 * G2.length) c2] 82))
      have z10 := heap_new (w := X2) (o := .cells #[.slice a1 (8 * G2.length) c1, .slice a2 (8 * G2.length) c2] 82 (0, 0)) rfl
      have HF := Lib.hid (HQ.out.pure hp3)
      have HF2 := Lib.hid (hr2.pure ((Mod.refl (fun _ => False) X2).alloc (.cells #[.slice a1 (8 * G2.length) c1, .slice a2 (8 * G2.length) c2] 82)))
      have HF3 := Lib.hid (RM.out.then hp3 (fun _ _ h => h.elim))
      have z7 := hp3.heap (fun h => h) R7.out
      clear r4_0 r4_1 r4_f r4_l
      clear r5_0 r5_1 r5_2 r5_3 r5_4 r5_f r5_l
      clear H_r4 H_r5 hp2 hp3 hr2 HRI HQ RM R7
      generalize X2.alloc (.cells #[.slice a1 (8 * G2.length) c1, .slice a2 (8 * G2.length) c2] 82) = X3 at *
      have z10_0 := cell_of_row _ _ 0 _ _ _ z10; have z10_1 := cell_of_row _ _ 1 _ _ _ z10; have z10_f := (fun j => frozen_of_row _ _ j _ _ z10); have z10_l := lt_of_block z10; simp at z10_0 z10_1; have H_z10 := Lib.hid z10; clear z10
      have z7_0 := cell_of_row _ _ 0 _ _ _ z7; have z7_1 := cell_of_row _ _ 1 _ _ _ z7; have z7_f := (fun j => frozen_of_row _ _ j _ _ z7); have z7_l := lt_of_block z7; simp at z7_0 z7_1; have H_z7 := Lib.hid z7; clear z7
      go_region
      all_goals
        go_wp2
        obtain ⟨f1, f2, f3, x0, x1⟩ := do_fin (v0 := .slice a1 (8 * G2.length) c1) (v1 := .slice a2 (8 * G2.length) c2) HF.out HF2.out HF3.out H_z7.out hww (by have := HBW.out; omega) rfl
        obtain ⟨Y, hY⟩ : ∃ Y, ((X3.setCell ⟨b + 1 + 1, 0, none⟩ (.slice a1 (8 * G2.length) c1)).setCell ⟨b + 1 + 1, 1, none⟩ (.slice a2 (8 * G2.length) c2)).drew = Y := ⟨_, rfl⟩
        rw [hY] at f1 f2 f3 x0 x1 ⊢
        exact bodyPost_ret (v := .tuple #[.pointer (some ⟨p, 0, none⟩), .agg #[.slice a1 (8 * G2.length) c1, .slice a2 (8 * G2.length) c2], .bool true]) (by simp [results, Try.results47, go_sem, x0, x1]) rfl ⟨p, _, G2, a1, c1, a2, c2, rfl, f1, f2, f3⟩
  by_cases hw4 : a.what = 4
  · rw [hw4] at z5_0
    have wo : IntKind.u64.wrap (a.other : Int) = a.other := u64_wrap a.other (by have := ha.other; omega)
    by_cases hg64 : 64 < a.groups
    · have z7 := HS.out.h7
      have z7_0 := cell_of_row _ _ 0 _ _ _ z7; have z7_1 := cell_of_row _ _ 1 _ _ _ z7; have z7_f := (fun j => frozen_of_row _ _ j _ _ z7); have z7_l := lt_of_block z7; simp at z7_0 z7_1; have H_z7 := Lib.hid z7; clear z7
      go_upto_region 25 with fail
      go_region
      all_goals
        go_wp2
        obtain ⟨f1, f2, f3, x0, x1⟩ := do_fin (v0 := .slice aC (8 * Gs.length) cC) (v1 := .slice aS (8 * Gs.length) cS) HS.out.hs HS.out.rf HS.out.mw H_z7.out hww (by have := HBW.out; omega) rfl
        obtain ⟨Y, hY⟩ : ∃ Y, ((X.setCell ⟨b + 1 + 1, 0, none⟩ (.slice aC (8 * Gs.length) cC)).setCell ⟨b + 1 + 1, 1, none⟩ (.slice aS (8 * Gs.length) cS)).drew = Y := ⟨_, rfl⟩
        rw [hY] at f1 f2 f3 x0 x1 ⊢
        exact bodyPost_ret (v := .tuple #[.pointer (some ⟨p, 0, none⟩), .agg #[.slice aC (8 * Gs.length) cC, .slice aS (8 * Gs.length) cS], .bool true]) (by simp [results, Try.results47, go_sem, x0, x1]) rfl ⟨p, _, Gs, aC, cC, aS, cS, rfl, f1, f2, f3⟩
    · by_cases hv : validM a.groups = true
      · obtain ⟨g, hg, hge⟩ := (validM_iff a.groups).1 hv
        rw [hge] at z5_4 hg64
        by_cases hu : 8 * g < usedN Gs
        · have HX := Lib.hid (Rehash_full HS.out.hs.ix g hg hu 97 #[.pointer (some ⟨b + 1, 0, none⟩)])
          go_upto_region 27 with (go_at_call 42; refine Calls.mono HX.out ?_; rintro e X1 ⟨rfl, hp1⟩)
          have HS1 := Lib.hid (HS.out.pure hp1)
          have HRI := Lib.hid (rRehash_full HS1.out.rf g (a.sum : Nat) (a.other : Nat) hg hu)
          clear z4_0 z4_1 z4_f z4_l
          clear z5_0 z5_1 z5_2 z5_3 z5_4 z5_f z5_l
          clear H_z4 H_z5 HS HX hp1
          have r4 := HS1.out.h4
          have r5 := HS1.out.h5
          have r4_0 := cell_of_row _ _ 0 _ _ _ r4; have r4_1 := cell_of_row _ _ 1 _ _ _ r4; have r4_f := (fun j => frozen_of_row _ _ j _ _ r4); have r4_l := lt_of_block r4; simp at r4_0 r4_1; have H_r4 := Lib.hid r4; clear r4
          have r5_0 := cell_of_row _ _ 0 _ _ _ r5; have r5_1 := cell_of_row _ _ 1 _ _ _ r5; have r5_2 := cell_of_row _ _ 2 _ _ _ r5; have r5_3 := cell_of_row _ _ 3 _ _ _ r5; have r5_4 := cell_of_row _ _ 4 _ _ _ r5; have r5_f := (fun j => frozen_of_row _ _ j _ _ r5); have r5_l := lt_of_block r5; simp at r5_0 r5_1 r5_2 r5_3 r5_4; have H_r5 := Lib.hid r5; clear r5
          rw [hge] at r5_4
          go_upto_region 28 with (go_at_call 98; refine Calls.mono HRI.out ?_; rintro e X2 ⟨rfl, hp2⟩)
          have HS3 := Lib.hid (HS1.out.pure (hp2.trans ((Mod.refl (fun _ => False) X2).alloc (.cells #[.slice none 0 0, .slice none 0 0] 82))))
          clear r4_0 r4_1 r4_f r4_l
          clear r5_0 r5_1 r5_2 r5_3 r5_4 r5_f r5_l
          clear H_r4 H_r5 HS1 HRI hp2
          generalize X2.alloc (.cells #[.slice none 0 0, .slice none 0 0] 82) = X3 at *
          have z4 := HS3.out.h4
          have z7 := HS3.out.h7
          have z4_0 := cell_of_row _ _ 0 _ _ _ z4; have z4_1 := cell_of_row _ _ 1 _ _ _ z4; have z4_f := (fun j => frozen_of_row _ _ j _ _ z4); have z4_l := lt_of_block z4; simp at z4_0 z4_1; have H_z4 := Lib.hid z4; clear z4
          have z7_0 := cell_of_row _ _ 0 _ _ _ z7; have z7_1 := cell_of_row _ _ 1 _ _ _ z7; have z7_f := (fun j => frozen_of_row _ _ j _ _ z7); have z7_l := lt_of_block z7; simp at z7_0 z7_1; have H_z7 := Lib.hid z7; clear z7
          go_upto_region 31 with fail
          go_region
          all_goals
            go_wp2
            obtain ⟨f1, f2, f3, x0, x1⟩ := do_fin (v0 := .slice aC (8 * Gs.length) cC) (v1 := .slice aS (8 * Gs.length) cS) HS3.out.hs HS3.out.rf HS3.out.mw H_z7.out hww (by have := HBW.out; omega) rfl
            obtain ⟨Y, hY⟩ : ∃ Y, ((X3.setCell ⟨b + 1 + 1, 0, none⟩ (.slice aC (8 * Gs.length) cC)).setCell ⟨b + 1 + 1, 1, none⟩ (.slice aS (8 * Gs.length) cS)).drew = Y := ⟨_, rfl⟩
            rw [hY] at f1 f2 f3 x0 x1 ⊢
            exact bodyPost_ret (v := .tuple #[.pointer (some ⟨p, 0, none⟩), .agg #[.slice aC (8 * Gs.length) cC, .slice aS (8 * Gs.length) cS], .bool true]) (by simp [results, Try.results47, go_sem, x0, x1]) rfl ⟨p, _, Gs, aC, cC, aS, cS, rfl, f1, f2, f3⟩
        · have hu' : usedN Gs ≤ 8 * g := by omega
          have HX := Lib.hid (Rehash_ok HS.out.hs.ix g hg hu' (do_closure HA.out HS.out.h5) (fun _ _ => trivial))
          go_upto_region 27 with (go_at_call 42; refine Calls.mono HX.out ?_; rintro e X1 ⟨p2, sv2, rfl, hx1, hx2, hx3, hx4, hx5, _⟩)
          have HS1 := Lib.hid (HS.out.pure hx2)
          have hlw : w.heap.size ≤ X.heap.size := HS.out.hs.pu.size
          have hnw : Has w p2 sv2 (rehM (sumM a.sum a.other) g Gs) X1 := ⟨hx1, HS.out.hs.pu.trans hx2, Nat.le_trans hlw hx3, fun k hk => Nat.le_trans hlw (hx4 k hk)⟩
          have hdj : ∀ k, (k = p2 ∨ sv2.ownBlock = some k) → ¬ (k = p ∨ sv.ownBlock = some k) := fun k hk hk2 => by
            have h1 := HS.out.hs.lt hk2
            rcases hk with rfl | e
            · omega
            · have := hx4 k e; omega
          have HRI := Lib.hid (gReh HS1.out.rf hg hu' HA.out.sum (by have := HA.out.other; omega : a.other < 18446744073709551616))
          have HNW := Lib.hid hnw; have HDJ := Lib.hid hdj
          clear z4_0 z4_1 z4_f z4_l
          clear z5_0 z5_1 z5_2 z5_3 z5_4 z5_f z5_l
          clear H_z4 H_z5 HS HX hx1 hx2 hx3 hx4 hx5 hnw hdj hlw
          generalize rehM (sumM a.sum a.other) g Gs = G2 at HRI HNW
          have r4 := HS1.out.h4
          have r5 := HS1.out.h5
          have r4_0 := cell_of_row _ _ 0 _ _ _ r4; have r4_1 := cell_of_row _ _ 1 _ _ _ r4; have r4_f := (fun j => frozen_of_row _ _ j _ _ r4); have r4_l := lt_of_block r4; simp at r4_0 r4_1; have H_r4 := Lib.hid r4; clear r4
          have r5_0 := cell_of_row _ _ 0 _ _ _ r5; have r5_1 := cell_of_row _ _ 1 _ _ _ r5; have r5_2 := cell_of_row _ _ 2 _ _ _ r5; have r5_3 := cell_of_row _ _ 3 _ _ _ r5; have r5_4 := cell_of_row _ _ 4 _ _ _ r5; have r5_f := (fun j => frozen_of_row _ _ j _ _ r5); have r5_l := lt_of_block r5; simp at r5_0 r5_1 r5_2 r5_3 r5_4; have H_r5 := Lib.hid r5; clear r5
          rw [hge] at r5_4
          go_upto_region 28 with (go_at_call 98; refine Calls.mono HRI.out ?_; rintro e X2 ⟨a1, c1, a2, c2, rfl, hr2, hp2⟩)
          have hal : Pure X2 (X2.alloc (.cells #[.slice a1 (8 * G2.length) c1, .slice a2 (8 * G2.length) c2] 82)) := (Mod.refl _ X2).alloc _
          have z23 := heap_new (w := X2) (o := .cells #[.slice a1 (8 * G2.length) c1, .slice a2 (8 * G2.length) c2] 82 (0, 0)) rfl
          have HS3 := Lib.hid (HS1.out.pure (hp2.trans hal))
          have HN3 := Lib.hid (HNW.out.pure (hp2.trans hal))
          have HR3 := Lib.hid (hr2.pure hal)
          clear r4_0 r4_1 r4_f r4_l
          clear r5_0 r5_1 r5_2 r5_3 r5_4 r5_f r5_l
          clear H_r4 H_r5 HS1 HRI hp2 hal hr2 HNW
          generalize X2.alloc (.cells #[.slice a1 (8 * G2.length) c1, .slice a2 (8 * G2.length) c2] 82) = X3 at *
          have z5 := HS3.out.h5
          have z5_0 := cell_of_row _ _ 0 _ _ _ z5; have z5_1 := cell_of_row _ _ 1 _ _ _ z5; have z5_2 := cell_of_row _ _ 2 _ _ _ z5; have z5_3 := cell_of_row _ _ 3 _ _ _ z5; have z5_4 := cell_of_row _ _ 4 _ _ _ z5; have z5_f := (fun j => frozen_of_row _ _ j _ _ z5); have z5_l := lt_of_block z5; simp at z5_0 z5_1 z5_2 z5_3 z5_4; have H_z5 := Lib.hid z5; clear z5
          have HI := Lib.hid (HS3.out.hs.insA HA.out.sum (by decide : 99 ≤ 4294967295))
          go_upto_region 33 with (go_at_call 37; refine Calls.mono HI.out ?_; rintro e X4 ⟨z, G3, rfl, hq, hmq⟩)
          have h4 := HN3.out.frame hmq (fun k hk => HDJ.out k hk) (fun k hk => HS3.out.hs.d k hk)
          have HF := Lib.hid h4
          have HF2 := Lib.hid (HR3.out.ix HS3.out.hs hmq)
          have HF3 := Lib.hid (HS3.out.mw.trans hmq)
          have z7 := hmq.heap (HS3.out.hs.nb HS3.out.h7 (by decide) (by decide)) HS3.out.h7
          have z10 := hmq.heap (HS3.out.hs.nb z23 (by decide) (by decide)) z23
          clear z5_0 z5_1 z5_2 z5_3 z5_4 z5_f z5_l
          clear H_z5 HS3 HN3 HR3 HI hq hmq h4 z23
          have z10_0 := cell_of_row _ _ 0 _ _ _ z10; have z10_1 := cell_of_row _ _ 1 _ _ _ z10; have z10_f := (fun j => frozen_of_row _ _ j _ _ z10); have z10_l := lt_of_block z10; simp at z10_0 z10_1; have H_z10 := Lib.hid z10; clear z10
          have z7_0 := cell_of_row _ _ 0 _ _ _ z7; have z7_1 := cell_of_row _ _ 1 _ _ _ z7; have z7_f := (fun j => frozen_of_row _ _ j _ _ z7); have z7_l := lt_of_block z7; simp at z7_0 z7_1; have H_z7 := Lib.hid z7; clear z7
          go_region
          all_goals
            go_wp2
            obtain ⟨f1, f2, f3, x0, x1⟩ := do_fin (v0 := .slice a1 (8 * G2.length) c1) (v1 := .slice a2 (8 * G2.length) c2) HF.out HF2.out HF3.out H_z7.out hww (by have := HBW.out; omega) rfl
            obtain ⟨Y, hY⟩ : ∃ Y, ((X4.setCell ⟨b + 1 + 1, 0, none⟩ (.slice a1 (8 * G2.length) c1)).setCell ⟨b + 1 + 1, 1, none⟩ (.slice a2 (8 * G2.length) c2)).drew = Y := ⟨_, rfl⟩
            rw [hY] at f1 f2 f3 x0 x1 ⊢
            exact bodyPost_ret (v := .tuple #[.pointer (some ⟨p2, 0, none⟩), .agg #[.slice a1 (8 * G2.length) c1, .slice a2 (8 * G2.length) c2], .bool true]) (by simp [results, Try.results47, go_sem, x0, x1]) rfl ⟨p2, _, G2, a1, c1, a2, c2, rfl, f1, f2, f3⟩
      · have hv' : validM a.groups = false := by simpa using hv
        have hge : a.groups = a.groups := rfl
        have HX := Lib.hid (Rehash_bad HS.out.hs.ix a.groups hv' 97 #[.pointer (some ⟨b + 1, 0, none⟩)])
        go_upto_region 27 with (go_at_call 42; refine Calls.mono HX.out ?_; rintro e X1 ⟨rfl, hp1⟩)
        have HS1 := Lib.hid (HS.out.pure hp1)
        have HRI := Lib.hid (rRehash_bad (w := X1) (aC := aC) (cC := cC) (aS := aS) (cS := cS) (n := 8 * Gs.length) a.groups (a.sum : Nat) (a.other : Nat) hv')
        clear z4_0 z4_1 z4_f z4_l
        clear z5_0 z5_1 z5_2 z5_3 z5_4 z5_f z5_l
        clear H_z4 H_z5 HS HX hp1
        have r4 := HS1.out.h4
        have r5 := HS1.out.h5
        have r4_0 := cell_of_row _ _ 0 _ _ _ r4; have r4_1 := cell_of_row _ _ 1 _ _ _ r4; have r4_f := (fun j => frozen_of_row _ _ j _ _ r4); have r4_l := lt_of_block r4; simp at r4_0 r4_1; have H_r4 := Lib.hid r4; clear r4
        have r5_0 := cell_of_row _ _ 0 _ _ _ r5; have r5_1 := cell_of_row _ _ 1 _ _ _ r5; have r5_2 := cell_of_row _ _ 2 _ _ _ r5; have r5_3 := cell_of_row _ _ 3 _ _ _ r5; have r5_4 := cell_of_row _ _ 4 _ _ _ r5; have r5_f := (fun j => frozen_of_row _ _ j _ _ r5); have r5_l := lt_of_block r5; simp at r5_0 r5_1 r5_2 r5_3 r5_4; have H_r5 := Lib.hid r5; clear r5
        go_upto_region 28 with (go_at_call 98; refine Calls.mono HRI.out ?_; rintro e X2 ⟨rfl, hp2⟩)
        have HS3 := Lib.hid (HS1.out.pure (hp2.trans ((Mod.refl (fun _ => False) X2).alloc (.cells #[.slice none 0 0, .slice none 0 0] 82))))
        clear r4_0 r4_1 r4_f r4_l
        clear r5_0 r5_1 r5_2 r5_3 r5_4 r5_f r5_l
        clear H_r4 H_r5 HS1 HRI hp2
        generalize X2.alloc (.cells #[.slice none 0 0, .slice none 0 0] 82) = X3 at *
        have z4 := HS3.out.h4
        have z7 := HS3.out.h7
        have z4_0 := cell_of_row _ _ 0 _ _ _ z4; have z4_1 := cell_of_row _ _ 1 _ _ _ z4; have z4_f := (fun j => frozen_of_row _ _ j _ _ z4); have z4_l := lt_of_block z4; simp at z4_0 z4_1; have H_z4 := Lib.hid z4; clear z4
        have z7_0 := cell_of_row _ _ 0 _ _ _ z7; have z7_1 := cell_of_row _ _ 1 _ _ _ z7; have z7_f := (fun j => frozen_of_row _ _ j _ _ z7); have z7_l := lt_of_block z7; simp at z7_0 z7_1; have H_z7 := Lib.hid z7; clear z7
        go_upto_region 31 with fail
        go_region
        all_goals
          go_wp2
          obtain ⟨f1, f2, f3, x0, x1⟩ := do_fin (v0 := .slice aC (8 * Gs.length) cC) (v1 := .slice aS (8 * Gs.length) cS) HS3.out.hs HS3.out.rf HS3.out.mw H_z7.out hww (by have := HBW.out; omega) rfl
          obtain ⟨Y, hY⟩ : ∃ Y, ((X3.setCell ⟨b + 1 + 1, 0, none⟩ (.slice aC (8 * Gs.length) cC)).setCell ⟨b + 1 + 1, 1, none⟩ (.slice aS (8 * Gs.length) cS)).drew = Y := ⟨_, rfl⟩
          rw [hY] at f1 f2 f3 x0 x1 ⊢
          exact bodyPost_ret (v := .tuple #[.pointer (some ⟨p, 0, none⟩), .agg #[.slice aC (8 * Gs.length) cC, .slice aS (8 * Gs.length) cS], .bool true]) (by simp [results, Try.results47, go_sem, x0, x1]) rfl ⟨p, _, Gs, aC, cC, aS, cS, rfl, f1, f2, f3⟩
  have hw1 := HW1.out
  have e0 : (a.what == 0) = false := by simp [hw0]
  have e1 : (a.what == 1) = false := by simp [hw1]
  have e2 : (a.what == 2) = false := by simp [hw2]
  have e3 : (a.what == 3) = false := by simp [hw3]
  have e4 : (a.what == 4) = false := by simp [hw4]
  have HC := Lib.hid (ICopy_ok HS.out.hs.ix)
  go_upto_region 37 with (go_at_call 55; refine Calls.mono HC.out ?_; rintro e X1 ⟨p2, sv2, rfl, hx1, hx2, hx3, hx4⟩)
  have HS1 := Lib.hid (HS.out.pure hx2)
  have hlw : w.heap.size ≤ X.heap.size := HS.out.hs.pu.size
  have hnw : Has w p2 sv2 Gs X1 := ⟨hx1, HS.out.hs.pu.trans hx2, Nat.le_trans hlw hx3, fun k hk => Nat.le_trans hlw (hx4 k hk)⟩
  have hdj : ∀ k, (k = p2 ∨ sv2.ownBlock = some k) → ¬ (k = p ∨ sv.ownBlock = some k) := fun k hk hk2 => by
    have h1 := HS.out.hs.lt hk2
    rcases hk with rfl | e
    · omega
    · have := hx4 k e; omega
  have HNW := Lib.hid hnw; have HDJ := Lib.hid hdj
  clear z4_0 z4_1 z4_f z4_l
  clear z5_0 z5_1 z5_2 z5_3 z5_4 z5_f z5_l
  clear H_z4 H_z5 HS HC hx1 hx2 hx3 hx4 hnw hdj hlw e0 e1 e2 e3 e4
  have z5 := HS1.out.h5
  have z5_0 := cell_of_row _ _ 0 _ _ _ z5; have z5_1 := cell_of_row _ _ 1 _ _ _ z5; have z5_2 := cell_of_row _ _ 2 _ _ _ z5; have z5_3 := cell_of_row _ _ 3 _ _ _ z5; have z5_4 := cell_of_row _ _ 4 _ _ _ z5; have z5_f := (fun j => frozen_of_row _ _ j _ _ z5); have z5_l := lt_of_block z5; simp at z5_0 z5_1 z5_2 z5_3 z5_4; have H_z5 := Lib.hid z5; clear z5
  have HI := Lib.hid (HS1.out.hs.insA HA.out.sum (by decide : 99 ≤ 4294967295))
  go_upto_region 38 with (go_at_call 37; refine Calls.mono HI.out ?_; rintro e X4 ⟨z, G3, rfl, hq, hmq⟩)
  have hf4 := HNW.out.frame hmq (fun k hk => HDJ.out k hk) (fun k hk => HS1.out.hs.d k hk)
  have hput := HS1.out.put hq hmq
  have HN4 := Lib.hid hf4; have HP4 := Lib.hid hput; have HQ4 := Lib.hid hq
  clear z5_0 z5_1 z5_2 z5_3 z5_4 z5_f z5_l
  clear H_z5 HS1 HI hq hmq hf4 hput HNW
  have z5 := HP4.out.2.2.1
  have z5_0 := cell_of_row _ _ 0 _ _ _ z5; have z5_1 := cell_of_row _ _ 1 _ _ _ z5; have z5_2 := cell_of_row _ _ 2 _ _ _ z5; have z5_3 := cell_of_row _ _ 3 _ _ _ z5; have z5_4 := cell_of_row _ _ 4 _ _ _ z5; have z5_f := (fun j => frozen_of_row _ _ j _ _ z5); have z5_l := lt_of_block z5; simp at z5_0 z5_1 z5_2 z5_3 z5_4; have H_z5 := Lib.hid z5; clear z5
  have HI := Lib.hid (HQ4.out.remA HA.out.sum HA.out.slot)
  go_upto_region 39 with (go_at_call 41; refine Calls.mono HI.out ?_; rintro e X5 ⟨z6, G5, rfl, hq, hmq⟩)
  have hf5 := HN4.out.frame hmq (fun k hk => HDJ.out k hk) (fun k hk => HQ4.out.d k hk)
  have HF := Lib.hid hf5
  have HF2 := Lib.hid (HP4.out.1.ix HQ4.out hmq)
  have HF3 := Lib.hid (HP4.out.2.2.2.2.trans hmq)
  have z7 := hmq.heap (HQ4.out.nb HP4.out.2.2.2.1 (by decide) (by decide)) HP4.out.2.2.2.1
  have z10 := hmq.heap (HQ4.out.nb HP4.out.2.1 (by decide) (by decide)) HP4.out.2.1
  clear z5_0 z5_1 z5_2 z5_3 z5_4 z5_f z5_l
  clear H_z5 HI hq hmq hf5 HN4 HP4 HQ4
  have z10_0 := cell_of_row _ _ 0 _ _ _ z10; have z10_1 := cell_of_row _ _ 1 _ _ _ z10; have z10_f := (fun j => frozen_of_row _ _ j _ _ z10); have z10_l := lt_of_block z10; simp at z10_0 z10_1; have H_z10 := Lib.hid z10; clear z10
  have z7_0 := cell_of_row _ _ 0 _ _ _ z7; have z7_1 := cell_of_row _ _ 1 _ _ _ z7; have z7_f := (fun j => frozen_of_row _ _ j _ _ z7); have z7_l := lt_of_block z7; simp at z7_0 z7_1; have H_z7 := Lib.hid z7; clear z7
  go_region
  all_goals
    go_wp2
    obtain ⟨f1, f2, f3, x0, x1⟩ := do_fin (v0 := .slice aC (8 * Gs.length) cC) (v1 := .slice aS (8 * Gs.length) cS) HF.out HF2.out HF3.out H_z7.out hww (by have := HBW.out; omega) rfl
    obtain ⟨Y, hY⟩ : ∃ Y, ((X5.setCell ⟨b + 1 + 1, 0, none⟩ (.slice aC (8 * Gs.length) cC)).setCell ⟨b + 1 + 1, 1, none⟩ (.slice aS (8 * Gs.length) cS)).drew = Y := ⟨_, rfl⟩
    rw [hY] at f1 f2 f3 x0 x1 ⊢
    exact bodyPost_ret (v := .tuple #[.pointer (some ⟨p2, 0, none⟩), .agg #[.slice aC (8 * Gs.length) cC, .slice aS (8 * Gs.length) cS], .bool true]) (by simp [results, Try.results47, go_sem, x0, x1]) rfl ⟨p2, _, Gs, aC, cC, aS, cS, rfl, f1, f2, f3⟩
end Go.Proofs.Ytbjiebhbmpafpaa
