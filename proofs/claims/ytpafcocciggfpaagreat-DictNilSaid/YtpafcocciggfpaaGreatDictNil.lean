/- law10.DictNil answers true. -/
import Derived.Test.YtpafcocciggfpaaGreatKnown10
import Derived.Test.YtpafcocciggfpaaGreatDNil
import Derived.Test.YtpafcocciggfpaaGreatRefEq
namespace Go.Proofs.YtpafcocciggfpaaGreat
open Go.RowKit Go.Shelf
set_option maxRecDepth 100000
attribute [local go_sem] Oper.semAt_some

theorem bodyPostM_marks2 {P : Program} {fn : Func} {R : Ending → World → Prop} {tmps : Array Value} {N : Nat} {v : Value} : ∀ {ls : List Nat} {W : World} (_ : ∀ l ∈ ls, W.heap[l]? = some (.deferred (some []))) (_ : ls.Nodup) (_ : ∀ l ∈ ls, N ≤ l)
    (_ : ∀ W', Quiet N W W' → (results fn tmps).run P W' = .ok v W') (_ : ∀ W', Quiet N W W' → R (.returned v) W'), bodyPostM Fence.wide 0 P fn R .ret { tmps := tmps, defers := marksOf ls } W
  | [], W, _, _, _, hr, hR => ⟨v, hr W (Quiet.refl _ _), hR W (Quiet.refl _ _)⟩
  | l :: ls, W, hm, hn, hN, hr, hR => by
    have hk := hm l (by simp)
    refine ⟨by simp, .inl ⟨_, _, rfl, run_takeDeferred hk, ?_⟩⟩
    have hq : Quiet N W (W.putObj l (.deferred none)) := Quiet.putObj (.deferred none) (hN l (by simp)) hk rfl
    refine bodyPostM_marks2 (ls := ls) (fun l' hl' => ?_) (List.nodup_cons.1 hn).2 (fun l' hl' => hN l' (by simp [hl'])) (fun W' hW' => hr W' (hq.trans hW')) (fun W' hW' => hR W' (hq.trans hW'))
    have hne : l' ≠ l := fun e => (List.nodup_cons.1 hn).1 (e ▸ hl')
    exact (World.putObj_heap_other hne).trans (hm l' (by simp [hl']))
theorem equal0 (w : World) : Calls Tryz.prog 21 #[.agg #[.string ⟨#[]⟩, .slice none 0 0, .int .u64 0, .int .u64 0], .agg #[.string ⟨#[]⟩, .slice none 0 0, .int .u64 0, .int .u64 0]] w fun e w' => e = .returned (.bool true) ∧ Pure w w' :=
  ref_Equal_same ⟨⟨#[]⟩, [], 0, 0⟩ none none 0 0 0 0 (ReadAt.nil _ _) (ReadAt.nil _ _)
set_option maxHeartbeats 8000000 in
theorem DictNil_true {w : World} (slot : Int) (h0 : 0 ≤ slot) (h1 : slot ≤ 4294967295) (key : ByteArray) (a : Option Addr) (n c : Nat) (dl b : Int) (hk : key.size ≤ 9223372036854775807) (hn : n ≤ 9223372036854775807) :
    Calls Tryz.prog 6 #[.int .u32 slot, .agg #[.string key, .slice a n c, .int .u64 dl, .int .u64 b]] w fun e w' => e = .returned (.bool true) ∧ Pure w w' := by
  have hp0 : Pure w ((w.alloc (.cells #[.string key, .slice a n c, .int .u64 dl, .int .u64 b] 42)).alloc (.cells #[.bool false] 4)) := ((Mod.refl _ w).alloc _).alloc _
  have z3 := heap_keep (o := .cells #[.bool false] 4) (heap_new (w := w) (o := .cells #[.string key, .slice a n c, .int .u64 dl, .int .u64 b] 42 (0, 0)) rfl)
  have z4 := heap_new (w := w.alloc (.cells #[.string key, .slice a n c, .int .u64 dl, .int .u64 b] 42)) (o := .cells #[.bool false] 4 (0, 0)) (n := w.heap.size + 1) (by simp)
  have wk : IntKind.i64.wrap (key.size : Int) = (key.size : Int) := IntWalk.i64_in _ (by omega)
  have wn : IntKind.i64.wrap (n : Int) = (n : Int) := IntWalk.i64_in _ (by omega)
  have HP0 := Lib.hid hp0
  clear hp0
  by_cases c1 : 300 < key.size
  · have d1 : decide (300 < (key.size : Int)) = true := decide_eq_true (by omega)
    clear c1 h0 h1 hk hn
    (refine (callsIn_wide (n := 0)).1 (callsIn_of_wp_marks Tryz.func6 rfl trivial (wpIn_wide.2 ?_) rfl); simp only [Tryz.ntmps6, List.size_toArray, List.length_cons, List.length_nil, Nat.reduceAdd, Nat.reduceSub, Array.replicate_succ, Array.replicate_zero, List.push_toArray, List.append_toArray, List.nil_append, List.cons_append])
    go_upto_region 1 with fail
    generalize (w.alloc (.cells #[.string key, .slice a n c, .int .u64 dl, .int .u64 b] 42)).alloc (.cells #[.bool false] 4) = W1 at *
    obtain ⟨b3, hb3⟩ : ∃ b, w.heap.size = b := ⟨_, rfl⟩
    rw [hb3] at z3 z4 ⊢
    have HB3 := Lib.hid hb3
    clear hb3
    have HK := Lib.hid (fun W => known10_true W)
    have z3_0 := cell_of_row _ _ 0 _ _ _ z3; have z3_1 := cell_of_row _ _ 1 _ _ _ z3; have z3_2 := cell_of_row _ _ 2 _ _ _ z3; have z3_3 := cell_of_row _ _ 3 _ _ _ z3; have z3_f := (fun j => frozen_of_row _ _ j _ _ z3); have z3_l := lt_of_block z3; simp at z3_0 z3_1 z3_2 z3_3; have H_z3 := Lib.hid z3; clear z3
    have z4_0 := cell_of_row _ _ 0 _ _ _ z4; have z4_f := (fun j => frozen_of_row _ _ j _ _ z4); have z4_l := lt_of_block z4; simp at z4_0; have H_z4 := Lib.hid z4; clear z4
    go_wp2_with (go_at_call 10; refine Calls.mono (HK.out _) ?_; rintro e w1 ⟨rfl, hp1⟩; have k0 := hp1.cell (fun h => h) z4_0; have kf : w1.frozen? ⟨b3 + 1, 0, none⟩ = false := (hp1.cells.2 (b3 + 1) 0 z4_l).trans (z4_f 0); have kl := hp1.lt z4_l)
    have y6 := cell_of_row _ _ 0 _ _ _ (heap_set1 (j := 0) (v := .bool true) (hp1.heap (fun h => h) H_z4.out))
    simp at y6
    exact ⟨.bool true, by simp [results, Tryz.results6, go_sem, y6], rfl, (HP0.out.trans hp1).then (Mod.set1 (b3 + 1) 0 _) (fun i hi e => by have := HB3.out; omega)⟩
  · have d1 : decide (300 < (key.size : Int)) = false := decide_eq_false (by omega)
    by_cases c2 : 300 < n
    · have d2 : decide (300 < (n : Int)) = true := decide_eq_true (by omega)
      clear c1 c2 h0 h1 hk hn
      (refine (callsIn_wide (n := 0)).1 (callsIn_of_wp_marks Tryz.func6 rfl trivial (wpIn_wide.2 ?_) rfl); simp only [Tryz.ntmps6, List.size_toArray, List.length_cons, List.length_nil, Nat.reduceAdd, Nat.reduceSub, Array.replicate_succ, Array.replicate_zero, List.push_toArray, List.append_toArray, List.nil_append, List.cons_append])
      go_upto_region 1 with fail
      generalize (w.alloc (.cells #[.string key, .slice a n c, .int .u64 dl, .int .u64 b] 42)).alloc (.cells #[.bool false] 4) = W1 at *
      obtain ⟨b3, hb3⟩ : ∃ b, w.heap.size = b := ⟨_, rfl⟩
      rw [hb3] at z3 z4 ⊢
      have HB3 := Lib.hid hb3
      clear hb3
      have HK := Lib.hid (fun W => known10_true W)
      have z3_0 := cell_of_row _ _ 0 _ _ _ z3; have z3_1 := cell_of_row _ _ 1 _ _ _ z3; have z3_2 := cell_of_row _ _ 2 _ _ _ z3; have z3_3 := cell_of_row _ _ 3 _ _ _ z3; have z3_f := (fun j => frozen_of_row _ _ j _ _ z3); have z3_l := lt_of_block z3; simp at z3_0 z3_1 z3_2 z3_3; have H_z3 := Lib.hid z3; clear z3
      have z4_0 := cell_of_row _ _ 0 _ _ _ z4; have z4_f := (fun j => frozen_of_row _ _ j _ _ z4); have z4_l := lt_of_block z4; simp at z4_0; have H_z4 := Lib.hid z4; clear z4
      go_wp2_with (go_at_call 10; refine Calls.mono (HK.out _) ?_; rintro e w1 ⟨rfl, hp1⟩; have k0 := hp1.cell (fun h => h) z4_0; have kf : w1.frozen? ⟨b3 + 1, 0, none⟩ = false := (hp1.cells.2 (b3 + 1) 0 z4_l).trans (z4_f 0); have kl := hp1.lt z4_l)
      have y6 := cell_of_row _ _ 0 _ _ _ (heap_set1 (j := 0) (v := .bool true) (hp1.heap (fun h => h) H_z4.out))
      simp at y6
      exact ⟨.bool true, by simp [results, Tryz.results6, go_sem, y6], rfl, (HP0.out.trans hp1).then (Mod.set1 (b3 + 1) 0 _) (fun i hi e => by have := HB3.out; omega)⟩
    · have d2 : decide (300 < (n : Int)) = false := decide_eq_false (by omega)
      clear c1 c2 h0 h1 hk hn
      (refine (callsIn_wide (n := 0)).1 (callsIn_of_wp_marks Tryz.func6 rfl trivial (wpIn_wide.2 ?_) rfl); simp only [Tryz.ntmps6, List.size_toArray, List.length_cons, List.length_nil, Nat.reduceAdd, Nat.reduceSub, Array.replicate_succ, Array.replicate_zero, List.push_toArray, List.append_toArray, List.nil_append, List.cons_append])
      go_upto_region 1 with fail
      generalize (w.alloc (.cells #[.string key, .slice a n c, .int .u64 dl, .int .u64 b] 42)).alloc (.cells #[.bool false] 4) = W1 at *
      obtain ⟨b3, hb3⟩ : ∃ b, w.heap.size = b := ⟨_, rfl⟩
      rw [hb3] at z3 z4 ⊢
      have HB3 := Lib.hid hb3
      clear hb3
      have z3_0 := cell_of_row _ _ 0 _ _ _ z3; have z3_1 := cell_of_row _ _ 1 _ _ _ z3; have z3_2 := cell_of_row _ _ 2 _ _ _ z3; have z3_3 := cell_of_row _ _ 3 _ _ _ z3; have z3_f := (fun j => frozen_of_row _ _ j _ _ z3); have z3_l := lt_of_block z3; simp at z3_0 z3_1 z3_2 z3_3; have H_z3 := Lib.hid z3; clear z3
      have z4_0 := cell_of_row _ _ 0 _ _ _ z4; have z4_f := (fun j => frozen_of_row _ _ j _ _ z4); have z4_l := lt_of_block z4; simp at z4_0; have H_z4 := Lib.hid z4; clear z4
      have hpz : Pure W1 ((W1.alloc (.cells #[.pointer none, .int .u64 0, .bool false, .pointer none] 81)).alloc (.cells #[.pointer none, .pointer (some ⟨W1.heap.size, 0, none⟩)] 24)) := ((Mod.refl _ W1).alloc _).alloc _
      have zz := heap_keep (o := .cells #[.pointer none, .pointer (some ⟨W1.heap.size, 0, none⟩)] 24) (heap_new (w := W1) (o := .cells #[.pointer none, .int .u64 0, .bool false, .pointer none] 81 (0, 0)) rfl)
      have zs := heap_new (w := W1.alloc (.cells #[.pointer none, .int .u64 0, .bool false, .pointer none] 81)) (o := .cells #[.pointer none, .pointer (some ⟨W1.heap.size, 0, none⟩)] 24 (0, 0)) (n := W1.heap.size + 1) (by simp)
      go_upto_region 5 with fail
      generalize (W1.alloc (.cells #[.pointer none, .int .u64 0, .bool false, .pointer none] 81)).alloc (.cells #[.pointer none, .pointer (some ⟨W1.heap.size, 0, none⟩)] 24) = W2 at *
      obtain ⟨bz, hbz⟩ : ∃ b, W1.heap.size = b := ⟨_, rfl⟩
      rw [hbz] at zz zs ⊢
      have hbzl : b3 + 1 < bz := by have := z4_l; omega
      clear hbz
      replace z3_0 := hpz.cell (fun h => h) z3_0
      replace z3_1 := hpz.cell (fun h => h) z3_1
      replace z3_2 := hpz.cell (fun h => h) z3_2
      replace z3_3 := hpz.cell (fun h => h) z3_3
      replace z4_0 := hpz.cell (fun h => h) z4_0
      have HB4 := Lib.hid (hpz.heap (fun h => h) H_z4.out)
      have HZ3 := Lib.hid (hpz.heap (fun h => h) H_z3.out)
      have HZS := Lib.hid zs
      have HPW2 := Lib.hid (HP0.out.trans hpz)
      have HPP : Hid (Pure W2 W2) := Lib.hid (Mod.refl _ _)
      have HV1 : Hid (NilD W2 (.pointer none)) := .inl rfl
      have HV2 : Hid (NilD W2 (.pointer (some ⟨bz, 0, none⟩))) := .inr ⟨_, rfl, zz⟩
      have HEq := Lib.hid (fun W => equal0 W)
      have hbz2 : bz < W2.heap.size := lt_of_block zz
      clear hpz z3_f z3_l H_z3 z4_f z4_l H_z4
      have zs_0 := cell_of_row _ _ 0 _ _ _ zs; have zs_1 := cell_of_row _ _ 1 _ _ _ zs; have zs_f := (fun j => frozen_of_row _ _ j _ _ zs); have zs_l := lt_of_block zs; simp at zs_0 zs_1; have H_zs := Lib.hid zs; clear zs
      clear zs_f zs_l H_zs zz
      refine wp_loop_rounds 3 ?_
      rw [rounds_succ]
      go_upto_region 8 with (go_at_call 14; refine Calls.mono (dins_nil (HV1.out.pure HPP.out) _ _ _ _) ?_; rintro e wa ⟨rfl, hp1⟩; replace z3_0 := hp1.cell (fun h => h) z3_0; replace z3_1 := hp1.cell (fun h => h) z3_1; replace z3_2 := hp1.cell (fun h => h) z3_2; replace z3_3 := hp1.cell (fun h => h) z3_3; replace z4_0 := hp1.cell (fun h => h) z4_0; replace zs_0 := hp1.cell (fun h => h) zs_0; replace zs_1 := hp1.cell (fun h => h) zs_1; replace HPP := Lib.hid (HPP.out.trans hp1); clear hp1)
      go_upto_region 9 with (go_at_call 35; refine Calls.mono (dget_nil (HV1.out.pure HPP.out) _) ?_; rintro e wb ⟨rfl, hp1⟩; replace z3_0 := hp1.cell (fun h => h) z3_0; replace z3_1 := hp1.cell (fun h => h) z3_1; replace z3_2 := hp1.cell (fun h => h) z3_2; replace z3_3 := hp1.cell (fun h => h) z3_3; replace z4_0 := hp1.cell (fun h => h) z4_0; replace zs_0 := hp1.cell (fun h => h) zs_0; replace zs_1 := hp1.cell (fun h => h) zs_1; replace HPP := Lib.hid (HPP.out.trans hp1); clear hp1)
      have hal : Pure wb (wb.alloc (.cells #[.string ⟨#[]⟩, .slice none 0 0, .int .u64 0, .int .u64 0] 42)) := (Mod.refl _ wb).alloc _
      have y10 := heap_new (w := wb) (o := .cells #[.string ⟨#[]⟩, .slice none 0 0, .int .u64 0, .int .u64 0] 42 (0, 0)) rfl
      replace z3_0 := hal.cell (fun h => h) z3_0; replace z3_1 := hal.cell (fun h => h) z3_1; replace z3_2 := hal.cell (fun h => h) z3_2; replace z3_3 := hal.cell (fun h => h) z3_3; replace z4_0 := hal.cell (fun h => h) z4_0; replace zs_0 := hal.cell (fun h => h) zs_0; replace zs_1 := hal.cell (fun h => h) zs_1
      replace HPP := Lib.hid (HPP.out.trans hal)
      clear hal
      generalize wb.alloc (.cells #[.string ⟨#[]⟩, .slice none 0 0, .int .u64 0, .int .u64 0] 42) = wb2 at *
      generalize wb.heap.size = b10 at *
      have y10_0 := cell_of_row _ _ 0 _ _ _ y10; have y10_1 := cell_of_row _ _ 1 _ _ _ y10; have y10_2 := cell_of_row _ _ 2 _ _ _ y10; have y10_3 := cell_of_row _ _ 3 _ _ _ y10; have y10_f := (fun j => frozen_of_row _ _ j _ _ y10); have y10_l := lt_of_block y10; simp at y10_0 y10_1 y10_2 y10_3; have H_y10 := Lib.hid y10; clear y10
      go_upto_region 10 with (go_at_call 19; refine Calls.mono (drem_nil (HV1.out.pure HPP.out) _) ?_; rintro e wc ⟨rfl, hp1⟩; replace z3_0 := hp1.cell (fun h => h) z3_0; replace z3_1 := hp1.cell (fun h => h) z3_1; replace z3_2 := hp1.cell (fun h => h) z3_2; replace z3_3 := hp1.cell (fun h => h) z3_3; replace z4_0 := hp1.cell (fun h => h) z4_0; replace zs_0 := hp1.cell (fun h => h) zs_0; replace zs_1 := hp1.cell (fun h => h) zs_1; replace y10_0 := hp1.cell (fun h => h) y10_0; replace y10_1 := hp1.cell (fun h => h) y10_1; replace y10_2 := hp1.cell (fun h => h) y10_2; replace y10_3 := hp1.cell (fun h => h) y10_3; replace HPP := Lib.hid (HPP.out.trans hp1); clear hp1)
      have hal : Pure wc (wc.alloc (.cells #[.string ⟨#[]⟩, .slice none 0 0, .int .u64 0, .int .u64 0] 42)) := (Mod.refl _ wc).alloc _
      have y12 := heap_new (w := wc) (o := .cells #[.string ⟨#[]⟩, .slice none 0 0, .int .u64 0, .int .u64 0] 42 (0, 0)) rfl
      replace z3_0 := hal.cell (fun h => h) z3_0; replace z3_1 := hal.cell (fun h => h) z3_1; replace z3_2 := hal.cell (fun h => h) z3_2; replace z3_3 := hal.cell (fun h => h) z3_3; replace z4_0 := hal.cell (fun h => h) z4_0; replace zs_0 := hal.cell (fun h => h) zs_0; replace zs_1 := hal.cell (fun h => h) zs_1; replace y10_0 := hal.cell (fun h => h) y10_0; replace y10_1 := hal.cell (fun h => h) y10_1; replace y10_2 := hal.cell (fun h => h) y10_2; replace y10_3 := hal.cell (fun h => h) y10_3
      replace HPP := Lib.hid (HPP.out.trans hal)
      clear hal
      generalize wc.alloc (.cells #[.string ⟨#[]⟩, .slice none 0 0, .int .u64 0, .int .u64 0] 42) = wc2 at *
      generalize wc.heap.size = b12 at *
      have y12_0 := cell_of_row _ _ 0 _ _ _ y12; have y12_1 := cell_of_row _ _ 1 _ _ _ y12; have y12_2 := cell_of_row _ _ 2 _ _ _ y12; have y12_3 := cell_of_row _ _ 3 _ _ _ y12; have y12_f := (fun j => frozen_of_row _ _ j _ _ y12); have y12_l := lt_of_block y12; simp at y12_0 y12_1 y12_2 y12_3; have H_y12 := Lib.hid y12; clear y12
      have T1 : True := trivial; have T2 : True := trivial
      go_upto_region 13 with (first
        | (go_at_call 36; refine Calls.mono (dnext_nil (HV1.out.pure HPP.out) _) ?_; rintro e wd ⟨rfl, rfl⟩)
        | (go_at_call 21; clear T1; refine Calls.mono (HEq.out _) ?_; rintro e we ⟨rfl, hp1⟩; replace z3_0 := hp1.cell (fun h => h) z3_0; replace z3_1 := hp1.cell (fun h => h) z3_1; replace z3_2 := hp1.cell (fun h => h) z3_2; replace z3_3 := hp1.cell (fun h => h) z3_3; replace z4_0 := hp1.cell (fun h => h) z4_0; replace zs_0 := hp1.cell (fun h => h) zs_0; replace zs_1 := hp1.cell (fun h => h) zs_1; replace y12_0 := hp1.cell (fun h => h) y12_0; replace y12_1 := hp1.cell (fun h => h) y12_1; replace y12_2 := hp1.cell (fun h => h) y12_2; replace y12_3 := hp1.cell (fun h => h) y12_3; replace HPP := Lib.hid (HPP.out.trans hp1); clear hp1)
        | (go_at_call 21; clear T2; refine Calls.mono (HEq.out _) ?_; rintro e wf ⟨rfl, hp1⟩; replace z3_0 := hp1.cell (fun h => h) z3_0; replace z3_1 := hp1.cell (fun h => h) z3_1; replace z3_2 := hp1.cell (fun h => h) z3_2; replace z3_3 := hp1.cell (fun h => h) z3_3; replace z4_0 := hp1.cell (fun h => h) z4_0; replace zs_0 := hp1.cell (fun h => h) zs_0; replace zs_1 := hp1.cell (fun h => h) zs_1; replace HPP := Lib.hid (HPP.out.trans hp1); clear hp1)
        | (go_at_call 37; refine Calls.mono (finds10_nil (HV1.out.pure HPP.out) _) ?_; rintro e wg ⟨rfl, hp1⟩; replace z3_0 := hp1.cell (fun h => h) z3_0; replace z3_1 := hp1.cell (fun h => h) z3_1; replace z3_2 := hp1.cell (fun h => h) z3_2; replace z3_3 := hp1.cell (fun h => h) z3_3; replace z4_0 := hp1.cell (fun h => h) z4_0; replace zs_0 := hp1.cell (fun h => h) zs_0; replace zs_1 := hp1.cell (fun h => h) zs_1; replace HPP := Lib.hid (HPP.out.trans hp1); clear hp1)
        | (go_at_call 38; refine Calls.mono (dset_nil (HV1.out.pure HPP.out) _ _ _) ?_; rintro e wh ⟨rfl, rfl⟩))
      
      clear y10_0 y10_1 y10_2 y10_3 y10_f y10_l
      clear y12_0 y12_1 y12_2 y12_3 y12_f y12_l
      clear H_y10 H_y12
      go_upto_region 14 with (go_at_call 39; refine Calls.mono (dall_nil (HV1.out.pure HPP.out)) ?_; rintro e wi ⟨M, B, ai, ci, hM, rfl, hit, hp1, hB, hfr⟩; replace z3_0 := hp1.cell (fun h => h) z3_0; replace z3_1 := hp1.cell (fun h => h) z3_1; replace z3_2 := hp1.cell (fun h => h) z3_2; replace z3_3 := hp1.cell (fun h => h) z3_3; replace z4_0 := hp1.cell (fun h => h) z4_0; replace zs_0 := hp1.cell (fun h => h) zs_0; replace zs_1 := hp1.cell (fun h => h) zs_1; replace HPP := Lib.hid (HPP.out.trans hp1); clear hp1 hB hfr)
      have HIT := Lib.hid hit
      clear hit
      go_upto_region 16 with (first
        | (go_at_call 22; refine Calls.mono (dlen_nil (HV1.out.pure HPP.out)) ?_; rintro e wj ⟨rfl, rfl⟩)
        | (go_at_call 16; refine Calls.mono (sizes10_nil (HV1.out.pure HPP.out)) ?_; rintro e wj ⟨rfl, rfl⟩)
        | (go_at_call 40; refine Calls.mono (dlog_nil (HV1.out.pure HPP.out)) ?_; rintro e wj ⟨rfl, rfl⟩)
        | (go_at_call 41; refine Calls.mono (dhash_nil (HV1.out.pure HPP.out)) ?_; rintro e wj ⟨rfl, hp1⟩; replace z3_0 := hp1.cell (fun h => h) z3_0; replace z3_1 := hp1.cell (fun h => h) z3_1; replace z3_2 := hp1.cell (fun h => h) z3_2; replace z3_3 := hp1.cell (fun h => h) z3_3; replace z4_0 := hp1.cell (fun h => h) z4_0; replace zs_0 := hp1.cell (fun h => h) zs_0; replace zs_1 := hp1.cell (fun h => h) zs_1; replace HIT := Lib.hid (HIT.out.keeps (KeepsIt.of_pure hp1)); replace HPP := Lib.hid (HPP.out.trans hp1); clear hp1)
        | (go_at_call 42; refine Calls.mono (dcopy_nil (HV1.out.pure HPP.out)) ?_; rintro e wk ⟨rfl, rfl⟩))
      have hItlt : ∀ k, iterBlocks B (.slice ai M.length ci) M k → k < wj.heap.size := by
        rintro k (rfl | h | ⟨e, v, hm, h⟩)
        · exact lt_of_block HIT.out.box
        · exact owns_lt HIT.out.row h
        · exact owns_lt (HIT.out.vals e v hm) h
      have hw2k : W2.heap.size ≤ wj.heap.size := HPP.out.size
      
      
      clear z3_0 z3_1 z3_2 z3_3 z4_0 zs_0 zs_1
      go_wp2
      refine wpIn_wide.1 (wp_range2 (gf := 149) (lb := #[.pointer (some ⟨B, 0, none⟩)]) rfl (enters_of Tryz.func149 (by kernel_rfl) rfl) (It := iterBlocks B (.slice ai M.length ci) M) (All_iter HIT.out wj.heap.size (Nat.le_refl _)) hItlt (fun _ => rfl)
        (fun pre W => Pure W2 W) (fun _ _ _ => False) ?hI ?hIx HPP.out ?round ?done ?stop)
      case hI => exact fun pre A B h hq => hq.mod h hw2k
      case hIx => exact fun _ _ _ _ h _ => h
      case stop => exact fun _ _ _ _ _ h _ => h.elim
      case round =>
        rintro l pre x W K hI hG hK
        obtain ⟨⟨post, hpost⟩, _, _⟩ := hG
        rw [hM] at hpost
        simp [live, liveFrom] at hpost
      case done =>
        rintro D1 xs WB1 hl1 hS hI hK
        have HPQ1 : Hid (Pure W2 WB1) := hI
        have HD1 := Lib.hid hK
        have hd1l : D1 < WB1.heap.size := lt_of_block hK
        
        
        have hbd1 : W2.heap.size ≤ D1 := Nat.le_trans hw2k hl1
        clear hI hS HIT hItlt hM HPP hK hw2k 
        replace HZ3 := Lib.hid (HPQ1.out.heap (fun h => h) HZ3.out); replace HB4 := Lib.hid (HPQ1.out.heap (fun h => h) HB4.out); replace HZS := Lib.hid (HPQ1.out.heap (fun h => h) HZS.out)
        replace HV2 := Lib.hid (HV2.out.pure HPQ1.out)
        replace HPW2 := Lib.hid (HPW2.out.trans HPQ1.out)
        have z3 := HZ3.out; have z4 := HB4.out; have zs := HZS.out
        have z3_0 := cell_of_row _ _ 0 _ _ _ z3; have z3_1 := cell_of_row _ _ 1 _ _ _ z3; have z3_2 := cell_of_row _ _ 2 _ _ _ z3; have z3_3 := cell_of_row _ _ 3 _ _ _ z3; have z3_f := (fun j => frozen_of_row _ _ j _ _ z3); have z3_l := lt_of_block z3; simp at z3_0 z3_1 z3_2 z3_3; have H_z3 := Lib.hid z3; clear z3
        have z4_0 := cell_of_row _ _ 0 _ _ _ z4; have z4_f := (fun j => frozen_of_row _ _ j _ _ z4); have z4_l := lt_of_block z4; simp at z4_0; have H_z4 := Lib.hid z4; clear z4
        have zs_0 := cell_of_row _ _ 0 _ _ _ zs; have zs_1 := cell_of_row _ _ 1 _ _ _ zs; have zs_f := (fun j => frozen_of_row _ _ j _ _ zs); have zs_l := lt_of_block zs; simp at zs_0 zs_1; have H_zs := Lib.hid zs; clear zs
        clear z3_f z3_l H_z3 z4_f z4_l H_z4 zs_f zs_l H_zs
        go_wp2
        have HPP : Hid (Pure WB1 WB1) := Lib.hid (Mod.refl _ _)
        rw [rounds_succ]
        go_upto_region 8 with (go_at_call 14; refine Calls.mono (dins_nil (HV2.out.pure HPP.out) _ _ _ _) ?_; rintro e wa ⟨rfl, hp1⟩; replace z3_0 := hp1.cell (fun h => h) z3_0; replace z3_1 := hp1.cell (fun h => h) z3_1; replace z3_2 := hp1.cell (fun h => h) z3_2; replace z3_3 := hp1.cell (fun h => h) z3_3; replace z4_0 := hp1.cell (fun h => h) z4_0; replace zs_0 := hp1.cell (fun h => h) zs_0; replace zs_1 := hp1.cell (fun h => h) zs_1; replace HPP := Lib.hid (HPP.out.trans hp1); clear hp1)
        go_upto_region 9 with (go_at_call 35; refine Calls.mono (dget_nil (HV2.out.pure HPP.out) _) ?_; rintro e wb ⟨rfl, hp1⟩; replace z3_0 := hp1.cell (fun h => h) z3_0; replace z3_1 := hp1.cell (fun h => h) z3_1; replace z3_2 := hp1.cell (fun h => h) z3_2; replace z3_3 := hp1.cell (fun h => h) z3_3; replace z4_0 := hp1.cell (fun h => h) z4_0; replace zs_0 := hp1.cell (fun h => h) zs_0; replace zs_1 := hp1.cell (fun h => h) zs_1; replace HPP := Lib.hid (HPP.out.trans hp1); clear hp1)
        have hal : Pure wb (wb.alloc (.cells #[.string ⟨#[]⟩, .slice none 0 0, .int .u64 0, .int .u64 0] 42)) := (Mod.refl _ wb).alloc _
        have y10 := heap_new (w := wb) (o := .cells #[.string ⟨#[]⟩, .slice none 0 0, .int .u64 0, .int .u64 0] 42 (0, 0)) rfl
        replace z3_0 := hal.cell (fun h => h) z3_0; replace z3_1 := hal.cell (fun h => h) z3_1; replace z3_2 := hal.cell (fun h => h) z3_2; replace z3_3 := hal.cell (fun h => h) z3_3; replace z4_0 := hal.cell (fun h => h) z4_0; replace zs_0 := hal.cell (fun h => h) zs_0; replace zs_1 := hal.cell (fun h => h) zs_1
        replace HPP := Lib.hid (HPP.out.trans hal)
        clear hal
        generalize wb.alloc (.cells #[.string ⟨#[]⟩, .slice none 0 0, .int .u64 0, .int .u64 0] 42) = wb2 at *
        generalize wb.heap.size = b10 at *
        have y10_0 := cell_of_row _ _ 0 _ _ _ y10; have y10_1 := cell_of_row _ _ 1 _ _ _ y10; have y10_2 := cell_of_row _ _ 2 _ _ _ y10; have y10_3 := cell_of_row _ _ 3 _ _ _ y10; have y10_f := (fun j => frozen_of_row _ _ j _ _ y10); have y10_l := lt_of_block y10; simp at y10_0 y10_1 y10_2 y10_3; have H_y10 := Lib.hid y10; clear y10
        go_upto_region 10 with (go_at_call 19; refine Calls.mono (drem_nil (HV2.out.pure HPP.out) _) ?_; rintro e wc ⟨rfl, hp1⟩; replace z3_0 := hp1.cell (fun h => h) z3_0; replace z3_1 := hp1.cell (fun h => h) z3_1; replace z3_2 := hp1.cell (fun h => h) z3_2; replace z3_3 := hp1.cell (fun h => h) z3_3; replace z4_0 := hp1.cell (fun h => h) z4_0; replace zs_0 := hp1.cell (fun h => h) zs_0; replace zs_1 := hp1.cell (fun h => h) zs_1; replace y10_0 := hp1.cell (fun h => h) y10_0; replace y10_1 := hp1.cell (fun h => h) y10_1; replace y10_2 := hp1.cell (fun h => h) y10_2; replace y10_3 := hp1.cell (fun h => h) y10_3; replace HPP := Lib.hid (HPP.out.trans hp1); clear hp1)
        have hal : Pure wc (wc.alloc (.cells #[.string ⟨#[]⟩, .slice none 0 0, .int .u64 0, .int .u64 0] 42)) := (Mod.refl _ wc).alloc _
        have y12 := heap_new (w := wc) (o := .cells #[.string ⟨#[]⟩, .slice none 0 0, .int .u64 0, .int .u64 0] 42 (0, 0)) rfl
        replace z3_0 := hal.cell (fun h => h) z3_0; replace z3_1 := hal.cell (fun h => h) z3_1; replace z3_2 := hal.cell (fun h => h) z3_2; replace z3_3 := hal.cell (fun h => h) z3_3; replace z4_0 := hal.cell (fun h => h) z4_0; replace zs_0 := hal.cell (fun h => h) zs_0; replace zs_1 := hal.cell (fun h => h) zs_1; replace y10_0 := hal.cell (fun h => h) y10_0; replace y10_1 := hal.cell (fun h => h) y10_1; replace y10_2 := hal.cell (fun h => h) y10_2; replace y10_3 := hal.cell (fun h => h) y10_3
        replace HPP := Lib.hid (HPP.out.trans hal)
        clear hal
        generalize wc.alloc (.cells #[.string ⟨#[]⟩, .slice none 0 0, .int .u64 0, .int .u64 0] 42) = wc2 at *
        generalize wc.heap.size = b12 at *
        have y12_0 := cell_of_row _ _ 0 _ _ _ y12; have y12_1 := cell_of_row _ _ 1 _ _ _ y12; have y12_2 := cell_of_row _ _ 2 _ _ _ y12; have y12_3 := cell_of_row _ _ 3 _ _ _ y12; have y12_f := (fun j => frozen_of_row _ _ j _ _ y12); have y12_l := lt_of_block y12; simp at y12_0 y12_1 y12_2 y12_3; have H_y12 := Lib.hid y12; clear y12
        have T1 : True := trivial; have T2 : True := trivial
        go_upto_region 13 with (first
          | (go_at_call 36; refine Calls.mono (dnext_nil (HV2.out.pure HPP.out) _) ?_; rintro e wd ⟨rfl, rfl⟩)
          | (go_at_call 21; clear T1; refine Calls.mono (HEq.out _) ?_; rintro e we ⟨rfl, hp1⟩; replace z3_0 := hp1.cell (fun h => h) z3_0; replace z3_1 := hp1.cell (fun h => h) z3_1; replace z3_2 := hp1.cell (fun h => h) z3_2; replace z3_3 := hp1.cell (fun h => h) z3_3; replace z4_0 := hp1.cell (fun h => h) z4_0; replace zs_0 := hp1.cell (fun h => h) zs_0; replace zs_1 := hp1.cell (fun h => h) zs_1; replace y12_0 := hp1.cell (fun h => h) y12_0; replace y12_1 := hp1.cell (fun h => h) y12_1; replace y12_2 := hp1.cell (fun h => h) y12_2; replace y12_3 := hp1.cell (fun h => h) y12_3; replace HPP := Lib.hid (HPP.out.trans hp1); clear hp1)
          | (go_at_call 21; clear T2; refine Calls.mono (HEq.out _) ?_; rintro e wf ⟨rfl, hp1⟩; replace z3_0 := hp1.cell (fun h => h) z3_0; replace z3_1 := hp1.cell (fun h => h) z3_1; replace z3_2 := hp1.cell (fun h => h) z3_2; replace z3_3 := hp1.cell (fun h => h) z3_3; replace z4_0 := hp1.cell (fun h => h) z4_0; replace zs_0 := hp1.cell (fun h => h) zs_0; replace zs_1 := hp1.cell (fun h => h) zs_1; replace HPP := Lib.hid (HPP.out.trans hp1); clear hp1)
          | (go_at_call 37; refine Calls.mono (finds10_nil (HV2.out.pure HPP.out) _) ?_; rintro e wg ⟨rfl, hp1⟩; replace z3_0 := hp1.cell (fun h => h) z3_0; replace z3_1 := hp1.cell (fun h => h) z3_1; replace z3_2 := hp1.cell (fun h => h) z3_2; replace z3_3 := hp1.cell (fun h => h) z3_3; replace z4_0 := hp1.cell (fun h => h) z4_0; replace zs_0 := hp1.cell (fun h => h) zs_0; replace zs_1 := hp1.cell (fun h => h) zs_1; replace HPP := Lib.hid (HPP.out.trans hp1); clear hp1)
          | (go_at_call 38; refine Calls.mono (dset_nil (HV2.out.pure HPP.out) _ _ _) ?_; rintro e wh ⟨rfl, rfl⟩))
        
        clear y10_0 y10_1 y10_2 y10_3 y10_f y10_l
        clear y12_0 y12_1 y12_2 y12_3 y12_f y12_l
        clear H_y10 H_y12
        go_upto_region 14 with (go_at_call 39; refine Calls.mono (dall_nil (HV2.out.pure HPP.out)) ?_; rintro e wi ⟨M, B, ai, ci, hM, rfl, hit, hp1, hB, hfr⟩; replace z3_0 := hp1.cell (fun h => h) z3_0; replace z3_1 := hp1.cell (fun h => h) z3_1; replace z3_2 := hp1.cell (fun h => h) z3_2; replace z3_3 := hp1.cell (fun h => h) z3_3; replace z4_0 := hp1.cell (fun h => h) z4_0; replace zs_0 := hp1.cell (fun h => h) zs_0; replace zs_1 := hp1.cell (fun h => h) zs_1; replace HPP := Lib.hid (HPP.out.trans hp1); clear hp1 hB hfr)
        have HIT := Lib.hid hit
        clear hit
        go_upto_region 16 with (first
          | (go_at_call 22; refine Calls.mono (dlen_nil (HV2.out.pure HPP.out)) ?_; rintro e wj ⟨rfl, rfl⟩)
          | (go_at_call 16; refine Calls.mono (sizes10_nil (HV2.out.pure HPP.out)) ?_; rintro e wj ⟨rfl, rfl⟩)
          | (go_at_call 40; refine Calls.mono (dlog_nil (HV2.out.pure HPP.out)) ?_; rintro e wj ⟨rfl, rfl⟩)
          | (go_at_call 41; refine Calls.mono (dhash_nil (HV2.out.pure HPP.out)) ?_; rintro e wj ⟨rfl, hp1⟩; replace z3_0 := hp1.cell (fun h => h) z3_0; replace z3_1 := hp1.cell (fun h => h) z3_1; replace z3_2 := hp1.cell (fun h => h) z3_2; replace z3_3 := hp1.cell (fun h => h) z3_3; replace z4_0 := hp1.cell (fun h => h) z4_0; replace zs_0 := hp1.cell (fun h => h) zs_0; replace zs_1 := hp1.cell (fun h => h) zs_1; replace HIT := Lib.hid (HIT.out.keeps (KeepsIt.of_pure hp1)); replace HPP := Lib.hid (HPP.out.trans hp1); clear hp1)
          | (go_at_call 42; refine Calls.mono (dcopy_nil (HV2.out.pure HPP.out)) ?_; rintro e wk ⟨rfl, rfl⟩))
        have hItlt : ∀ k, iterBlocks B (.slice ai M.length ci) M k → k < wj.heap.size := by
          rintro k (rfl | h | ⟨e, v, hm, h⟩)
          · exact lt_of_block HIT.out.box
          · exact owns_lt HIT.out.row h
          · exact owns_lt (HIT.out.vals e v hm) h
        have hw2k : WB1.heap.size ≤ wj.heap.size := HPP.out.size
        have hd1k : D1 < wj.heap.size := HPP.out.lt hd1l
        have hkd := HPP.out.heap (fun h => h) HD1.out
        clear z3_0 z3_1 z3_2 z3_3 z4_0 zs_0 zs_1
        go_wp2
        refine wpIn_wide.1 (wp_range2 (gf := 149) (lb := #[.pointer (some ⟨B, 0, none⟩)]) rfl (enters_of Tryz.func149 (by kernel_rfl) rfl) (It := iterBlocks B (.slice ai M.length ci) M) (All_iter HIT.out wj.heap.size (Nat.le_refl _)) hItlt (fun _ => rfl)
          (fun pre W => Pure WB1 W ∧ W.heap[D1]? = some (.deferred (some []))) (fun _ _ _ => False) ?hI ?hIx ⟨HPP.out, hkd⟩ ?round ?done ?stop)
        case hI => exact fun pre A B h hq => ⟨hq.mod h.1 hw2k, Mod.heap hq (fun hk => by have := hk.1; omega) h.2⟩
        case hIx => exact fun _ _ _ _ h _ => h
        case stop => exact fun _ _ _ _ _ h _ => h.elim
        case round =>
          rintro l pre x W K hI hG hK
          obtain ⟨⟨post, hpost⟩, _, _⟩ := hG
          rw [hM] at hpost
          simp [live, liveFrom] at hpost
        case done =>
          rintro D2 xs WB2 hl2 hS ⟨hI, hI1⟩ hK
          have HPQ2 : Hid (Pure WB1 WB2) := hI
          have HD2 := Lib.hid hK
          have hd2l : D2 < WB2.heap.size := lt_of_block hK
          have HD1b := Lib.hid hI1
          have hd12 : D1 < D2 := Nat.lt_of_lt_of_le hd1k hl2
          
          clear hI hS HIT hItlt hM HPP hK hw2k hI1 hkd
          replace HZ3 := Lib.hid (HPQ2.out.heap (fun h => h) HZ3.out); replace HB4 := Lib.hid (HPQ2.out.heap (fun h => h) HB4.out); replace HZS := Lib.hid (HPQ2.out.heap (fun h => h) HZS.out)
          replace HV2 := Lib.hid (HV2.out.pure HPQ2.out)
          replace HPW2 := Lib.hid (HPW2.out.trans HPQ2.out)
          have z3 := HZ3.out; have z4 := HB4.out; have zs := HZS.out
          have z3_0 := cell_of_row _ _ 0 _ _ _ z3; have z3_1 := cell_of_row _ _ 1 _ _ _ z3; have z3_2 := cell_of_row _ _ 2 _ _ _ z3; have z3_3 := cell_of_row _ _ 3 _ _ _ z3; have z3_f := (fun j => frozen_of_row _ _ j _ _ z3); have z3_l := lt_of_block z3; simp at z3_0 z3_1 z3_2 z3_3; have H_z3 := Lib.hid z3; clear z3
          have z4_0 := cell_of_row _ _ 0 _ _ _ z4; have z4_f := (fun j => frozen_of_row _ _ j _ _ z4); have z4_l := lt_of_block z4; simp at z4_0; have H_z4 := Lib.hid z4; clear z4
          have zs_0 := cell_of_row _ _ 0 _ _ _ zs; have zs_1 := cell_of_row _ _ 1 _ _ _ zs; have zs_f := (fun j => frozen_of_row _ _ j _ _ zs); have zs_l := lt_of_block zs; simp at zs_0 zs_1; have H_zs := Lib.hid zs; clear zs
          clear z3_f z3_l H_z3  zs_f zs_l H_zs
          go_wp2
          rw [rounds_succ]
          go_upto_region 20 with fail
          have HKn := Lib.hid (fun W => known10_true W)
          go_upto_region 21 with (go_at_call 29; refine Calls.mono (of_nil (.inl rfl) 0 false) ?_; rintro e wl ⟨rfl, hp1⟩)
          have hpl : Pure wl (wl.alloc (.cells #[.bool false, .slice none 0 0, .int .i64 0] 92)) := (Mod.refl _ wl).alloc _
          have zl := heap_new (w := wl) (o := .cells #[.bool false, .slice none 0 0, .int .i64 0] 92 (0, 0)) rfl
          have HO := Lib.hid (of_nil (w := wl.alloc (.cells #[.bool false, .slice none 0 0, .int .i64 0] 92)) (.inr ⟨_, rfl, zl⟩) 0 false)
          go_upto_region 22 with (go_at_call 29; refine Calls.mono HO.out ?_; rintro e wm ⟨rfl, hp2⟩)
          have HPX := Lib.hid ((hp1.trans hpl).trans hp2)
          clear hp1 hpl zl HO hp2
          go_wp2_with (go_at_call 10; refine Calls.mono (HKn.out _) ?_; rintro e wn ⟨rfl, hp3⟩; have k4 := (HPX.out.trans hp3).cell (fun h => h) z4_0; have kf4 : wn.frozen? ⟨b3 + 1, 0, none⟩ = false := ((HPX.out.trans hp3).cells.2 (b3 + 1) 0 z4_l).trans (z4_f 0); have kl4 : b3 + 1 < wn.heap.size := (HPX.out.trans hp3).lt z4_l)
          have hpy := HPX.out.trans hp3
          have hnd : ∀ {D : Nat}, D < WB2.heap.size → WB2.heap[D]? = some (.deferred (some [])) → (wn.setCell ⟨b3 + 1, 0, none⟩ (.bool true)).heap[D]? = some (.deferred (some [])) := fun {D} _ hD => heap_set_other (hpy.heap (fun h => h) hD) (fun e => by have e' : D = b3 + 1 := e; subst e'; rw [HB4.out] at hD; cases hD)
          have h2 := hnd hd2l HD2.out
          have h1 := hnd (lt_of_block HD1b.out) HD1b.out
          have h4 := heap_set1 (j := 0) (v := .bool true) (hpy.heap (fun h => h) HB4.out)
          have hpw : Pure w (wn.setCell ⟨b3 + 1, 0, none⟩ (.bool true)) := (HPW2.out.trans hpy).then (Mod.set1 _ 0 _) (fun i hi e => by have := HB3.out; omega)
          have hwd1 : w.heap.size ≤ D1 := by have := HB3.out; omega
          have y4 := cell_of_row _ _ 0 _ _ _ h4
          simp at y4
          refine bodyPostM_marks2 (ls := [D2, D1]) (N := D1) (v := .bool true) ?_ ?_ ?_ ?_ ?_
          · intro l hl
            rcases List.mem_cons.1 hl with rfl | hl
            · exact h2
            · rw [List.mem_singleton.1 hl]; exact h1
          · simp; omega
          · intro l hl
            rcases List.mem_cons.1 hl with rfl | hl
            · omega
            · rw [List.mem_singleton.1 hl]; exact Nat.le_refl _
          · intro W' hq
            have y5 := hq.cell y4
            simp [results, Tryz.results6, go_sem, y5]
          · intro W' hq
            exact ⟨rfl, hq.mod hpw hwd1⟩
end Go.Proofs.YtpafcocciggfpaaGreat
