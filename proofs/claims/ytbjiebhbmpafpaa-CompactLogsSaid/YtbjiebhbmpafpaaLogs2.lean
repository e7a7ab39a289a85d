/- law11.CompactLogs answers true. Condition: the slot numbers are read. -/
import Derived.Test.YtbjiebhbmpafpaaLogs
namespace Go.Proofs.Ytbjiebhbmpafpaa
open Go.RowKit Go.Shelf
set_option maxRecDepth 100000

set_option maxHeartbeats 2000000 in
theorem CompactLogs_true {w : World} (n : Int) (a : Option Addr) (c : Nat) (gs : List Nat) (hg : ReadAt w (.slice a gs.length c) 1 (u32s gs)) (hgu : ∀ s ∈ gs, s ≤ 4294967295) (hgl : gs.length ≤ 9223372036854775807) :
    Calls Try.prog 6 #[.int .i64 n, .slice a gs.length c] w fun e w' => e = .returned (.bool true) ∧ Pure w w' := by
  by_cases hm : (decide (n < 0) || decide (100 < n) || decide (100 < (gs.length : Int))) = true
  · have HM := Lib.hid hm
    clear hm hg hgu
    go_enter Try.func6, Try.ntmps6
    go_wp2_with (first
      | (go_at_call 16; refine Calls.mono (many_any n a _ c _ hgl true HM.out) ?_; rintro e w1 ⟨rfl, rfl⟩)
      | (go_at_call 15; refine Calls.mono (known_true _) ?_; rintro e w1 ⟨rfl, hp⟩))
    go_ret
    exact ⟨rfl, hp⟩
  · have hm2 : (decide (n < 0) || decide (100 < n) || decide (100 < (gs.length : Int))) = false := by simpa using hm
    have h0 : 0 ≤ n ∧ n ≤ 100 ∧ gs.length ≤ 100 := by simp at hm; omega
    obtain ⟨k, rfl⟩ := Int.eq_ofNat_of_zero_le h0.1
    have HM := Lib.hid hm2
    have hk : k ≤ 100 := by omega
    have hg2 : gs.length ≤ 100 := h0.2.2
    have HG := Lib.hid hg
    have HGU := Lib.hid hgu
    clear hm hm2 hg hgu h0
    go_enter Try.func6, Try.ntmps6
    go_upto_region 4 with (first
      | (go_at_call 16; refine Calls.mono (many_any _ a _ c _ hgl false HM.out) ?_; rintro e w1 ⟨rfl, rfl⟩)
      | (go_at_call 17; refine Calls.mono (made_any k hk a c gs HG.out hg2 HGU.out) ?_; rintro e w1 ⟨p, D, aL, cL, aG, cG, Q, rfl, hl, hD, hQ, hR, hA, hp⟩))
    have hal : Pure w1 (w1.alloc (.cells #[.slice aL Q.length cL, .slice aG Q.length cG] 30)) := (Mod.refl _ w1).alloc _
    have hql : Q.length ≤ 100 := by have := congrArg List.length hQ; rw [List.length_map, madeR_length] at this; omega
    rw [← hQ] at hl
    obtain ⟨m, hqm⟩ : ∃ m, Q.length = m := ⟨_, rfl⟩
    have S0 : CLs w p w1.heap.size D aL cL aG cG m Q (w1.alloc (.cells #[.slice aL Q.length cL, .slice aG Q.length cG] 30)) := ⟨hp.trans hal, hl.pure hal, by rw [hqm]; exact heap_new rfl, hR.pure hal, hqm, by rw [← hqm]; exact hA, hD⟩
    have hm100 : m ≤ 100 := by omega
    have hsl : (slotsR (Q.map absQ)).length = m := by rw [slotsR_length, List.length_map, hqm]
    rw [hqm] at S0 ⊢
    clear hl hD hQ hR hA hp hal hql hqm
    generalize w1.alloc (.cells #[.slice aL m cL, .slice aG m cG] 30) = W at S0 ⊢
    generalize w1.heap.size = b6 at S0 ⊢
    obtain ⟨xs, hxs⟩ : ∃ xs, olds (slotsR (Q.map absQ)) = xs := ⟨_, rfl⟩
    obtain ⟨j, hj⟩ : ∃ j, xs.length = j := ⟨_, rfl⟩
    have hri : Rising xs := by rw [← hxs]; exact olds_rising (by rw [hsl]; omega)
    have hlt : ∀ x ∈ xs, x < m := by rw [← hxs, ← hsl]; exact olds_lt
    have H0 := Lib.hid S0; have HX := Lib.hid hxs; have HJ := Lib.hid hj; have HRI := Lib.hid hri; have HLT := Lib.hid hlt; have HSL := Lib.hid hsl
    clear S0 hxs hj hri hlt hsl
    go_upto_region 7 with (go_at_call 18; refine Calls.mono (compactC H0.out.log xs m j HX.out HSL.out HJ.out) ?_; rintro e w2 ⟨q, a2, c2, D2, rfl, hl2, hr2, hp2, hd2⟩)
    have hal : Pure w2 (w2.alloc (.cells #[.slice a2 j c2, .int .i64 m] 34)) := (Mod.refl _ w2).alloc _
    have X0 : CLx q w2.heap.size D2 (packed (slotsR (Q.map absQ))) a2 c2 j m xs (w2.alloc (.cells #[.slice a2 j c2, .int .i64 m] 34)) := ⟨hl2.pure hal, heap_new rfl, owns_mod hr2 hal (fun _ _ h => h), HJ.out⟩
    have hdd : ∀ i, D i → ¬ D2 i := fun i h1 h2 => by have := hd2 i h2; have := H0.out.log.lt h1; omega
    have hda : ∀ g, (Value.slice aL m cL).ownBlock = some g → ¬ D2 g := fun g h1 h2 => by have := hd2 g h2; have := owns_lt (H0.out.len ▸ H0.out.ref.L) h1; omega
    have hdw : ∀ i, D2 i → w.heap.size ≤ i := fun i h => by have := hd2 i h; have := H0.out.pu.size; omega
    have HDD := Lib.hid hdd; have HDA := Lib.hid hda; have HDW := Lib.hid hdw
    replace H0 := Lib.hid ((H0.out.pure hp2).pure hal)
    have H1 := Lib.hid X0
    clear X0 hal hp2 hl2 hr2 hd2 hdd hda hdw
    generalize w2.alloc (.cells #[.slice a2 j c2, .int .i64 m] 34) = W2 at H0 H1 ⊢
    generalize w2.heap.size = b9 at H1 ⊢
    have hr := H0.out.r6
    have hr_0 := cell_of_row _ _ 0 _ _ _ hr; have hr_1 := cell_of_row _ _ 1 _ _ _ hr; have hr_f := (fun j => frozen_of_row _ _ j _ _ hr); have hr_l := lt_of_block hr; simp at hr_0 hr_1; have H_hr := Lib.hid hr; clear hr
    go_upto_region 8 with (go_at_call 19; refine Calls.mono (ref_LogC H0.out.ref m H0.out.len xs j HX.out HJ.out) ?_; rintro e w3 ⟨aL2, cL2, aG2, cG2, m2, Q2, aN, cN, rfl, hm2, hq2, hR2, hN, hp3⟩)
    have hal : Pure w3 ((w3.alloc (.cells #[.slice aL2 m2 cL2, .slice aG2 m2 cG2] 30)).alloc (.cells #[.slice aN m cN, .int .i64 j] 40)) := ((Mod.refl _ w3).alloc _).alloc _
    have Y0 : CLy w3.heap.size (w3.heap.size + 1) aL2 cL2 aG2 cG2 m2 Q2 aN cN m xs j ((w3.alloc (.cells #[.slice aL2 m2 cL2, .slice aG2 m2 cG2] 30)).alloc (.cells #[.slice aN m cN, .int .i64 j] 40)) := ⟨heap_keep (heap_new rfl), hR2.pure hal, hm2, heap_new (by simp), hN.pure hal⟩
    replace H0 := Lib.hid ((H0.out.pure hp3).pure hal)
    replace H1 := Lib.hid ((H1.out.pure hp3).pure hal)
    have H2 := Lib.hid Y0
    have HQ2 := Lib.hid (show packed (slotsR (Q.map absQ)) = slotsR (Q2.map absQ) by rw [hq2, packR_slots])
    clear hr_0 hr_1 hr_f hr_l
    clear Y0 hal hp3 hR2 hN hq2 hm2
    generalize (w3.alloc (.cells #[.slice aL2 m2 cL2, .slice aG2 m2 cG2] 30)).alloc (.cells #[.slice aN m cN, .int .i64 j] 40) = W3 at H0 H1 H2 ⊢
    generalize w3.heap.size + 1 = b12 at H2 ⊢
    generalize w3.heap.size = b11 at H2 ⊢
    have hr := H0.out.r6; have hs := H1.out.r9; have ht := H2.out.r11; have hu := H2.out.r12
    have hr_0 := cell_of_row _ _ 0 _ _ _ hr; have hr_1 := cell_of_row _ _ 1 _ _ _ hr; have hr_f := (fun j => frozen_of_row _ _ j _ _ hr); have hr_l := lt_of_block hr; simp at hr_0 hr_1; have H_hr := Lib.hid hr; clear hr
    have hs_0 := cell_of_row _ _ 0 _ _ _ hs; have hs_1 := cell_of_row _ _ 1 _ _ _ hs; have hs_f := (fun j => frozen_of_row _ _ j _ _ hs); have hs_l := lt_of_block hs; simp at hs_0 hs_1; have H_hs := Lib.hid hs; clear hs
    have ht_0 := cell_of_row _ _ 0 _ _ _ ht; have ht_1 := cell_of_row _ _ 1 _ _ _ ht; have ht_f := (fun j => frozen_of_row _ _ j _ _ ht); have ht_l := lt_of_block ht; simp at ht_0 ht_1; have H_ht := Lib.hid ht; clear ht
    have hu_0 := cell_of_row _ _ 0 _ _ _ hu; have hu_1 := cell_of_row _ _ 1 _ _ _ hu; have hu_f := (fun j => frozen_of_row _ _ j _ _ hu); have hu_l := lt_of_block hu; simp at hu_0 hu_1; have H_hu := Lib.hid hu; clear hu
    have t1 : Hid True := Lib.hid trivial; have t2 := t1
    go_upto_region 10 with (first
      | (go_at_call 33; have := t1.out; clear this t1; refine Calls.mono (same_trueC H1.out.log H2.out.ref m2 H2.out.len HQ2.out) ?_; rintro e w4 ⟨rfl, hp4⟩; replace H0 := Lib.hid (H0.out.pure hp4); replace H1 := Lib.hid (H1.out.pure hp4); replace H2 := Lib.hid (H2.out.pure hp4); clear hp4 hr_0 hr_1 hr_f hr_l H_hr hs_0 hs_1 hs_f hs_l H_hs ht_0 ht_1 ht_f ht_l H_ht hu_0 hu_1 hu_f hu_l H_hu; have hr := H0.out.r6; have hs := H1.out.r9; have ht := H2.out.r11; have hu := H2.out.r12; have hr_0 := cell_of_row _ _ 0 _ _ _ hr; have hr_1 := cell_of_row _ _ 1 _ _ _ hr; have hr_f := (fun j => frozen_of_row _ _ j _ _ hr); have hr_l := lt_of_block hr; simp at hr_0 hr_1; have H_hr := Lib.hid hr; clear hr; have hs_0 := cell_of_row _ _ 0 _ _ _ hs; have hs_1 := cell_of_row _ _ 1 _ _ _ hs; have hs_f := (fun j => frozen_of_row _ _ j _ _ hs); have hs_l := lt_of_block hs; simp at hs_0 hs_1; have H_hs := Lib.hid hs; clear hs; have ht_0 := cell_of_row _ _ 0 _ _ _ ht; have ht_1 := cell_of_row _ _ 1 _ _ _ ht; have ht_f := (fun j => frozen_of_row _ _ j _ _ ht); have ht_l := lt_of_block ht; simp at ht_0 ht_1; have H_ht := Lib.hid ht; clear ht; have hu_0 := cell_of_row _ _ 0 _ _ _ hu; have hu_1 := cell_of_row _ _ 1 _ _ _ hu; have hu_f := (fun j => frozen_of_row _ _ j _ _ hu); have hu_l := lt_of_block hu; simp at hu_0 hu_1; have H_hu := Lib.hid hu; clear hu)
      | (go_at_call 33; have := t2.out; clear this t2; refine Calls.mono (same_trueC H0.out.log H0.out.ref m H0.out.len rfl) ?_; rintro e w4 ⟨rfl, hp4⟩; replace H0 := Lib.hid (H0.out.pure hp4); replace H1 := Lib.hid (H1.out.pure hp4); clear hp4 H2 hr_0 hr_1 hr_f hr_l H_hr hs_0 hs_1 hs_f hs_l H_hs ht_0 ht_1 ht_f ht_l H_ht hu_0 hu_1 hu_f hu_l H_hu)
      | (go_at_call 24; refine Calls.mono (moves_trueC H1.out.row HRI.out H2.out.mv (by omega) HLT.out j HJ.out) ?_; rintro e w4 ⟨rfl, hp4⟩; replace H0 := Lib.hid (H0.out.pure hp4); replace H1 := Lib.hid (H1.out.pure hp4); replace H2 := Lib.hid (H2.out.pure hp4); clear hp4 hr_0 hr_1 hr_f hr_l H_hr hs_0 hs_1 hs_f hs_l H_hs ht_0 ht_1 ht_f ht_l H_ht hu_0 hu_1 hu_f hu_l H_hu; have hr := H0.out.r6; have hs := H1.out.r9; have ht := H2.out.r11; have hu := H2.out.r12; have hr_0 := cell_of_row _ _ 0 _ _ _ hr; have hr_1 := cell_of_row _ _ 1 _ _ _ hr; have hr_f := (fun j => frozen_of_row _ _ j _ _ hr); have hr_l := lt_of_block hr; simp at hr_0 hr_1; have H_hr := Lib.hid hr; clear hr; have hs_0 := cell_of_row _ _ 0 _ _ _ hs; have hs_1 := cell_of_row _ _ 1 _ _ _ hs; have hs_f := (fun j => frozen_of_row _ _ j _ _ hs); have hs_l := lt_of_block hs; simp at hs_0 hs_1; have H_hs := Lib.hid hs; clear hs; have ht_0 := cell_of_row _ _ 0 _ _ _ ht; have ht_1 := cell_of_row _ _ 1 _ _ _ ht; have ht_f := (fun j => frozen_of_row _ _ j _ _ ht); have ht_l := lt_of_block ht; simp at ht_0 ht_1; have H_ht := Lib.hid ht; clear ht; have hu_0 := cell_of_row _ _ 0 _ _ _ hu; have hu_1 := cell_of_row _ _ 1 _ _ _ hu; have hu_f := (fun j => frozen_of_row _ _ j _ _ hu); have hu_l := lt_of_block hu; simp at hu_0 hu_1; have H_hu := Lib.hid hu; clear hu))
    go_upto_region 12 with (first
      | (go_at_call 20; refine Calls.mono (removeA_any H1.out.log 0 (by omega)) ?_; rintro e w5 ⟨⟨v5, rfl⟩, ⟨L5, hl5⟩, hm5⟩; have HL5 := Lib.hid hl5; replace H0 := Lib.hid (cls_beside H0.out H1.out.log hm5 HDD.out HDA.out HDW.out); clear hl5 hm5)
      | (go_at_call 34; refine Calls.mono (setA_any HL5.out 1 (by omega)) ?_; rintro e w6 ⟨⟨v6, rfl⟩, ⟨L6, hl6⟩, hm6⟩; replace H0 := Lib.hid (cls_beside H0.out HL5.out hm6 HDD.out HDA.out HDW.out); clear hl6 hm6))
    clear H1 HL5
    have hr := H0.out.r6
    have hr_0 := cell_of_row _ _ 0 _ _ _ hr; have hr_1 := cell_of_row _ _ 1 _ _ _ hr; have hr_f := (fun j => frozen_of_row _ _ j _ _ hr); have hr_l := lt_of_block hr; simp at hr_0 hr_1; have H_hr := Lib.hid hr; clear hr
    go_wp2_with (first
      | (go_at_call 33; refine Calls.mono (same_trueC H0.out.log H0.out.ref m H0.out.len rfl) ?_; rintro e w7 ⟨rfl, hp7⟩; replace H0 := Lib.hid (H0.out.pure hp7); clear hp7 hr_0 hr_1 hr_f hr_l H_hr)
      | (go_at_call 15; refine Calls.mono (known_true _) ?_; rintro e w8 ⟨rfl, hp8⟩; replace H0 := Lib.hid (H0.out.pure hp8); clear hp8))
    go_ret
    exact ⟨rfl, H0.out.pu⟩
end Go.Proofs.Ytbjiebhbmpafpaa
