/- law11.CompactThen answers true. Condition: the slot numbers are read. -/
import Derived.Test.YtbjiebhbmpafpaaThens
namespace Go.Proofs.Ytbjiebhbmpafpaa
open Go.RowKit Go.Shelf
set_option maxRecDepth 100000

set_option maxHeartbeats 2000000 in
theorem CompactThen_true {w : World} (n : Int) (a : Option Addr) (c : Nat) (gs : List Nat) (hg : ReadAt w (.slice a gs.length c) 1 (u32s gs)) (hgu : ∀ s ∈ gs, s ≤ 4294967295) (hgl : gs.length ≤ 9223372036854775807) (ar : Option Addr) (cr : Nat) (ms : List Nat) (hr : ReadAt w (.slice ar ms.length cr) 1 (u32s ms)) (hmu : ∀ s ∈ ms, s ≤ 4294967295) (hml : ms.length ≤ 9223372036854775807) (tb : Bool) :
    Calls Try.prog 4 #[.int .i64 n, .slice a gs.length c, .slice ar ms.length cr, .bool tb] w fun e w' => e = .returned (.bool true) ∧ Pure w w' := by
  by_cases hm : (decide (n < 0) || decide (100 < n) || decide (100 < (gs.length : Int))) = true
  · have HM := Lib.hid hm
    clear hm hg hgu hr hmu
    go_enter Try.func4, Try.ntmps4
    go_wp2_with (first
      | (go_at_call 16; refine Calls.mono (many_any n a _ c _ hgl true HM.out) ?_; rintro e w1 ⟨rfl, rfl⟩)
      | (go_at_call 15; refine Calls.mono (known_true _) ?_; rintro e w1 ⟨rfl, hp⟩))
    go_ret
    exact ⟨rfl, hp⟩
  · have hm2 : (decide (n < 0) || decide (100 < n) || decide (100 < (gs.length : Int))) = false := by simpa using hm
    by_cases hm3 : (decide (n < 0) || decide (100 < n) || decide (100 < (ms.length : Int))) = true
    · have HM := Lib.hid hm2
      have HM3 := Lib.hid hm3
      clear hm hm2 hm3 hg hgu hr hmu
      go_enter Try.func4, Try.ntmps4
      have t1 : Hid True := Lib.hid trivial
      go_wp2_with (first
        | (go_at_call 16; have := t1.out; clear this t1; refine Calls.mono (many_any n a _ c _ hgl false HM.out) ?_; rintro e w1 ⟨rfl, rfl⟩)
        | (go_at_call 16; refine Calls.mono (many_any n ar _ cr _ hml true HM3.out) ?_; rintro e w1 ⟨rfl, rfl⟩)
        | (go_at_call 15; refine Calls.mono (known_true _) ?_; rintro e w1 ⟨rfl, hp⟩))
      go_ret
      exact ⟨rfl, hp⟩
    have hm4 : (decide (n < 0) || decide (100 < n) || decide (100 < (ms.length : Int))) = false := by simpa using hm3
    have h0 : 0 ≤ n ∧ n ≤ 100 ∧ gs.length ≤ 100 ∧ ms.length ≤ 100 := by simp at hm hm3; omega
    obtain ⟨k, rfl⟩ := Int.eq_ofNat_of_zero_le h0.1
    have HM := Lib.hid hm2
    have hk : k ≤ 100 := by omega
    have hg2 : gs.length ≤ 100 := h0.2.2.1
    have hm2l : ms.length ≤ 100 := h0.2.2.2
    have HM4 := Lib.hid hm4
    have HRM := Lib.hid hr
    have HMU := Lib.hid hmu
    have t1 : Hid True := Lib.hid trivial
    clear hm3 hm4 hr hmu
    have HG := Lib.hid hg
    have HGU := Lib.hid hgu
    clear hm hm2 hg hgu h0
    go_enter Try.func4, Try.ntmps4
    go_upto_region 4 with (first
      | (go_at_call 16; have := t1.out; clear this t1; refine Calls.mono (many_any _ a _ c _ hgl false HM.out) ?_; rintro e w1 ⟨rfl, rfl⟩)
      | (go_at_call 16; refine Calls.mono (many_any _ ar _ cr _ hml false HM4.out) ?_; rintro e w1 ⟨rfl, rfl⟩)
      | (go_at_call 17; refine Calls.mono (made_any k hk a c gs HG.out hg2 HGU.out) ?_; rintro e w1 ⟨p, D, aL, cL, aG, cG, Q, rfl, hl, hD, hQ, hR, hA, hp⟩))
    have hal : Pure w1 (w1.alloc (.cells #[.slice aL Q.length cL, .slice aG Q.length cG] 30)) := (Mod.refl _ w1).alloc _
    have hql : Q.length ≤ 100 := by have := congrArg List.length hQ; rw [List.length_map, madeR_length] at this; omega
    rw [← hQ] at hl
    obtain ⟨m, hqm⟩ : ∃ m, Q.length = m := ⟨_, rfl⟩
    have S0 : CLs w p w1.heap.size D aL cL aG cG m Q (w1.alloc (.cells #[.slice aL Q.length cL, .slice aG Q.length cG] 30)) := ⟨hp.trans hal, hl.pure hal, by rw [hqm]; exact heap_new rfl, hR.pure hal, hqm, by rw [← hqm]; exact hA, hD⟩
    have hm100 : m ≤ 100 := by omega
    have hsl : (slotsR (Q.map absQ)).length = m := by rw [slotsR_length, List.length_map, hqm]
    rw [hqm] at S0 ⊢
    clear hl hD hQ hR hA hp hal hql hqm
    generalize w1.alloc (.cells #[.slice aL m cL, .slice aG m cG] 30) = W at S0 ⊢
    generalize w1.heap.size = b6 at S0 ⊢
    obtain ⟨xs, hxs⟩ : ∃ xs, olds (slotsR (Q.map absQ)) = xs := ⟨_, rfl⟩
    obtain ⟨j, hj⟩ : ∃ j, xs.length = j := ⟨_, rfl⟩
    have hri : Rising xs := by rw [← hxs]; exact olds_rising (by rw [hsl]; omega)
    have hlt : ∀ x ∈ xs, x < m := by rw [← hxs, ← hsl]; exact olds_lt
    have H0 := Lib.hid S0; have HX := Lib.hid hxs; have HJ := Lib.hid hj; have HRI := Lib.hid hri; have HLT := Lib.hid hlt; have HSL := Lib.hid hsl
    clear S0 hxs hj hri hlt hsl
    go_upto_region 7 with (go_at_call 18; refine Calls.mono (compactC H0.out.log xs m j HX.out HSL.out HJ.out) ?_; rintro e w2 ⟨q, a2, c2, D2, rfl, hl2, hr2, hp2, hd2⟩)
    have hal : Pure w2 (w2.alloc (.cells #[.slice a2 j c2, .int .i64 m] 34)) := (Mod.refl _ w2).alloc _
    have X0 : CLx q w2.heap.size D2 (packed (slotsR (Q.map absQ))) a2 c2 j m xs (w2.alloc (.cells #[.slice a2 j c2, .int .i64 m] 34)) := ⟨hl2.pure hal, heap_new rfl, owns_mod hr2 hal (fun _ _ h => h), HJ.out⟩
    have hdw : ∀ i, D2 i → w.heap.size ≤ i := fun i h => by have := hd2 i h; have := H0.out.pu.size; omega
    have HDW := Lib.hid hdw
    have hbw : w.heap.size ≤ w2.heap.size := by have := H0.out.pu.size; have := hp2.size; omega
    replace H0 := Lib.hid ((H0.out.pure hp2).pure hal)
    have H1 := Lib.hid X0
    clear X0 hal hp2 hl2 hr2 hd2 hdw
    generalize w2.alloc (.cells #[.slice a2 j c2, .int .i64 m] 34) = W2 at H0 H1 ⊢
    generalize w2.heap.size = b13 at H1 hbw ⊢
    have hr := H0.out.r6
    have hr_0 := cell_of_row _ _ 0 _ _ _ hr; have hr_1 := cell_of_row _ _ 1 _ _ _ hr; have hr_f := (fun j => frozen_of_row _ _ j _ _ hr); have hr_l := lt_of_block hr; simp at hr_0 hr_1; have H_hr := Lib.hid hr; clear hr
    go_upto_region 8 with (go_at_call 19; refine Calls.mono (ref_LogC H0.out.ref m H0.out.len xs j HX.out HJ.out) ?_; rintro e w3 ⟨aL2, cL2, aG2, cG2, m2, Q2, aN, cN, rfl, hm2, hq2, hR2, hN, hf3, hp3⟩)
    have hal : Pure w3 ((w3.alloc (.cells #[.slice aL2 m2 cL2, .slice aG2 m2 cG2] 30)).alloc (.cells #[.slice aN m cN, .int .i64 j] 40)) := ((Mod.refl _ w3).alloc _).alloc _
    have hps := slotsR (Q.map absQ)
    have L0 : ThL w q w3.heap.size D2 aL2 cL2 aG2 cG2 m2 Q2 ((w3.alloc (.cells #[.slice aL2 m2 cL2, .slice aG2 m2 cG2] 30)).alloc (.cells #[.slice aN m cN, .int .i64 j] 40)) :=
      ⟨(H0.out.pu.trans hp3).trans hal, by rw [hq2, packR_slots]; exact (H1.out.log.pure hp3).pure hal, heap_keep (heap_new rfl), hR2.pure hal, hm2, fun g hg hd => by have := hf3 g hg; have := H1.out.log.lt hd; omega, HDW.out, by have := H0.out.pu.size; have := hp3.size; omega⟩
    have M0 : TMv b13 (w3.heap.size + 1) a2 c2 j m xs aN cN ((w3.alloc (.cells #[.slice aL2 m2 cL2, .slice aG2 m2 cG2] 30)).alloc (.cells #[.slice aN m cN, .int .i64 j] 40)) :=
      ⟨hal.heap (fun h => h) (hp3.heap (fun h => h) H1.out.r9), heap_new (by simp), owns_mod H1.out.row (hp3.trans hal) (fun _ _ h => h), hN.pure hal, HJ.out, HRI.out, HLT.out, hm100⟩
    have hQl : (Q2.map absQ).length = j := by rw [hq2, packR_length, HX.out, HJ.out]
    have hb1316 : b13 < w3.heap.size + 1 := by have := lt_of_block (hp3.heap (fun h => h) H1.out.r9); omega
    have HL0 := Lib.hid L0; have HM0 := Lib.hid M0; have HQL := Lib.hid hQl
    clear hr_0 hr_1 hr_f hr_l
    clear L0 M0 hal hp3 hR2 hN hf3 hps hQl hq2 hm2 H0 H1
    generalize (w3.alloc (.cells #[.slice aL2 m2 cL2, .slice aG2 m2 cG2] 30)).alloc (.cells #[.slice aN m cN, .int .i64 j] 40) = W3 at HL0 HM0 ⊢
    generalize w3.heap.size + 1 = b16 at HM0 hb1316 ⊢
    generalize w3.heap.size = b15 at HL0 ⊢
    generalize hR0 : Q2.map absQ = R0 at *
    have HR0 := Lib.hid hR0
    clear hR0
    go_wp2
    go_loopw [63] (fun i wr => ∃ (r : Nat) (aL : Option Addr) (cL : Nat) (aG : Option Addr) (cG mm : Nat) (Q : List RQ), r ≤ ms.length ∧ i = .int .i64 r ∧ Q.map absQ = (ms.take r).foldl rmR R0 ∧ ThL w q b15 D2 aL cL aG cG mm Q wr ∧ TMv b13 b16 a2 c2 j m xs aN cN wr) (fun i _ => ms.length - (intOf i).toNat)
    case atStart => exact ⟨0, aL2, cL2, aG2, cG2, m2, Q2, Nat.zero_le _, rfl, HR0.out, HL0.out, HM0.out⟩
    case round =>
      obtain ⟨r, aL, cL, aG, cG, mm, Q3, hrl, rfl, hq3, hL, hM⟩ := hrel
      have HL := Lib.hid hL; have HM := Lib.hid hM; have HQ3 := Lib.hid hq3
      clear hL hM hq3 HL0 HM0
      by_cases hlt : r < ms.length
      · have hr1 : (r : Int) < (ms.length : Int) := by omega
        obtain ⟨gb, go, hga, hgb, hgc⟩ := (HRM.out.frame HL.out.pu (fun _ _ h => h)).place (by omega)
        subst hga
        have he := List.getElem?_eq_getElem hlt
        generalize ms[r] = s at he
        have hs := HMU.out s (List.mem_of_getElem? he)
        have sg := hgc r (.int .u32 s) (by simp only [u32s, List.getElem?_map, he, Option.map_some])
        have HE := Lib.hid he
        clear he hgc
        have hs1 : (s : Int) ≤ 4294967295 := by omega
        go_upto_region 14 with (go_at_call 20; refine Calls.mono (removeR HL.out.log s hs) ?_; rintro e w5 ⟨⟨v5, rfl⟩, hl5, hm5⟩)
        clear sg
        have hr5 := HL.out.log.box hm5 HL.out.r15 (by decide) (by decide)
        have hR5 := HL.out.ref.beside HL.out.log hm5 (by rw [HL.out.len]; exact HL.out.ap)
        have HL5 := Lib.hid hl5; have HM5 := Lib.hid hm5; have HR5 := Lib.hid hR5
        clear hl5 hm5 hR5
        have hr5_0 := cell_of_row _ _ 0 _ _ _ hr5; have hr5_1 := cell_of_row _ _ 1 _ _ _ hr5; have hr5_f := (fun j => frozen_of_row _ _ j _ _ hr5); have hr5_l := lt_of_block hr5; simp at hr5_0 hr5_1; have H_hr5 := Lib.hid hr5; clear hr5
        go_upto_region 15 with (go_at_call 21; refine Calls.mono (ref_RemoveR HR5.out HL.out.len s hs D2 (fun k hk => HL5.out.lt hk) HL.out.ap) ?_; rintro e w6 ⟨aL6, cL6, aG6, cG6, Q6, v6, f6, rfl, hm6, hq6, hR6, hA6, hp6⟩; have z6 := hp6.heap (fun h => h) H_hr5.out; have z6_0 := cell_of_row _ _ 0 _ _ _ z6; have z6_1 := cell_of_row _ _ 1 _ _ _ z6; have z6_f := (fun j => frozen_of_row _ _ j _ _ z6); have z6_l := lt_of_block z6; simp at z6_0 z6_1; have H_z6 := Lib.hid z6; clear z6)
        obtain ⟨S1, S2⟩ := thl_step HL.out HM5.out HL5.out hp6 hR6 hA6 hm6 (by rw [hq6]) rfl
        have SM := HM.out.mod HL.out.log HL.out.r15 S2
        have HS1 := Lib.hid S1; have HSM := Lib.hid SM; have HQ6 := Lib.hid hq6
        clear z6_0 z6_1 z6_f z6_l
        clear hr5_0 hr5_1 hr5_f hr5_l
        clear S1 S2 SM hp6 hR6 hA6 hm6 hq6 HM5 HL5 HR5
        generalize (w6.setCell ⟨b15, 0, none⟩ (.slice aL6 mm cL6)).setCell ⟨b15, 1, none⟩ (.slice aG6 mm cG6) = W7 at HS1 HSM ⊢
        go_wp2
        go_roundw
        case rel => exact ⟨r + 1, aL6, cL6, aG6, cG6, mm, Q6, by omega, by go_num, by rw [HQ6.out, HQ3.out, take_foldl HE.out], HS1.out, HSM.out⟩
        case measure => simp [intOf]; omega
      · have hr1 : ¬ ((r : Int) < (ms.length : Int)) := by omega
        have hrr : r = ms.length := by omega
        have hr15 := HL.out.r15
        have hQl3 : (slotsR (Q3.map absQ)).length = j := by rw [HQ3.out, foldl_slots, HQL.out]
        obtain ⟨ys, hys⟩ : ∃ ys, olds (slotsR (Q3.map absQ)) = ys := ⟨_, rfl⟩
        obtain ⟨jy, hjy⟩ : ∃ jy, ys.length = jy := ⟨_, rfl⟩
        have hjm : j ≤ m := by rw [← HJ.out, ← HX.out, olds_length, ← HSL.out]; exact live_length _
        have hri2 : Rising ys := by rw [← hys]; exact olds_rising (by rw [hQl3]; omega)
        have hlt2 : ∀ x ∈ ys, x < j := by rw [← hys, ← hQl3]; exact olds_lt
        have HYS := Lib.hid hys; have HJY := Lib.hid hjy; have HR2 := Lib.hid hri2; have HLT2 := Lib.hid hlt2; have HQL3 := Lib.hid hQl3
        clear hys hjy hri2 hlt2 hQl3 hrr
        have hr15_0 := cell_of_row _ _ 0 _ _ _ hr15; have hr15_1 := cell_of_row _ _ 1 _ _ _ hr15; have hr15_f := (fun j => frozen_of_row _ _ j _ _ hr15); have hr15_l := lt_of_block hr15; simp at hr15_0 hr15_1; have H_hr15 := Lib.hid hr15; clear hr15
        go_upto_region 17 with (go_at_call 18; refine Calls.mono (compactC HL.out.log ys j jy HYS.out HQL3.out HJY.out) ?_; rintro e w8 ⟨q8, a8, c8, D8, rfl, hl8, hr8, hp8, hd8⟩)
        have hal : Pure w8 (w8.alloc (.cells #[.slice a8 jy c8, .int .i64 j] 34)) := (Mod.refl _ w8).alloc _
        have z20 := heap_new (w := w8) (o := .cells #[.slice a8 jy c8, .int .i64 j] 34 (0, 0)) rfl
        have hrow := owns_mod hr8 hal (fun _ _ h => h)
        have hb1620 : b16 < w8.heap.size := lt_of_block ((HM.out.pure hp8).r16)
        replace HL := Lib.hid ((HL.out.pure hp8).pure hal)
        replace HM := Lib.hid ((HM.out.pure hp8).pure hal)
        clear hr15_0 hr15_1 hr15_f hr15_l
        clear hal hl8 hr8 hp8 hd8
        generalize w8.alloc (.cells #[.slice a8 jy c8, .int .i64 j] 34) = W8 at HL HM z20 hrow ⊢
        generalize w8.heap.size = b20 at z20 hb1620 ⊢
        have HZ := Lib.hid z20; have HROW := Lib.hid hrow
        clear z20 hrow
        have hr15 := HL.out.r15
        have hr15_0 := cell_of_row _ _ 0 _ _ _ hr15; have hr15_1 := cell_of_row _ _ 1 _ _ _ hr15; have hr15_f := (fun j => frozen_of_row _ _ j _ _ hr15); have hr15_l := lt_of_block hr15; simp at hr15_0 hr15_1; have H_hr15 := Lib.hid hr15; clear hr15
        go_upto_region 18 with (go_at_call 19; refine Calls.mono (ref_LogC HL.out.ref mm HL.out.len ys jy HYS.out HJY.out) ?_; rintro e w9 ⟨aL9, cL9, aG9, cG9, m9, Q9, aN9, cN9, rfl, hm9, hq9, hR9, hN9, hf9, hp9⟩)
        have hal : Pure w9 ((w9.alloc (.cells #[.slice aL9 m9 cL9, .slice aG9 m9 cG9] 30)).alloc (.cells #[.slice aN9 mm cN9, .int .i64 jy] 40)) := ((Mod.refl _ w9).alloc _).alloc _
        have hmm : mm = j := by have := HQL3.out; rw [slotsR_length, List.length_map, HL.out.len] at this; exact this
        have M1 : TMv b20 (w9.heap.size + 1) a8 c8 jy mm ys aN9 cN9 ((w9.alloc (.cells #[.slice aL9 m9 cL9, .slice aG9 m9 cG9] 30)).alloc (.cells #[.slice aN9 mm cN9, .int .i64 jy] 40)) :=
          ⟨hal.heap (fun h => h) (hp9.heap (fun h => h) (by rw [hmm]; exact HZ.out)), heap_new (by simp), owns_mod HROW.out (hp9.trans hal) (fun _ _ h => h), hN9.pure hal, HJY.out, HR2.out, by rw [hmm]; exact HLT2.out, by omega⟩
        have T0 : ThMid w b13 b16 b20 (w9.heap.size + 1) ((w9.alloc (.cells #[.slice aL9 m9 cL9, .slice aG9 m9 cG9] 30)).alloc (.cells #[.slice aN9 mm cN9, .int .i64 jy] 40)) :=
          ⟨(HL.out.pu.trans hp9).trans hal, _, _, _, _, _, _, _, _, _, _, _, _, _, _, (HM.out.pure hp9).pure hal, M1⟩
        have hb2022 : b20 < w9.heap.size + 1 := by have := lt_of_block (hp9.heap (fun h => h) HZ.out); omega
        have HT := Lib.hid T0
        clear hr15_0 hr15_1 hr15_f hr15_l
        clear T0 M1 hal hp9 hR9 hN9 hf9 hq9 hm9 hmm HL HM HZ HROW
        generalize (w9.alloc (.cells #[.slice aL9 m9 cL9, .slice aG9 m9 cG9] 30)).alloc (.cells #[.slice aN9 mm cN9, .int .i64 jy] 40) = W9 at HT ⊢
        generalize w9.heap.size + 1 = b22 at HT hb2022 ⊢
        generalize w9.heap.size = b21
        go_upto_if 91 with fail
        go_cut [] (fun wc => ThMid w b13 b16 b20 b22 wc)
        case first =>
          obtain ⟨hpu, a1, c1, k1, n1, xs1, aN1, cN1, a3, c3, k3, n3, xs3, aN3, cN3, hA, hB⟩ := HT.out
          have HA := Lib.hid hA; have HB := Lib.hid hB
          clear hA hB
          have hr13 := HA.out.r13; have hr16 := HA.out.r16; have hr20 := HB.out.r13; have hr22 := HB.out.r16
          have hr13_0 := cell_of_row _ _ 0 _ _ _ hr13; have hr13_1 := cell_of_row _ _ 1 _ _ _ hr13; have hr13_f := (fun j => frozen_of_row _ _ j _ _ hr13); have hr13_l := lt_of_block hr13; simp at hr13_0 hr13_1; have H_hr13 := Lib.hid hr13; clear hr13
          have hr16_0 := cell_of_row _ _ 0 _ _ _ hr16; have hr16_1 := cell_of_row _ _ 1 _ _ _ hr16; have hr16_f := (fun j => frozen_of_row _ _ j _ _ hr16); have hr16_l := lt_of_block hr16; simp at hr16_0 hr16_1; have H_hr16 := Lib.hid hr16; clear hr16
          have hr20_0 := cell_of_row _ _ 0 _ _ _ hr20; have hr20_1 := cell_of_row _ _ 1 _ _ _ hr20; have hr20_f := (fun j => frozen_of_row _ _ j _ _ hr20); have hr20_l := lt_of_block hr20; simp at hr20_0 hr20_1; have H_hr20 := Lib.hid hr20; clear hr20
          have hr22_0 := cell_of_row _ _ 0 _ _ _ hr22; have hr22_1 := cell_of_row _ _ 1 _ _ _ hr22; have hr22_f := (fun j => frozen_of_row _ _ j _ _ hr22); have hr22_l := lt_of_block hr22; simp at hr22_0 hr22_1; have H_hr22 := Lib.hid hr22; clear hr22
          go_wp2_with fail
          · go_region
            go_wp2_with fail
            go_meet
            exact th_swap hpu HA.out HB.out hbw hb1316 hb1620 hb2022
          · go_meet
            exact HT.out
        case rest =>
          obtain ⟨hpu, a1, c1, k1, n1, xs1, aN1, cN1, a3, c3, k3, n3, xs3, aN3, cN3, hA, hB⟩ := hcut
          have HPU := Lib.hid hpu; have HA := Lib.hid hA; have HB := Lib.hid hB
          clear hA hB hpu HT
          have hr13 := HA.out.r13; have hr16 := HA.out.r16; have hr20 := HB.out.r13; have hr22 := HB.out.r16
          have hr13_0 := cell_of_row _ _ 0 _ _ _ hr13; have hr13_1 := cell_of_row _ _ 1 _ _ _ hr13; have hr13_f := (fun j => frozen_of_row _ _ j _ _ hr13); have hr13_l := lt_of_block hr13; simp at hr13_0 hr13_1; have H_hr13 := Lib.hid hr13; clear hr13
          have hr16_0 := cell_of_row _ _ 0 _ _ _ hr16; have hr16_1 := cell_of_row _ _ 1 _ _ _ hr16; have hr16_f := (fun j => frozen_of_row _ _ j _ _ hr16); have hr16_l := lt_of_block hr16; simp at hr16_0 hr16_1; have H_hr16 := Lib.hid hr16; clear hr16
          have hr20_0 := cell_of_row _ _ 0 _ _ _ hr20; have hr20_1 := cell_of_row _ _ 1 _ _ _ hr20; have hr20_f := (fun j => frozen_of_row _ _ j _ _ hr20); have hr20_l := lt_of_block hr20; simp at hr20_0 hr20_1; have H_hr20 := Lib.hid hr20; clear hr20
          have hr22_0 := cell_of_row _ _ 0 _ _ _ hr22; have hr22_1 := cell_of_row _ _ 1 _ _ _ hr22; have hr22_f := (fun j => frozen_of_row _ _ j _ _ hr22); have hr22_l := lt_of_block hr22; simp at hr22_0 hr22_1; have H_hr22 := Lib.hid hr22; clear hr22
          by_cases hk3 : k1 = n3
          · have HK := Lib.hid hk3
            clear hk3
            go_upto_region 23 with (go_at_call 22; refine Calls.mono (ThenC HA.out.row HB.out.row n1 n3 HA.out.up HB.out.up (fun y hy => by rw [HA.out.len, HK.out]; exact HB.out.lt y hy) HA.out.len HB.out.len HK.out) ?_; rintro e w10 ⟨a10, c10, rfl, hr10, hp10⟩)
            have hal : Pure w10 (w10.alloc (.cells #[.slice a10 k3 c10, .int .i64 n1] 34)) := (Mod.refl _ w10).alloc _
            have z23 := heap_new (w := w10) (o := (.cells #[.slice a10 k3 c10, .int .i64 n1] 34 (0, 0))) rfl
            have hrow := owns_mod hr10 hal (fun _ _ h => h)
            replace HPU := Lib.hid (HPU.out.trans (hp10.trans hal)); replace HA := Lib.hid (HA.out.pure (hp10.trans hal)); replace HB := Lib.hid (HB.out.pure (hp10.trans hal))
            clear hr13_0 hr13_1 hr13_f hr13_l; clear hr16_0 hr16_1 hr16_f hr16_l; clear hr20_0 hr20_1 hr20_f hr20_l; clear hr22_0 hr22_1 hr22_f hr22_l; clear H_hr13 H_hr16 H_hr20 H_hr22; have hr13 := HA.out.r13; have hr16 := HA.out.r16; have hr20 := HB.out.r13; have hr22 := HB.out.r16; have hr13_0 := cell_of_row _ _ 0 _ _ _ hr13; have hr13_1 := cell_of_row _ _ 1 _ _ _ hr13; have hr13_f := (fun j => frozen_of_row _ _ j _ _ hr13); have hr13_l := lt_of_block hr13; simp at hr13_0 hr13_1; have H_hr13 := Lib.hid hr13; clear hr13; have hr16_0 := cell_of_row _ _ 0 _ _ _ hr16; have hr16_1 := cell_of_row _ _ 1 _ _ _ hr16; have hr16_f := (fun j => frozen_of_row _ _ j _ _ hr16); have hr16_l := lt_of_block hr16; simp at hr16_0 hr16_1; have H_hr16 := Lib.hid hr16; clear hr16; have hr20_0 := cell_of_row _ _ 0 _ _ _ hr20; have hr20_1 := cell_of_row _ _ 1 _ _ _ hr20; have hr20_f := (fun j => frozen_of_row _ _ j _ _ hr20); have hr20_l := lt_of_block hr20; simp at hr20_0 hr20_1; have H_hr20 := Lib.hid hr20; clear hr20; have hr22_0 := cell_of_row _ _ 0 _ _ _ hr22; have hr22_1 := cell_of_row _ _ 1 _ _ _ hr22; have hr22_f := (fun j => frozen_of_row _ _ j _ _ hr22); have hr22_l := lt_of_block hr22; simp at hr22_0 hr22_1; have H_hr22 := Lib.hid hr22; clear hr22
            clear hal hp10 hr10
            generalize w10.alloc (.cells #[.slice a10 k3 c10, .int .i64 n1] 34) = W10 at HPU HA HB z23 hrow hr13_0 hr13_1 hr13_f hr13_l H_hr13 hr16_0 hr16_1 hr16_f hr16_l H_hr16 hr20_0 hr20_1 hr20_f hr20_l H_hr20 hr22_0 hr22_1 hr22_f hr22_l H_hr22 ⊢
            generalize w10.heap.size = b23 at z23 ⊢
            have HZ23 := Lib.hid z23
            have HROW := Lib.hid hrow
            clear z23 hrow
            go_upto_region 24 with (go_at_call 23; refine Calls.mono (ref_ThenC HA.out.mv HB.out.mv HA.out.up HB.out.up HA.out.lt (fun y hy => by rw [HA.out.len, HK.out]; exact HB.out.lt y hy) HA.out.n100 HA.out.len HB.out.len HK.out) ?_; rintro e w11 ⟨a11, c11, rfl, hr11, hp11⟩)
            have hal : Pure w11 (w11.alloc (.cells #[.slice a11 n1 c11, .int .i64 k3] 40)) := (Mod.refl _ w11).alloc _
            have z24 := heap_new (w := w11) (o := (.cells #[.slice a11 n1 c11, .int .i64 k3] 40 (0, 0))) rfl
            have z23 := (hp11.trans hal).heap (fun h => h) HZ23.out
            have T5 : TMv b23 w11.heap.size a10 c10 k3 n1 (thenXs xs1 xs3) a11 c11 (w11.alloc (.cells #[.slice a11 n1 c11, .int .i64 k3] 40)) :=
              ⟨z23, z24, owns_mod HROW.out (hp11.trans hal) (fun _ _ h => h), hr11.pure hal, by rw [thenXs_length]; exact HB.out.len, thenXs_rising HA.out.up HB.out.up (fun y hy => by rw [HA.out.len, HK.out]; exact HB.out.lt y hy), thenXs_lt HA.out.up (fun y hy => by rw [HA.out.len, HK.out]; exact HB.out.lt y hy) HA.out.lt, HA.out.n100⟩
            replace HPU := Lib.hid (HPU.out.trans (hp11.trans hal)); replace HA := Lib.hid (HA.out.pure (hp11.trans hal)); replace HB := Lib.hid (HB.out.pure (hp11.trans hal))
            clear hr13_0 hr13_1 hr13_f hr13_l; clear hr16_0 hr16_1 hr16_f hr16_l; clear hr20_0 hr20_1 hr20_f hr20_l; clear hr22_0 hr22_1 hr22_f hr22_l; clear H_hr13 H_hr16 H_hr20 H_hr22; have hr13 := HA.out.r13; have hr16 := HA.out.r16; have hr20 := HB.out.r13; have hr22 := HB.out.r16; have hr13_0 := cell_of_row _ _ 0 _ _ _ hr13; have hr13_1 := cell_of_row _ _ 1 _ _ _ hr13; have hr13_f := (fun j => frozen_of_row _ _ j _ _ hr13); have hr13_l := lt_of_block hr13; simp at hr13_0 hr13_1; have H_hr13 := Lib.hid hr13; clear hr13; have hr16_0 := cell_of_row _ _ 0 _ _ _ hr16; have hr16_1 := cell_of_row _ _ 1 _ _ _ hr16; have hr16_f := (fun j => frozen_of_row _ _ j _ _ hr16); have hr16_l := lt_of_block hr16; simp at hr16_0 hr16_1; have H_hr16 := Lib.hid hr16; clear hr16; have hr20_0 := cell_of_row _ _ 0 _ _ _ hr20; have hr20_1 := cell_of_row _ _ 1 _ _ _ hr20; have hr20_f := (fun j => frozen_of_row _ _ j _ _ hr20); have hr20_l := lt_of_block hr20; simp at hr20_0 hr20_1; have H_hr20 := Lib.hid hr20; clear hr20; have hr22_0 := cell_of_row _ _ 0 _ _ _ hr22; have hr22_1 := cell_of_row _ _ 1 _ _ _ hr22; have hr22_f := (fun j => frozen_of_row _ _ j _ _ hr22); have hr22_l := lt_of_block hr22; simp at hr22_0 hr22_1; have H_hr22 := Lib.hid hr22; clear hr22
            clear hal hp11 hr11 z23 z24
            have HC := Lib.hid T5
            clear T5
            generalize w11.alloc (.cells #[.slice a11 n1 c11, .int .i64 k3] 40) = W11 at HPU HA HB HC hr13_0 hr13_1 hr13_f hr13_l H_hr13 hr16_0 hr16_1 hr16_f hr16_l H_hr16 hr20_0 hr20_1 hr20_f hr20_l H_hr20 hr22_0 hr22_1 hr22_f hr22_l H_hr22 ⊢
            generalize w11.heap.size = b24 at HC ⊢
            have hr23 := HC.out.r13; have hr24 := HC.out.r16
            have hr23_0 := cell_of_row _ _ 0 _ _ _ hr23; have hr23_1 := cell_of_row _ _ 1 _ _ _ hr23; have hr23_f := (fun j => frozen_of_row _ _ j _ _ hr23); have hr23_l := lt_of_block hr23; simp at hr23_0 hr23_1; have H_hr23 := Lib.hid hr23; clear hr23
            have hr24_0 := cell_of_row _ _ 0 _ _ _ hr24; have hr24_1 := cell_of_row _ _ 1 _ _ _ hr24; have hr24_f := (fun j => frozen_of_row _ _ j _ _ hr24); have hr24_l := lt_of_block hr24; simp at hr24_0 hr24_1; have H_hr24 := Lib.hid hr24; clear hr24
            have t1 : Hid True := Lib.hid trivial; have t2 := t1; have t3 := t1
            go_wp2_with (first
              | (go_at_call 24; have := t1.out; clear this t1; refine Calls.mono (moves_trueT HC.out) ?_; rintro e w12 ⟨rfl, hp12⟩; replace HPU := Lib.hid (HPU.out.trans hp12); replace HA := Lib.hid (HA.out.pure hp12); replace HB := Lib.hid (HB.out.pure hp12); replace HC := Lib.hid (HC.out.pure hp12); clear hr13_0 hr13_1 hr13_f hr13_l; clear hr16_0 hr16_1 hr16_f hr16_l; clear hr20_0 hr20_1 hr20_f hr20_l; clear hr22_0 hr22_1 hr22_f hr22_l; clear H_hr13 H_hr16 H_hr20 H_hr22; have hr13 := HA.out.r13; have hr16 := HA.out.r16; have hr20 := HB.out.r13; have hr22 := HB.out.r16; have hr13_0 := cell_of_row _ _ 0 _ _ _ hr13; have hr13_1 := cell_of_row _ _ 1 _ _ _ hr13; have hr13_f := (fun j => frozen_of_row _ _ j _ _ hr13); have hr13_l := lt_of_block hr13; simp at hr13_0 hr13_1; have H_hr13 := Lib.hid hr13; clear hr13; have hr16_0 := cell_of_row _ _ 0 _ _ _ hr16; have hr16_1 := cell_of_row _ _ 1 _ _ _ hr16; have hr16_f := (fun j => frozen_of_row _ _ j _ _ hr16); have hr16_l := lt_of_block hr16; simp at hr16_0 hr16_1; have H_hr16 := Lib.hid hr16; clear hr16; have hr20_0 := cell_of_row _ _ 0 _ _ _ hr20; have hr20_1 := cell_of_row _ _ 1 _ _ _ hr20; have hr20_f := (fun j => frozen_of_row _ _ j _ _ hr20); have hr20_l := lt_of_block hr20; simp at hr20_0 hr20_1; have H_hr20 := Lib.hid hr20; clear hr20; have hr22_0 := cell_of_row _ _ 0 _ _ _ hr22; have hr22_1 := cell_of_row _ _ 1 _ _ _ hr22; have hr22_f := (fun j => frozen_of_row _ _ j _ _ hr22); have hr22_l := lt_of_block hr22; simp at hr22_0 hr22_1; have H_hr22 := Lib.hid hr22; clear hr22; clear hr23_0 hr23_1 hr23_f hr23_l; clear hr24_0 hr24_1 hr24_f hr24_l; clear H_hr23 H_hr24; have hr23 := HC.out.r13; have hr24 := HC.out.r16; have hr23_0 := cell_of_row _ _ 0 _ _ _ hr23; have hr23_1 := cell_of_row _ _ 1 _ _ _ hr23; have hr23_f := (fun j => frozen_of_row _ _ j _ _ hr23); have hr23_l := lt_of_block hr23; simp at hr23_0 hr23_1; have H_hr23 := Lib.hid hr23; clear hr23; have hr24_0 := cell_of_row _ _ 0 _ _ _ hr24; have hr24_1 := cell_of_row _ _ 1 _ _ _ hr24; have hr24_f := (fun j => frozen_of_row _ _ j _ _ hr24); have hr24_l := lt_of_block hr24; simp at hr24_0 hr24_1; have H_hr24 := Lib.hid hr24; clear hr24; clear hp12)
              | (go_at_call 24; have := t2.out; clear this t2; refine Calls.mono (moves_trueT HA.out) ?_; rintro e w12 ⟨rfl, hp12⟩; replace HPU := Lib.hid (HPU.out.trans hp12); replace HA := Lib.hid (HA.out.pure hp12); replace HB := Lib.hid (HB.out.pure hp12); replace HC := Lib.hid (HC.out.pure hp12); clear hr13_0 hr13_1 hr13_f hr13_l; clear hr16_0 hr16_1 hr16_f hr16_l; clear hr20_0 hr20_1 hr20_f hr20_l; clear hr22_0 hr22_1 hr22_f hr22_l; clear H_hr13 H_hr16 H_hr20 H_hr22; have hr13 := HA.out.r13; have hr16 := HA.out.r16; have hr20 := HB.out.r13; have hr22 := HB.out.r16; have hr13_0 := cell_of_row _ _ 0 _ _ _ hr13; have hr13_1 := cell_of_row _ _ 1 _ _ _ hr13; have hr13_f := (fun j => frozen_of_row _ _ j _ _ hr13); have hr13_l := lt_of_block hr13; simp at hr13_0 hr13_1; have H_hr13 := Lib.hid hr13; clear hr13; have hr16_0 := cell_of_row _ _ 0 _ _ _ hr16; have hr16_1 := cell_of_row _ _ 1 _ _ _ hr16; have hr16_f := (fun j => frozen_of_row _ _ j _ _ hr16); have hr16_l := lt_of_block hr16; simp at hr16_0 hr16_1; have H_hr16 := Lib.hid hr16; clear hr16; have hr20_0 := cell_of_row _ _ 0 _ _ _ hr20; have hr20_1 := cell_of_row _ _ 1 _ _ _ hr20; have hr20_f := (fun j => frozen_of_row _ _ j _ _ hr20); have hr20_l := lt_of_block hr20; simp at hr20_0 hr20_1; have H_hr20 := Lib.hid hr20; clear hr20; have hr22_0 := cell_of_row _ _ 0 _ _ _ hr22; have hr22_1 := cell_of_row _ _ 1 _ _ _ hr22; have hr22_f := (fun j => frozen_of_row _ _ j _ _ hr22); have hr22_l := lt_of_block hr22; simp at hr22_0 hr22_1; have H_hr22 := Lib.hid hr22; clear hr22; clear hr23_0 hr23_1 hr23_f hr23_l; clear hr24_0 hr24_1 hr24_f hr24_l; clear H_hr23 H_hr24; have hr23 := HC.out.r13; have hr24 := HC.out.r16; have hr23_0 := cell_of_row _ _ 0 _ _ _ hr23; have hr23_1 := cell_of_row _ _ 1 _ _ _ hr23; have hr23_f := (fun j => frozen_of_row _ _ j _ _ hr23); have hr23_l := lt_of_block hr23; simp at hr23_0 hr23_1; have H_hr23 := Lib.hid hr23; clear hr23; have hr24_0 := cell_of_row _ _ 0 _ _ _ hr24; have hr24_1 := cell_of_row _ _ 1 _ _ _ hr24; have hr24_f := (fun j => frozen_of_row _ _ j _ _ hr24); have hr24_l := lt_of_block hr24; simp at hr24_0 hr24_1; have H_hr24 := Lib.hid hr24; clear hr24; clear hp12)
              | (go_at_call 24; have := t3.out; clear this t3; refine Calls.mono (moves_trueT HB.out) ?_; rintro e w12 ⟨rfl, hp12⟩; replace HPU := Lib.hid (HPU.out.trans hp12); replace HA := Lib.hid (HA.out.pure hp12); replace HB := Lib.hid (HB.out.pure hp12); replace HC := Lib.hid (HC.out.pure hp12); clear hr13_0 hr13_1 hr13_f hr13_l; clear hr16_0 hr16_1 hr16_f hr16_l; clear hr20_0 hr20_1 hr20_f hr20_l; clear hr22_0 hr22_1 hr22_f hr22_l; clear H_hr13 H_hr16 H_hr20 H_hr22; have hr13 := HA.out.r13; have hr16 := HA.out.r16; have hr20 := HB.out.r13; have hr22 := HB.out.r16; have hr13_0 := cell_of_row _ _ 0 _ _ _ hr13; have hr13_1 := cell_of_row _ _ 1 _ _ _ hr13; have hr13_f := (fun j => frozen_of_row _ _ j _ _ hr13); have hr13_l := lt_of_block hr13; simp at hr13_0 hr13_1; have H_hr13 := Lib.hid hr13; clear hr13; have hr16_0 := cell_of_row _ _ 0 _ _ _ hr16; have hr16_1 := cell_of_row _ _ 1 _ _ _ hr16; have hr16_f := (fun j => frozen_of_row _ _ j _ _ hr16); have hr16_l := lt_of_block hr16; simp at hr16_0 hr16_1; have H_hr16 := Lib.hid hr16; clear hr16; have hr20_0 := cell_of_row _ _ 0 _ _ _ hr20; have hr20_1 := cell_of_row _ _ 1 _ _ _ hr20; have hr20_f := (fun j => frozen_of_row _ _ j _ _ hr20); have hr20_l := lt_of_block hr20; simp at hr20_0 hr20_1; have H_hr20 := Lib.hid hr20; clear hr20; have hr22_0 := cell_of_row _ _ 0 _ _ _ hr22; have hr22_1 := cell_of_row _ _ 1 _ _ _ hr22; have hr22_f := (fun j => frozen_of_row _ _ j _ _ hr22); have hr22_l := lt_of_block hr22; simp at hr22_0 hr22_1; have H_hr22 := Lib.hid hr22; clear hr22; clear hr23_0 hr23_1 hr23_f hr23_l; clear hr24_0 hr24_1 hr24_f hr24_l; clear H_hr23 H_hr24; have hr23 := HC.out.r13; have hr24 := HC.out.r16; have hr23_0 := cell_of_row _ _ 0 _ _ _ hr23; have hr23_1 := cell_of_row _ _ 1 _ _ _ hr23; have hr23_f := (fun j => frozen_of_row _ _ j _ _ hr23); have hr23_l := lt_of_block hr23; simp at hr23_0 hr23_1; have H_hr23 := Lib.hid hr23; clear hr23; have hr24_0 := cell_of_row _ _ 0 _ _ _ hr24; have hr24_1 := cell_of_row _ _ 1 _ _ _ hr24; have hr24_f := (fun j => frozen_of_row _ _ j _ _ hr24); have hr24_l := lt_of_block hr24; simp at hr24_0 hr24_1; have H_hr24 := Lib.hid hr24; clear hr24; clear hp12)
              | (go_at_call 15; refine Calls.mono (known_true _) ?_; rintro e w13 ⟨rfl, hp13⟩; replace HPU := Lib.hid (HPU.out.trans hp13)))
            go_ret
            exact ⟨rfl, HPU.out⟩
          · have hk4 : ¬ ((n3 : Int) = (k1 : Int)) := by omega
            have hn3 := HB.out.n100
            go_upto_region 23 with (go_at_call 22; refine Calls.mono (Then_arg _ _ k1 _ _ n3 (by omega)) ?_; rintro e w10 ⟨rfl, hp10⟩)
            have hal : Pure w10 (w10.alloc (.cells #[.slice none 0 0, .int .i64 0] 34)) := (Mod.refl _ w10).alloc _
            have z23 := heap_new (w := w10) (o := (.cells #[.slice none 0 0, .int .i64 0] 34 (0, 0))) rfl
            replace HPU := Lib.hid (HPU.out.trans (hp10.trans hal)); replace HA := Lib.hid (HA.out.pure (hp10.trans hal)); replace HB := Lib.hid (HB.out.pure (hp10.trans hal))
            clear hr13_0 hr13_1 hr13_f hr13_l; clear hr16_0 hr16_1 hr16_f hr16_l; clear hr20_0 hr20_1 hr20_f hr20_l; clear hr22_0 hr22_1 hr22_f hr22_l; clear H_hr13 H_hr16 H_hr20 H_hr22; have hr13 := HA.out.r13; have hr16 := HA.out.r16; have hr20 := HB.out.r13; have hr22 := HB.out.r16; have hr13_0 := cell_of_row _ _ 0 _ _ _ hr13; have hr13_1 := cell_of_row _ _ 1 _ _ _ hr13; have hr13_f := (fun j => frozen_of_row _ _ j _ _ hr13); have hr13_l := lt_of_block hr13; simp at hr13_0 hr13_1; have H_hr13 := Lib.hid hr13; clear hr13; have hr16_0 := cell_of_row _ _ 0 _ _ _ hr16; have hr16_1 := cell_of_row _ _ 1 _ _ _ hr16; have hr16_f := (fun j => frozen_of_row _ _ j _ _ hr16); have hr16_l := lt_of_block hr16; simp at hr16_0 hr16_1; have H_hr16 := Lib.hid hr16; clear hr16; have hr20_0 := cell_of_row _ _ 0 _ _ _ hr20; have hr20_1 := cell_of_row _ _ 1 _ _ _ hr20; have hr20_f := (fun j => frozen_of_row _ _ j _ _ hr20); have hr20_l := lt_of_block hr20; simp at hr20_0 hr20_1; have H_hr20 := Lib.hid hr20; clear hr20; have hr22_0 := cell_of_row _ _ 0 _ _ _ hr22; have hr22_1 := cell_of_row _ _ 1 _ _ _ hr22; have hr22_f := (fun j => frozen_of_row _ _ j _ _ hr22); have hr22_l := lt_of_block hr22; simp at hr22_0 hr22_1; have H_hr22 := Lib.hid hr22; clear hr22
            clear hal hp10 
            generalize w10.alloc (.cells #[.slice none 0 0, .int .i64 0] 34) = W10 at HPU HA HB z23  hr13_0 hr13_1 hr13_f hr13_l H_hr13 hr16_0 hr16_1 hr16_f hr16_l H_hr16 hr20_0 hr20_1 hr20_f hr20_l H_hr20 hr22_0 hr22_1 hr22_f hr22_l H_hr22 ⊢
            generalize w10.heap.size = b23 at z23 ⊢
            have HZ23 := Lib.hid z23
            
            clear z23 
            go_upto_region 24 with (go_at_call 23; refine Calls.mono (ref_Then_arg _ _ _ _ n1 n3 _ _ (by omega)) ?_; rintro e w11 ⟨rfl, hp11⟩)
            have hal : Pure w11 (w11.alloc (.cells #[.slice none 0 0, .int .i64 0] 40)) := (Mod.refl _ w11).alloc _
            have z24 := heap_new (w := w11) (o := (.cells #[.slice none 0 0, .int .i64 0] 40 (0, 0))) rfl
            have z23 := (hp11.trans hal).heap (fun h => h) HZ23.out
            have T5 : TMv b23 w11.heap.size none 0 0 0 [] none 0 (w11.alloc (.cells #[.slice none 0 0, .int .i64 0] 40)) :=
              ⟨z23, z24, nil_rowU _, World.ownsRow_nil _ _ _ _, rfl, ⟨by decide, by decide, by decide⟩, by simp, by omega⟩
            replace HPU := Lib.hid (HPU.out.trans (hp11.trans hal)); replace HA := Lib.hid (HA.out.pure (hp11.trans hal)); replace HB := Lib.hid (HB.out.pure (hp11.trans hal))
            clear hr13_0 hr13_1 hr13_f hr13_l; clear hr16_0 hr16_1 hr16_f hr16_l; clear hr20_0 hr20_1 hr20_f hr20_l; clear hr22_0 hr22_1 hr22_f hr22_l; clear H_hr13 H_hr16 H_hr20 H_hr22; have hr13 := HA.out.r13; have hr16 := HA.out.r16; have hr20 := HB.out.r13; have hr22 := HB.out.r16; have hr13_0 := cell_of_row _ _ 0 _ _ _ hr13; have hr13_1 := cell_of_row _ _ 1 _ _ _ hr13; have hr13_f := (fun j => frozen_of_row _ _ j _ _ hr13); have hr13_l := lt_of_block hr13; simp at hr13_0 hr13_1; have H_hr13 := Lib.hid hr13; clear hr13; have hr16_0 := cell_of_row _ _ 0 _ _ _ hr16; have hr16_1 := cell_of_row _ _ 1 _ _ _ hr16; have hr16_f := (fun j => frozen_of_row _ _ j _ _ hr16); have hr16_l := lt_of_block hr16; simp at hr16_0 hr16_1; have H_hr16 := Lib.hid hr16; clear hr16; have hr20_0 := cell_of_row _ _ 0 _ _ _ hr20; have hr20_1 := cell_of_row _ _ 1 _ _ _ hr20; have hr20_f := (fun j => frozen_of_row _ _ j _ _ hr20); have hr20_l := lt_of_block hr20; simp at hr20_0 hr20_1; have H_hr20 := Lib.hid hr20; clear hr20; have hr22_0 := cell_of_row _ _ 0 _ _ _ hr22; have hr22_1 := cell_of_row _ _ 1 _ _ _ hr22; have hr22_f := (fun j => frozen_of_row _ _ j _ _ hr22); have hr22_l := lt_of_block hr22; simp at hr22_0 hr22_1; have H_hr22 := Lib.hid hr22; clear hr22
            clear hal hp11  z23 z24
            have HC := Lib.hid T5
            clear T5
            generalize w11.alloc (.cells #[.slice none 0 0, .int .i64 0] 40) = W11 at HPU HA HB HC hr13_0 hr13_1 hr13_f hr13_l H_hr13 hr16_0 hr16_1 hr16_f hr16_l H_hr16 hr20_0 hr20_1 hr20_f hr20_l H_hr20 hr22_0 hr22_1 hr22_f hr22_l H_hr22 ⊢
            generalize w11.heap.size = b24 at HC ⊢
            have hr23 := HC.out.r13; have hr24 := HC.out.r16
            have hr23_0 := cell_of_row _ _ 0 _ _ _ hr23; have hr23_1 := cell_of_row _ _ 1 _ _ _ hr23; have hr23_f := (fun j => frozen_of_row _ _ j _ _ hr23); have hr23_l := lt_of_block hr23; simp at hr23_0 hr23_1; have H_hr23 := Lib.hid hr23; clear hr23
            have hr24_0 := cell_of_row _ _ 0 _ _ _ hr24; have hr24_1 := cell_of_row _ _ 1 _ _ _ hr24; have hr24_f := (fun j => frozen_of_row _ _ j _ _ hr24); have hr24_l := lt_of_block hr24; simp at hr24_0 hr24_1; have H_hr24 := Lib.hid hr24; clear hr24
            have t1 : Hid True := Lib.hid trivial; have t2 := t1; have t3 := t1
            go_wp2_with (first
              | (go_at_call 24; have := t1.out; clear this t1; refine Calls.mono (moves_trueT HC.out) ?_; rintro e w12 ⟨rfl, hp12⟩; replace HPU := Lib.hid (HPU.out.trans hp12); replace HA := Lib.hid (HA.out.pure hp12); replace HB := Lib.hid (HB.out.pure hp12); replace HC := Lib.hid (HC.out.pure hp12); clear hr13_0 hr13_1 hr13_f hr13_l; clear hr16_0 hr16_1 hr16_f hr16_l; clear hr20_0 hr20_1 hr20_f hr20_l; clear hr22_0 hr22_1 hr22_f hr22_l; clear H_hr13 H_hr16 H_hr20 H_hr22; have hr13 := HA.out.r13; have hr16 := HA.out.r16; have hr20 := HB.out.r13; have hr22 := HB.out.r16; have hr13_0 := cell_of_row _ _ 0 _ _ _ hr13; have hr13_1 := cell_of_row _ _ 1 _ _ _ hr13; have hr13_f := (fun j => frozen_of_row _ _ j _ _ hr13); have hr13_l := lt_of_block hr13; simp at hr13_0 hr13_1; have H_hr13 := Lib.hid hr13; clear hr13; have hr16_0 := cell_of_row _ _ 0 _ _ _ hr16; have hr16_1 := cell_of_row _ _ 1 _ _ _ hr16; have hr16_f := (fun j => frozen_of_row _ _ j _ _ hr16); have hr16_l := lt_of_block hr16; simp at hr16_0 hr16_1; have H_hr16 := Lib.hid hr16; clear hr16; have hr20_0 := cell_of_row _ _ 0 _ _ _ hr20; have hr20_1 := cell_of_row _ _ 1 _ _ _ hr20; have hr20_f := (fun j => frozen_of_row _ _ j _ _ hr20); have hr20_l := lt_of_block hr20; simp at hr20_0 hr20_1; have H_hr20 := Lib.hid hr20; clear hr20; have hr22_0 := cell_of_row _ _ 0 _ _ _ hr22; have hr22_1 := cell_of_row _ _ 1 _ _ _ hr22; have hr22_f := (fun j => frozen_of_row _ _ j _ _ hr22); have hr22_l := lt_of_block hr22; simp at hr22_0 hr22_1; have H_hr22 := Lib.hid hr22; clear hr22; clear hr23_0 hr23_1 hr23_f hr23_l; clear hr24_0 hr24_1 hr24_f hr24_l; clear H_hr23 H_hr24; have hr23 := HC.out.r13; have hr24 := HC.out.r16; have hr23_0 := cell_of_row _ _ 0 _ _ _ hr23; have hr23_1 := cell_of_row _ _ 1 _ _ _ hr23; have hr23_f := (fun j => frozen_of_row _ _ j _ _ hr23); have hr23_l := lt_of_block hr23; simp at hr23_0 hr23_1; have H_hr23 := Lib.hid hr23; clear hr23; have hr24_0 := cell_of_row _ _ 0 _ _ _ hr24; have hr24_1 := cell_of_row _ _ 1 _ _ _ hr24; have hr24_f := (fun j => frozen_of_row _ _ j _ _ hr24); have hr24_l := lt_of_block hr24; simp at hr24_0 hr24_1; have H_hr24 := Lib.hid hr24; clear hr24; clear hp12)
              | (go_at_call 24; have := t2.out; clear this t2; refine Calls.mono (moves_trueT HA.out) ?_; rintro e w12 ⟨rfl, hp12⟩; replace HPU := Lib.hid (HPU.out.trans hp12); replace HA := Lib.hid (HA.out.pure hp12); replace HB := Lib.hid (HB.out.pure hp12); replace HC := Lib.hid (HC.out.pure hp12); clear hr13_0 hr13_1 hr13_f hr13_l; clear hr16_0 hr16_1 hr16_f hr16_l; clear hr20_0 hr20_1 hr20_f hr20_l; clear hr22_0 hr22_1 hr22_f hr22_l; clear H_hr13 H_hr16 H_hr20 H_hr22; have hr13 := HA.out.r13; have hr16 := HA.out.r16; have hr20 := HB.out.r13; have hr22 := HB.out.r16; have hr13_0 := cell_of_row _ _ 0 _ _ _ hr13; have hr13_1 := cell_of_row _ _ 1 _ _ _ hr13; have hr13_f := (fun j => frozen_of_row _ _ j _ _ hr13); have hr13_l := lt_of_block hr13; simp at hr13_0 hr13_1; have H_hr13 := Lib.hid hr13; clear hr13; have hr16_0 := cell_of_row _ _ 0 _ _ _ hr16; have hr16_1 := cell_of_row _ _ 1 _ _ _ hr16; have hr16_f := (fun j => frozen_of_row _ _ j _ _ hr16); have hr16_l := lt_of_block hr16; simp at hr16_0 hr16_1; have H_hr16 := Lib.hid hr16; clear hr16; have hr20_0 := cell_of_row _ _ 0 _ _ _ hr20; have hr20_1 := cell_of_row _ _ 1 _ _ _ hr20; have hr20_f := (fun j => frozen_of_row _ _ j _ _ hr20); have hr20_l := lt_of_block hr20; simp at hr20_0 hr20_1; have H_hr20 := Lib.hid hr20; clear hr20; have hr22_0 := cell_of_row _ _ 0 _ _ _ hr22; have hr22_1 := cell_of_row _ _ 1 _ _ _ hr22; have hr22_f := (fun j => frozen_of_row _ _ j _ _ hr22); have hr22_l := lt_of_block hr22; simp at hr22_0 hr22_1; have H_hr22 := Lib.hid hr22; clear hr22; clear hr23_0 hr23_1 hr23_f hr23_l; clear hr24_0 hr24_1 hr24_f hr24_l; clear H_hr23 H_hr24; have hr23 := HC.out.r13; have hr24 := HC.out.r16; have hr23_0 := cell_of_row _ _ 0 _ _ _ hr23; have hr23_1 := cell_of_row _ _ 1 _ _ _ hr23; have hr23_f := (fun j => frozen_of_row _ _ j _ _ hr23); have hr23_l := lt_of_block hr23; simp at hr23_0 hr23_1; have H_hr23 := Lib.hid hr23; clear hr23; have hr24_0 := cell_of_row _ _ 0 _ _ _ hr24; have hr24_1 := cell_of_row _ _ 1 _ _ _ hr24; have hr24_f := (fun j => frozen_of_row _ _ j _ _ hr24); have hr24_l := lt_of_block hr24; simp at hr24_0 hr24_1; have H_hr24 := Lib.hid hr24; clear hr24; clear hp12)
              | (go_at_call 24; have := t3.out; clear this t3; refine Calls.mono (moves_trueT HB.out) ?_; rintro e w12 ⟨rfl, hp12⟩; replace HPU := Lib.hid (HPU.out.trans hp12); replace HA := Lib.hid (HA.out.pure hp12); replace HB := Lib.hid (HB.out.pure hp12); replace HC := Lib.hid (HC.out.pure hp12); clear hr13_0 hr13_1 hr13_f hr13_l; clear hr16_0 hr16_1 hr16_f hr16_l; clear hr20_0 hr20_1 hr20_f hr20_l; clear hr22_0 hr22_1 hr22_f hr22_l; clear H_hr13 H_hr16 H_hr20 H_hr22; have hr13 := HA.out.r13; have hr16 := HA.out.r16; have hr20 := HB.out.r13; have hr22 := HB.out.r16; have hr13_0 := cell_of_row _ _ 0 _ _ _ hr13; have hr13_1 := cell_of_row _ _ 1 _ _ _ hr13; have hr13_f := (fun j => frozen_of_row _ _ j _ _ hr13); have hr13_l := lt_of_block hr13; simp at hr13_0 hr13_1; have H_hr13 := Lib.hid hr13; clear hr13; have hr16_0 := cell_of_row _ _ 0 _ _ _ hr16; have hr16_1 := cell_of_row _ _ 1 _ _ _ hr16; have hr16_f := (fun j => frozen_of_row _ _ j _ _ hr16); have hr16_l := lt_of_block hr16; simp at hr16_0 hr16_1; have H_hr16 := Lib.hid hr16; clear hr16; have hr20_0 := cell_of_row _ _ 0 _ _ _ hr20; have hr20_1 := cell_of_row _ _ 1 _ _ _ hr20; have hr20_f := (fun j => frozen_of_row _ _ j _ _ hr20); have hr20_l := lt_of_block hr20; simp at hr20_0 hr20_1; have H_hr20 := Lib.hid hr20; clear hr20; have hr22_0 := cell_of_row _ _ 0 _ _ _ hr22; have hr22_1 := cell_of_row _ _ 1 _ _ _ hr22; have hr22_f := (fun j => frozen_of_row _ _ j _ _ hr22); have hr22_l := lt_of_block hr22; simp at hr22_0 hr22_1; have H_hr22 := Lib.hid hr22; clear hr22; clear hr23_0 hr23_1 hr23_f hr23_l; clear hr24_0 hr24_1 hr24_f hr24_l; clear H_hr23 H_hr24; have hr23 := HC.out.r13; have hr24 := HC.out.r16; have hr23_0 := cell_of_row _ _ 0 _ _ _ hr23; have hr23_1 := cell_of_row _ _ 1 _ _ _ hr23; have hr23_f := (fun j => frozen_of_row _ _ j _ _ hr23); have hr23_l := lt_of_block hr23; simp at hr23_0 hr23_1; have H_hr23 := Lib.hid hr23; clear hr23; have hr24_0 := cell_of_row _ _ 0 _ _ _ hr24; have hr24_1 := cell_of_row _ _ 1 _ _ _ hr24; have hr24_f := (fun j => frozen_of_row _ _ j _ _ hr24); have hr24_l := lt_of_block hr24; simp at hr24_0 hr24_1; have H_hr24 := Lib.hid hr24; clear hr24; clear hp12)
              | (go_at_call 15; refine Calls.mono (known_true _) ?_; rintro e w13 ⟨rfl, hp13⟩; replace HPU := Lib.hid (HPU.out.trans hp13)))
            go_ret
            exact ⟨rfl, HPU.out⟩
end Go.Proofs.Ytbjiebhbmpafpaa
