/- law11.CompactHolds answers true. Condition: the slot numbers are read. -/
import Derived.Test.YtbjiebhbmpafpaaHolds
namespace Go.Proofs.Ytbjiebhbmpafpaa
open Go.RowKit Go.Shelf
set_option maxRecDepth 100000
attribute [local go_sem] Oper.semAt_some

set_option maxHeartbeats 2000000 in
theorem CompactHolds_true {w : World} (n : Int) (a : Option Addr) (c : Nat) (gs : List Nat) (hg : ReadAt w (.slice a gs.length c) 1 (u32s gs)) (hgu : ∀ s ∈ gs, s ≤ 4294967295) (hgl : gs.length ≤ 9223372036854775807) :
    Calls Try.prog 5 #[.int .i64 n, .slice a gs.length c] w fun e w' => e = .returned (.bool true) ∧ Pure w w' := by
  by_cases hm : (decide (n < 0) || decide (100 < n) || decide (100 < (gs.length : Int))) = true
  · have HM := Lib.hid hm
    clear hm hg hgu
    go_enter Try.func5, Try.ntmps5
    go_wp2_with (first
      | (go_at_call 16; refine Calls.mono (many_any n a _ c _ hgl true HM.out) ?_; rintro e w1 ⟨rfl, rfl⟩)
      | (go_at_call 15; refine Calls.mono (known_true _) ?_; rintro e w1 ⟨rfl, hp⟩; have z4 := hp.heap (fun h => h) (heap_new (w := w) (o := .cells #[.bool false] 4 (0, 0)) rfl); have z4_0 := cell_of_row _ _ 0 _ _ _ z4; have z4_f := (fun j => frozen_of_row _ _ j _ _ z4); have z4_l := lt_of_block z4; simp at z4_0; have H_z4 := Lib.hid z4; clear z4))
    refine bodyPost_ret (v := .bool true) (by simp [results, Try.results5, go_sem, z4_0, z4_f]) rfl ⟨rfl, ?_⟩
    exact (((Mod.refl _ w).alloc _).trans hp).then (Mod.set1 _ _ _) (fun i hi h => by omega)
  · have hm2 : (decide (n < 0) || decide (100 < n) || decide (100 < (gs.length : Int))) = false := by simpa using hm
    have h0 : 0 ≤ n ∧ n ≤ 100 ∧ gs.length ≤ 100 := by simp at hm; omega
    obtain ⟨k, rfl⟩ := Int.eq_ofNat_of_zero_le h0.1
    have HM := Lib.hid hm2
    have hk : k ≤ 100 := by omega
    have hg2 : gs.length ≤ 100 := h0.2.2
    have HG := Lib.hid hg
    have HGU := Lib.hid hgu
    clear hm hm2 hg hgu h0
    (refine (callsIn_wide (n := 0)).1 (callsIn_of_wp_marks Try.func5 rfl trivial (wpIn_wide.2 ?_) rfl); simp only [Try.ntmps5, List.size_toArray, List.length_cons, List.length_nil, Nat.reduceAdd, Nat.reduceSub, Array.replicate_succ, Array.replicate_zero, List.push_toArray, List.append_toArray, List.nil_append, List.cons_append])
    go_upto_region 4 with (first
      | (go_at_call 16; refine Calls.mono (many_any _ a _ c _ hgl false HM.out) ?_; rintro e w1 ⟨rfl, rfl⟩)
      | (go_at_call 17; refine Calls.mono (made_any k hk a c gs (HG.out.frame (S := fun _ => False) (by (repeat' (first | (with_reducible exact Mod.refl _ _) | (with_reducible refine Mod.alloc ?_ _) | (with_reducible refine Mod.drew ?_) | (with_reducible refine Mod.drewN ?_ _) | (with_reducible refine Mod.setCell ?_ ?_ _) | (refine Mod.then ?_ (by with_reducible assumption) ?_))) <;> (all_goals (intros; first | (exfalso; assumption) | omega | (simp at *; done) | (simp at *; omega)))) (fun _ _ h => h)) hg2 HGU.out) ?_; rintro e w1 ⟨p, D, aL, cL, aG, cG, Q, rfl, hl, hD, hQ, hR, hA, hp⟩))
    have hal : Pure w1 (w1.alloc (.cells #[.slice aL Q.length cL, .slice aG Q.length cG] 30)) := (Mod.refl _ w1).alloc _
    have hLn : (slotsR (madeR k gs)).length = k := by rw [slotsR_length, madeR_length]
    generalize slotsR (madeR k gs) = L at hl hLn
    have hr4 := hal.heap (fun h => h) (hp.heap (fun h => h) (heap_new (w := w) (o := .cells #[.bool false] 4 (0, 0)) rfl))
    have hpw : Pure w (w1.alloc (.cells #[.slice aL Q.length cL, .slice aG Q.length cG] 30)) := (((Mod.refl _ w).alloc _).trans hp).trans hal
    have hl1 := hl.pure hal
    clear hD hQ hR hA hp hl hal
    generalize w1.alloc (.cells #[.slice aL Q.length cL, .slice aG Q.length cG] 30) = W at hr4 hpw hl1 ⊢
    generalize w1.heap.size = b6
    obtain ⟨j, hj⟩ : ∃ j, (live L).length = j := ⟨_, rfl⟩
    have hjk : j ≤ k := by have := live_length L; omega
    have HJ := Lib.hid hj; have HLN := Lib.hid hLn; have HPW := Lib.hid hpw; have HL1 := Lib.hid hl1; have HR4 := Lib.hid hr4
    clear hj hLn hpw hl1 hr4
    go_upto_region 7 with (go_at_call 18; refine Calls.mono (compactR HL1.out k j HLN.out HJ.out) ?_; rintro e w2 ⟨q, a2, c2, D2, rfl, hl2, hr2, hp2⟩)
    have hal : Pure w2 ((w2.alloc (.cells #[logPtr q] 26)).alloc (.cells #[.slice a2 j c2, .int .i64 k] 34)) := ((Mod.refl _ w2).alloc _).alloc _
    have z8 := heap_keep (o := .cells #[.slice a2 j c2, .int .i64 k] 34 (0, 0)) (heap_new (w := w2) (o := .cells #[logPtr q] 26 (0, 0)) rfl)
    have z9 := heap_new (w := w2.alloc (.cells #[logPtr q] 26)) (o := .cells #[.slice a2 j c2, .int .i64 k] 34 (0, 0)) (n := w2.heap.size + 1) (by simp)
    have hl2' := hl2.pure hal; have hr2' := owns_mod hr2 hal (fun _ _ h => h)
    replace HPW := Lib.hid ((HPW.out.trans hp2).trans hal); replace HL1 := Lib.hid (HL1.out.pure (hp2.trans hal)); replace HR4 := Lib.hid ((hp2.trans hal).heap (fun h => h) HR4.out)
    clear hl2 hr2 hp2 hal
    generalize (w2.alloc (.cells #[logPtr q] 26)).alloc (.cells #[.slice a2 j c2, .int .i64 k] 34) = W2 at *
    generalize w2.heap.size + 1 = b9 at *
    generalize w2.heap.size = b8 at *
    have HL2 := Lib.hid hl2'; have HR2 := Lib.hid hr2'; have HZ9 := Lib.hid z9
    clear hl2' hr2' z9
    have hpk : (packed L).length = j := by rw [packed_live_length, HJ.out]
    have hpl : (live (packed L)).length = j := by rw [live_packed]; simp [HJ.out]
    have HPK := Lib.hid hpk; have HPL := Lib.hid hpl
    clear hpk hpl
    have z8_0 := cell_of_row _ _ 0 _ _ _ z8; have z8_f := (fun j => frozen_of_row _ _ j _ _ z8); have z8_l := lt_of_block z8; simp at z8_0; have H_z8 := Lib.hid z8; clear z8
    go_upto_region 10 with (go_at_call 18; refine Calls.mono (compactR HL2.out j j HPK.out HPL.out) ?_; rintro e w3 ⟨y, a3, c3, D3, rfl, hl3, hr3, hp3⟩)
    have hal : Pure w3 ((w3.alloc (.cells #[logPtr y] 26)).alloc (.cells #[.slice a3 j c3, .int .i64 j] 34)) := ((Mod.refl _ w3).alloc _).alloc _
    have z11 := heap_keep (o := .cells #[.slice a3 j c3, .int .i64 j] 34 (0, 0)) (heap_new (w := w3) (o := .cells #[logPtr y] 26 (0, 0)) rfl)
    have z12 := heap_new (w := w3.alloc (.cells #[logPtr y] 26)) (o := .cells #[.slice a3 j c3, .int .i64 j] 34 (0, 0)) (n := w3.heap.size + 1) (by simp)
    rw [packed_packed] at hl3
    rw [olds_packed, HJ.out] at hr3
    have hpq := hp3.trans hal
    have z13 := fun (W : World) (hq : Pure ((w3.alloc (.cells #[logPtr y] 26)).alloc (.cells #[.slice a3 j c3, .int .i64 j] 34)) W) (b13 : Nat) (h13 : W.heap[b13]? = some (.cells #[.int .u32 ((0 : Nat) : Int)] 43 (0, 0))) (hb : ((w3.alloc (.cells #[logPtr y] 26)).alloc (.cells #[.slice a3 j c3, .int .i64 j] 34)).heap.size ≤ b13) =>
      (⟨(HPW.out.trans hpq).trans hq, (hpq.trans hq).heap (fun h => h) HR4.out, HL1.out.pure (hpq.trans hq), HL2.out.pure (hpq.trans hq), hl3.pure (hal.trans hq), (hpq.trans hq).heap (fun h => h) H_z8.out, (hpq.trans hq).heap (fun h => h) HZ9.out, hq.heap (fun h => h) z11, hq.heap (fun h => h) z12,
        owns_mod HR2.out (hpq.trans hq) (fun _ _ h => h), owns_mod hr3 (hal.trans hq) (fun _ _ h => h), h13, fun g hg => by have := owns_lt HR2.out hg; have := hpq.size; omega, fun g hg => by have := owns_lt hr3 hg; have := hal.size; omega, by have := HPW.out.size; have := hpq.size; omega⟩ : HInv w p q y D D2 D3 L b8 b9 w3.heap.size (w3.heap.size + 1) b13 a2 a3 c2 c3 j k 0 W)
    have HM8 := Lib.hid (HL2.out.pure hpq)
    have HM3 := Lib.hid (hl3.pure hal)
    have HM1 := Lib.hid (HL1.out.pure hpq)
    have x8 := hpq.heap (fun h => h) H_z8.out
    clear hal hl3 hr3 hp3 z12
    clear z8_0 z8_f z8_l
    clear H_z8
    generalize (w3.alloc (.cells #[logPtr y] 26)).alloc (.cells #[.slice a3 j c3, .int .i64 j] 34) = W3 at *
    generalize w3.heap.size + 1 = b12 at *
    generalize w3.heap.size = b11 at *
    have HZ13 := Lib.hid z13
    clear z13 hpq HPW HL1 HL2 HR2 HR4 HZ9
    have x8_0 := cell_of_row _ _ 0 _ _ _ x8; have x8_f := (fun j => frozen_of_row _ _ j _ _ x8); have x8_l := lt_of_block x8; simp at x8_0; have H_x8 := Lib.hid x8; clear x8
    have z11_0 := cell_of_row _ _ 0 _ _ _ z11; have z11_f := (fun j => frozen_of_row _ _ j _ _ z11); have z11_l := lt_of_block z11; simp at z11_0; have H_z11 := Lib.hid z11; clear z11
    have hlo : liveOf L = j := by rw [liveOf_live, HJ.out]
    have hlo2 : liveOf (packed L) = j := by rw [liveOf_packed, HJ.out]
    have HLO := Lib.hid hlo; have HLO2 := Lib.hid hlo2
    clear hlo hlo2
    go_quiet ((first
      | (go_at_call 25; with_reducible exact Calls.quiet_of_same (lenE (LogAt.pure HM8.out (by (repeat' (first | (with_reducible exact Mod.refl _ _) | (with_reducible refine Mod.alloc ?_ _) | (with_reducible refine Mod.drew ?_) | (with_reducible refine Mod.drewN ?_ _) | (with_reducible refine Mod.setCell ?_ ?_ _) | (refine Mod.then ?_ (by with_reducible assumption) ?_))))) j HPK.out))
      | (go_at_call 25; with_reducible exact Calls.quiet_of_same (lenE (LogAt.pure HM3.out (by (repeat' (first | (with_reducible exact Mod.refl _ _) | (with_reducible refine Mod.alloc ?_ _) | (with_reducible refine Mod.drew ?_) | (with_reducible refine Mod.drewN ?_ _) | (with_reducible refine Mod.setCell ?_ ?_ _) | (refine Mod.then ?_ (by with_reducible assumption) ?_))))) j HPK.out))
      | (go_at_call 26; with_reducible exact Calls.quiet_of_same (liveE (LogAt.pure HM1.out (by (repeat' (first | (with_reducible exact Mod.refl _ _) | (with_reducible refine Mod.alloc ?_ _) | (with_reducible refine Mod.drew ?_) | (with_reducible refine Mod.drewN ?_ _) | (with_reducible refine Mod.setCell ?_ ?_ _) | (refine Mod.then ?_ (by with_reducible assumption) ?_))))) j HLO.out))
      | (go_at_call 26; with_reducible exact Calls.quiet_of_same (liveE (LogAt.pure HM8.out (by (repeat' (first | (with_reducible exact Mod.refl _ _) | (with_reducible refine Mod.alloc ?_ _) | (with_reducible refine Mod.drew ?_) | (with_reducible refine Mod.drewN ?_ _) | (with_reducible refine Mod.setCell ?_ ?_ _) | (refine Mod.then ?_ (by with_reducible assumption) ?_))))) j HLO2.out))
      | (go_at_call 13; with_reducible exact Calls.quiet_of_same (dueE _ j (by omega)))))
    have hq4 : Pure W3 (W3.drewN nq) := (Mod.refl _ W3).drewN nq
    have HQ4 := Lib.hid hq4
    clear x8_0 x8_f z11_0 z11_f hq4
    generalize W3.drewN nq = W4 at HQ4 ⊢
    go_upto_region 13 with fail
    have hI := HZ13.out (W4.alloc (.cells #[.int .u32 0] 43)) (HQ4.out.alloc _) W4.heap.size (heap_new rfl) HQ4.out.size
    clear HZ13 HM8 HM3 HM1 HQ4 H_x8 H_z11
    generalize W4.alloc (.cells #[.int .u32 0] 43) = W5 at hI ⊢
    generalize W4.heap.size = b13 at hI ⊢
    obtain ⟨sv, M, hML, hrow⟩ := hI.lp
    subst hML
    have HI := Lib.hid hI; have HRW := Lib.hid hrow
    clear hI hrow
    go_wp2_with (go_at_call 27; refine Calls.mono (All_any HRW.out) ?_; rintro e w6 ⟨B, aI, cI, rfl, hit, hp6, hB, hfr⟩)
    have HIT := Lib.hid hit
    have hItlt : ∀ i, iterBlocks B (.slice aI M.length cI) M i → i < w6.heap.size := by
      rintro i (rfl | h | ⟨e, v, hm, h⟩)
      · exact lt_of_block hit.box
      · exact owns_lt hit.row h
      · exact owns_lt (hit.vals e v hm) h
    have hb13 : b13 < W5.heap.size := lt_of_block HI.out.r13
    have hIq : ¬ iterBlocks B (.slice aI M.length cI) M b13 := by
      rintro (h | h | ⟨e, v, hm, h⟩)
      · omega
      · have := hfr _ h; omega
      · obtain ⟨cc, e2⟩ := owns_type (hit.vals e v hm) h
        rw [(HI.out.pure hp6).r13] at e2; cases e2
    have hI0 := HI.out.pure hp6
    have hlw : w.heap.size ≤ w6.heap.size := hI0.pu.size
    have hlw1 : w.heap.size < w6.heap.size := lt_of_block hI0.r4
    have hb13' : b13 < w6.heap.size := by have := hp6.size; omega
    have HJ' := HJ; have HIQ := Lib.hid hIq
    clear hit hp6 hB hfr hIq HI HRW hb13
    generalize hItd : iterBlocks B (.slice aI M.length cI) M = It at *
    refine wpIn_wide.1 (wp_range2 (gf := 70) (lb := #[.pointer (some ⟨B, 0, none⟩)]) rfl (enters_of Try.func70 (by kernel_rfl) rfl) (It := It) (hItd ▸ All_iter HIT.out w6.heap.size (Nat.le_refl _)) hItlt (fun _ => rfl)
      (fun pre W => HInv w p q y D D2 D3 (M.map Prod.fst) b8 b9 b11 b12 b13 a2 a3 c2 c3 j k pre.length W ∧ w6.heap.size ≤ W.heap.size) (fun _ _ _ => False) ?hI ?hIx ⟨hI0, Nat.le_refl _⟩ ?round ?done ?stop)
    case hI => exact fun pre A B ⟨h, hz⟩ hq => ⟨h.quiet hlw hq, Nat.le_trans hz (Mod.size hq)⟩
    case hIx => exact fun _ _ _ _ h _ => h
    case stop => exact fun _ _ _ _ _ h _ => h.elim
    case round =>
      rintro l pre ⟨i, x, v⟩ W K ⟨hI, hWs⟩ hG hK
      obtain ⟨va, vc, hv, _⟩ := owns_form hG.2.1
      dsimp only at hv
      subst hv
      dsimp only [encG]
      have HCI := Lib.hid hI; have HG := Lib.hid hG; have HK := Lib.hid hK
      clear hI hG hK hI0 HIT hItlt
      gi_wp2
      have hP : Pure W (W.alloc (.cells #[.string x.key, .slice va (bytesOf x.val).length vc, .int .u64 x.dl, .int .u64 x.birth] 48)) := (Mod.refl _ W).alloc _
      have z16 := heap_new (w := W) (o := .cells #[.string x.key, .slice va (bytesOf x.val).length vc, .int .u64 x.dl, .int .u64 x.birth] 48 (0, 0)) rfl
      refine HK.out _ _ hP (fun l' W2 hl hr hq => ?_)
      replace HCI := Lib.hid ((HCI.out.pure hP).quiet hlw hq)
      have hv2 := Lib.hid (BytesAt.read (hq.owns (owns_mod HG.out.2.1 hP (fun _ _ h => h))) (bytesOf_one _))
      have z16' := hq.cells z16
      have hsz2 : w6.heap.size ≤ W2.heap.size := by have := Mod.size hq; have := hP.size; omega
      obtain ⟨⟨post, hpost⟩, _, _⟩ := HG.out
      obtain ⟨g1, g2, g3⟩ := live_at hpost
      dsimp only [keyG] at g1 g2
      rw [List.length_map] at g1 g2 g3
      rw [HJ'.out] at g3
      clear HG HK hP hq z16 hpost
      generalize W.heap.size = b16 at z16' ⊢
      have hri : Rising (olds (M.map Prod.fst)) := olds_rising (by rw [HLN.out]; omega)
      have hxi : i ≤ 4294967295 := hri.lt i (List.mem_of_getElem? g2)
      have hxi1 : (i : Int) ≤ 4294967295 := by omega
      have hpl : (pre.length : Int) ≤ 4294967295 := by omega
      have hpl2 : pre.length ≤ 4294967295 := by omega
      have m1 := Lib.hid (show toM (olds (M.map Prod.fst)) i = (pre.length, 0) by have := below_at hri.up g2; simp [toM, List.mem_of_getElem? g2, this])
      have m2 := Lib.hid (show fromM (olds (M.map Prod.fst)) pre.length = (i, 0) by rw [← below_at hri.up g2]; exact fromM_hit hri.up (List.mem_of_getElem? g2))
      have m3 := Lib.hid (show toM (List.range j) pre.length = (pre.length, 0) from toM_range g3)
      have holl : (olds (M.map Prod.fst)).length = j := by rw [olds_length, HJ'.out]
      have HRI := Lib.hid hri; have G1 := Lib.hid g1; have HOL := Lib.hid holl
      have HR2' : Hid (Rising (List.range j)) := ⟨List.pairwise_lt_range, fun x hx => by have := List.mem_range.1 hx; omega, by rw [List.length_range]; omega⟩
      clear hri g1 g2 holl
      generalize htt : pre.length = t at *
      have HTT := Lib.hid htt
      clear htt
      have hpl3 : (t : Int) ≤ 1000 := by omega
      have HPB := Lib.hid (Mod.refl (fun _ => False) W2)
      have hr8 := HCI.out.r8; have hr13 := HCI.out.r13
      have Z16 := Lib.hid z16'
      clear z16'
      have hr8_0 := cell_of_row _ _ 0 _ _ _ hr8; have hr8_f := (fun j => frozen_of_row _ _ j _ _ hr8); have hr8_l := lt_of_block hr8; simp at hr8_0; have H_hr8 := Lib.hid hr8; clear hr8
      have hr13_0 := cell_of_row _ _ 0 _ _ _ hr13; have hr13_f := (fun j => frozen_of_row _ _ j _ _ hr13); have hr13_l := lt_of_block hr13; simp at hr13_0; have H_hr13 := Lib.hid hr13; clear hr13
      gi_upto_region 20 with (gi_at_call 28; refine CallsIn.mono (CallsIn.inRound l' (callsIn_wide.2 (getA_hit HCI.out.lq t x G1.out))) ?_; rintro e w7 ⟨a7, n7, c7, rfl, hb7, hf7, hp7⟩)
      have hal : Pure w7 (w7.alloc (.cells #[.string x.key, .slice a7 n7 c7, .int .u64 x.dl, .int .u64 x.birth] 48)) := (Mod.refl _ w7).alloc _
      have z17 := heap_new (w := w7) (o := (.cells #[.string x.key, .slice a7 n7 c7, .int .u64 x.dl, .int .u64 x.birth] 48 (0, 0))) rfl
      have hpa := hp7.trans hal
      replace HCI := Lib.hid (HCI.out.pure hpa); replace HPB := Lib.hid (HPB.out.trans hpa); replace Z16 := Lib.hid (hpa.heap (fun h => h) Z16.out)
      have RV := Lib.hid (hv2.out.frame hpa (fun _ _ h => h)); have RX := Lib.hid ((hb7.read (bytesOf_one _)).frame hal (fun _ _ h => h))
      clear hr8_0 hr8_f hr8_l
      clear hr13_0 hr13_f hr13_l
      clear H_hr8 H_hr13 hpa hal hp7 hb7 hf7
      generalize w7.alloc (.cells #[.string x.key, .slice a7 n7 c7, .int .u64 x.dl, .int .u64 x.birth] 48) = W7 at HCI HPB Z16 z17 RV RX ⊢
      generalize w7.heap.size = b17 at z17 ⊢
      have Z17 := Lib.hid z17
      clear z17
      have hr11 := HCI.out.r11; have hr13 := HCI.out.r13
      have hr11_0 := cell_of_row _ _ 0 _ _ _ hr11; have hr11_f := (fun j => frozen_of_row _ _ j _ _ hr11); have hr11_l := lt_of_block hr11; simp at hr11_0; have H_hr11 := Lib.hid hr11; clear hr11
      have hr13_0 := cell_of_row _ _ 0 _ _ _ hr13; have hr13_f := (fun j => frozen_of_row _ _ j _ _ hr13); have hr13_l := lt_of_block hr13; simp at hr13_0; have H_hr13 := Lib.hid hr13; clear hr13
      gi_upto_region 21 with (gi_at_call 28; refine CallsIn.mono (CallsIn.inRound l' (callsIn_wide.2 (getA_hit HCI.out.ly t x G1.out))) ?_; rintro e w9 ⟨a9, n9, c9, rfl, hb9, hf9, hp9⟩)
      have hal : Pure w9 (w9.alloc (.cells #[.string x.key, .slice a9 n9 c9, .int .u64 x.dl, .int .u64 x.birth] 48)) := (Mod.refl _ w9).alloc _
      have z19 := heap_new (w := w9) (o := (.cells #[.string x.key, .slice a9 n9 c9, .int .u64 x.dl, .int .u64 x.birth] 48 (0, 0))) rfl
      have hpa := hp9.trans hal
      replace HCI := Lib.hid (HCI.out.pure hpa); replace HPB := Lib.hid (HPB.out.trans hpa); replace Z16 := Lib.hid (hpa.heap (fun h => h) Z16.out)
      replace RV := Lib.hid (RV.out.frame hpa (fun _ _ h => h)); replace RX := Lib.hid (RX.out.frame hpa (fun _ _ h => h)); have RY := Lib.hid ((hb9.read (bytesOf_one _)).frame hal (fun _ _ h => h))
      have z17 := hpa.heap (fun h => h) Z17.out
      clear hr11_0 hr11_f hr11_l
      clear hr13_0 hr13_f hr13_l
      clear H_hr11 H_hr13 hpa hal hp9 hb9 hf9
      generalize w9.alloc (.cells #[.string x.key, .slice a9 n9 c9, .int .u64 x.dl, .int .u64 x.birth] 48) = W9 at HCI HPB Z16 z17 z19 RV RX RY ⊢
      generalize w9.heap.size = b19 at z19 ⊢
      have z16 := Z16.out
      have hr9 := HCI.out.r9; have hr12 := HCI.out.r12; have hr13 := HCI.out.r13
      have z16_0 := cell_of_row _ _ 0 _ _ _ z16; have z16_1 := cell_of_row _ _ 1 _ _ _ z16; have z16_2 := cell_of_row _ _ 2 _ _ _ z16; have z16_3 := cell_of_row _ _ 3 _ _ _ z16; have z16_f := (fun j => frozen_of_row _ _ j _ _ z16); have z16_l := lt_of_block z16; simp at z16_0 z16_1 z16_2 z16_3; have H_z16 := Lib.hid z16; clear z16
      have z17_0 := cell_of_row _ _ 0 _ _ _ z17; have z17_1 := cell_of_row _ _ 1 _ _ _ z17; have z17_2 := cell_of_row _ _ 2 _ _ _ z17; have z17_3 := cell_of_row _ _ 3 _ _ _ z17; have z17_f := (fun j => frozen_of_row _ _ j _ _ z17); have z17_l := lt_of_block z17; simp at z17_0 z17_1 z17_2 z17_3; have H_z17 := Lib.hid z17; clear z17
      have z19_0 := cell_of_row _ _ 0 _ _ _ z19; have z19_1 := cell_of_row _ _ 1 _ _ _ z19; have z19_2 := cell_of_row _ _ 2 _ _ _ z19; have z19_3 := cell_of_row _ _ 3 _ _ _ z19; have z19_f := (fun j => frozen_of_row _ _ j _ _ z19); have z19_l := lt_of_block z19; simp at z19_0 z19_1 z19_2 z19_3; have H_z19 := Lib.hid z19; clear z19
      have hr9_0 := cell_of_row _ _ 0 _ _ _ hr9; have hr9_1 := cell_of_row _ _ 1 _ _ _ hr9; have hr9_f := (fun j => frozen_of_row _ _ j _ _ hr9); have hr9_l := lt_of_block hr9; simp at hr9_0 hr9_1; have H_hr9 := Lib.hid hr9; clear hr9
      have hr12_0 := cell_of_row _ _ 0 _ _ _ hr12; have hr12_1 := cell_of_row _ _ 1 _ _ _ hr12; have hr12_f := (fun j => frozen_of_row _ _ j _ _ hr12); have hr12_l := lt_of_block hr12; simp at hr12_0 hr12_1; have H_hr12 := Lib.hid hr12; clear hr12
      have hr13_0 := cell_of_row _ _ 0 _ _ _ hr13; have hr13_f := (fun j => frozen_of_row _ _ j _ _ hr13); have hr13_l := lt_of_block hr13; simp at hr13_0; have H_hr13 := Lib.hid hr13; clear hr13
      have t1 : Hid True := Lib.hid trivial
      have t2 := t1
      gi_upto_region 23 with (first
        | (gi_at_call 29; have := t1.out; clear this t1; refine CallsIn.mono (CallsIn.inRound l' (callsIn_wide.2 (ref_Equal_same x a7 va n7 _ c7 vc RX.out RV.out))) ?_; rintro e w10 ⟨rfl, hq9⟩; replace HCI := Lib.hid (HCI.out.pure hq9); replace HPB := Lib.hid (HPB.out.trans hq9); replace RV := Lib.hid (RV.out.frame hq9 (fun _ _ h => h)); replace RX := Lib.hid (RX.out.frame hq9 (fun _ _ h => h)); replace RY := Lib.hid (RY.out.frame hq9 (fun _ _ h => h)); clear z16_0 z16_1 z16_2 z16_3 z16_f z16_l; clear z17_0 z17_1 z17_2 z17_3 z17_f z17_l; clear z19_0 z19_1 z19_2 z19_3 z19_f z19_l; clear hr9_0 hr9_1 hr9_f hr9_l; clear hr12_0 hr12_1 hr12_f hr12_l; clear hr13_0 hr13_f hr13_l; have z16 := hq9.heap (fun h => h) H_z16.out; have z17 := hq9.heap (fun h => h) H_z17.out; have z19 := hq9.heap (fun h => h) H_z19.out; clear H_z16 H_z17 H_z19 H_hr9 H_hr12 H_hr13; have hr9 := HCI.out.r9; have hr12 := HCI.out.r12; have hr13 := HCI.out.r13; have z16_0 := cell_of_row _ _ 0 _ _ _ z16; have z16_1 := cell_of_row _ _ 1 _ _ _ z16; have z16_2 := cell_of_row _ _ 2 _ _ _ z16; have z16_3 := cell_of_row _ _ 3 _ _ _ z16; have z16_f := (fun j => frozen_of_row _ _ j _ _ z16); have z16_l := lt_of_block z16; simp at z16_0 z16_1 z16_2 z16_3; have H_z16 := Lib.hid z16; clear z16; have z17_0 := cell_of_row _ _ 0 _ _ _ z17; have z17_1 := cell_of_row _ _ 1 _ _ _ z17; have z17_2 := cell_of_row _ _ 2 _ _ _ z17; have z17_3 := cell_of_row _ _ 3 _ _ _ z17; have z17_f := (fun j => frozen_of_row _ _ j _ _ z17); have z17_l := lt_of_block z17; simp at z17_0 z17_1 z17_2 z17_3; have H_z17 := Lib.hid z17; clear z17; have z19_0 := cell_of_row _ _ 0 _ _ _ z19; have z19_1 := cell_of_row _ _ 1 _ _ _ z19; have z19_2 := cell_of_row _ _ 2 _ _ _ z19; have z19_3 := cell_of_row _ _ 3 _ _ _ z19; have z19_f := (fun j => frozen_of_row _ _ j _ _ z19); have z19_l := lt_of_block z19; simp at z19_0 z19_1 z19_2 z19_3; have H_z19 := Lib.hid z19; clear z19; have hr9_0 := cell_of_row _ _ 0 _ _ _ hr9; have hr9_1 := cell_of_row _ _ 1 _ _ _ hr9; have hr9_f := (fun j => frozen_of_row _ _ j _ _ hr9); have hr9_l := lt_of_block hr9; simp at hr9_0 hr9_1; have H_hr9 := Lib.hid hr9; clear hr9; have hr12_0 := cell_of_row _ _ 0 _ _ _ hr12; have hr12_1 := cell_of_row _ _ 1 _ _ _ hr12; have hr12_f := (fun j => frozen_of_row _ _ j _ _ hr12); have hr12_l := lt_of_block hr12; simp at hr12_0 hr12_1; have H_hr12 := Lib.hid hr12; clear hr12; have hr13_0 := cell_of_row _ _ 0 _ _ _ hr13; have hr13_f := (fun j => frozen_of_row _ _ j _ _ hr13); have hr13_l := lt_of_block hr13; simp at hr13_0; have H_hr13 := Lib.hid hr13; clear hr13; clear hq9)
        | (gi_at_call 29; refine CallsIn.mono (CallsIn.inRound l' (callsIn_wide.2 (ref_Equal_same x a9 va n9 _ c9 vc RY.out RV.out))) ?_; rintro e w10 ⟨rfl, hq9⟩; replace HCI := Lib.hid (HCI.out.pure hq9); replace HPB := Lib.hid (HPB.out.trans hq9); replace RV := Lib.hid (RV.out.frame hq9 (fun _ _ h => h)); replace RX := Lib.hid (RX.out.frame hq9 (fun _ _ h => h)); replace RY := Lib.hid (RY.out.frame hq9 (fun _ _ h => h)); clear z16_0 z16_1 z16_2 z16_3 z16_f z16_l; clear z17_0 z17_1 z17_2 z17_3 z17_f z17_l; clear z19_0 z19_1 z19_2 z19_3 z19_f z19_l; clear hr9_0 hr9_1 hr9_f hr9_l; clear hr12_0 hr12_1 hr12_f hr12_l; clear hr13_0 hr13_f hr13_l; have z16 := hq9.heap (fun h => h) H_z16.out; have z17 := hq9.heap (fun h => h) H_z17.out; have z19 := hq9.heap (fun h => h) H_z19.out; clear H_z16 H_z17 H_z19 H_hr9 H_hr12 H_hr13; have hr9 := HCI.out.r9; have hr12 := HCI.out.r12; have hr13 := HCI.out.r13; have z16_0 := cell_of_row _ _ 0 _ _ _ z16; have z16_1 := cell_of_row _ _ 1 _ _ _ z16; have z16_2 := cell_of_row _ _ 2 _ _ _ z16; have z16_3 := cell_of_row _ _ 3 _ _ _ z16; have z16_f := (fun j => frozen_of_row _ _ j _ _ z16); have z16_l := lt_of_block z16; simp at z16_0 z16_1 z16_2 z16_3; have H_z16 := Lib.hid z16; clear z16; have z17_0 := cell_of_row _ _ 0 _ _ _ z17; have z17_1 := cell_of_row _ _ 1 _ _ _ z17; have z17_2 := cell_of_row _ _ 2 _ _ _ z17; have z17_3 := cell_of_row _ _ 3 _ _ _ z17; have z17_f := (fun j => frozen_of_row _ _ j _ _ z17); have z17_l := lt_of_block z17; simp at z17_0 z17_1 z17_2 z17_3; have H_z17 := Lib.hid z17; clear z17; have z19_0 := cell_of_row _ _ 0 _ _ _ z19; have z19_1 := cell_of_row _ _ 1 _ _ _ z19; have z19_2 := cell_of_row _ _ 2 _ _ _ z19; have z19_3 := cell_of_row _ _ 3 _ _ _ z19; have z19_f := (fun j => frozen_of_row _ _ j _ _ z19); have z19_l := lt_of_block z19; simp at z19_0 z19_1 z19_2 z19_3; have H_z19 := Lib.hid z19; clear z19; have hr9_0 := cell_of_row _ _ 0 _ _ _ hr9; have hr9_1 := cell_of_row _ _ 1 _ _ _ hr9; have hr9_f := (fun j => frozen_of_row _ _ j _ _ hr9); have hr9_l := lt_of_block hr9; simp at hr9_0 hr9_1; have H_hr9 := Lib.hid hr9; clear hr9; have hr12_0 := cell_of_row _ _ 0 _ _ _ hr12; have hr12_1 := cell_of_row _ _ 1 _ _ _ hr12; have hr12_f := (fun j => frozen_of_row _ _ j _ _ hr12); have hr12_l := lt_of_block hr12; simp at hr12_0 hr12_1; have H_hr12 := Lib.hid hr12; clear hr12; have hr13_0 := cell_of_row _ _ 0 _ _ _ hr13; have hr13_f := (fun j => frozen_of_row _ _ j _ _ hr13); have hr13_l := lt_of_block hr13; simp at hr13_0; have H_hr13 := Lib.hid hr13; clear hr13; clear hq9)
        | (gi_at_call 30; have := t2.out; clear this t2; refine CallsIn.mono (CallsIn.inRound l' (callsIn_wide.2 (law_toK HCI.out.row HOL.out HRI.out k i t 0 (by omega) m1.out))) ?_; rintro e w10 ⟨rfl, hq9⟩; replace HCI := Lib.hid (HCI.out.pure hq9); replace HPB := Lib.hid (HPB.out.trans hq9); replace RV := Lib.hid (RV.out.frame hq9 (fun _ _ h => h)); replace RX := Lib.hid (RX.out.frame hq9 (fun _ _ h => h)); replace RY := Lib.hid (RY.out.frame hq9 (fun _ _ h => h)); clear z16_0 z16_1 z16_2 z16_3 z16_f z16_l; clear z17_0 z17_1 z17_2 z17_3 z17_f z17_l; clear z19_0 z19_1 z19_2 z19_3 z19_f z19_l; clear hr9_0 hr9_1 hr9_f hr9_l; clear hr12_0 hr12_1 hr12_f hr12_l; clear hr13_0 hr13_f hr13_l; have z16 := hq9.heap (fun h => h) H_z16.out; have z17 := hq9.heap (fun h => h) H_z17.out; have z19 := hq9.heap (fun h => h) H_z19.out; clear H_z16 H_z17 H_z19 H_hr9 H_hr12 H_hr13; have hr9 := HCI.out.r9; have hr12 := HCI.out.r12; have hr13 := HCI.out.r13; have z16_0 := cell_of_row _ _ 0 _ _ _ z16; have z16_1 := cell_of_row _ _ 1 _ _ _ z16; have z16_2 := cell_of_row _ _ 2 _ _ _ z16; have z16_3 := cell_of_row _ _ 3 _ _ _ z16; have z16_f := (fun j => frozen_of_row _ _ j _ _ z16); have z16_l := lt_of_block z16; simp at z16_0 z16_1 z16_2 z16_3; have H_z16 := Lib.hid z16; clear z16; have z17_0 := cell_of_row _ _ 0 _ _ _ z17; have z17_1 := cell_of_row _ _ 1 _ _ _ z17; have z17_2 := cell_of_row _ _ 2 _ _ _ z17; have z17_3 := cell_of_row _ _ 3 _ _ _ z17; have z17_f := (fun j => frozen_of_row _ _ j _ _ z17); have z17_l := lt_of_block z17; simp at z17_0 z17_1 z17_2 z17_3; have H_z17 := Lib.hid z17; clear z17; have z19_0 := cell_of_row _ _ 0 _ _ _ z19; have z19_1 := cell_of_row _ _ 1 _ _ _ z19; have z19_2 := cell_of_row _ _ 2 _ _ _ z19; have z19_3 := cell_of_row _ _ 3 _ _ _ z19; have z19_f := (fun j => frozen_of_row _ _ j _ _ z19); have z19_l := lt_of_block z19; simp at z19_0 z19_1 z19_2 z19_3; have H_z19 := Lib.hid z19; clear z19; have hr9_0 := cell_of_row _ _ 0 _ _ _ hr9; have hr9_1 := cell_of_row _ _ 1 _ _ _ hr9; have hr9_f := (fun j => frozen_of_row _ _ j _ _ hr9); have hr9_l := lt_of_block hr9; simp at hr9_0 hr9_1; have H_hr9 := Lib.hid hr9; clear hr9; have hr12_0 := cell_of_row _ _ 0 _ _ _ hr12; have hr12_1 := cell_of_row _ _ 1 _ _ _ hr12; have hr12_f := (fun j => frozen_of_row _ _ j _ _ hr12); have hr12_l := lt_of_block hr12; simp at hr12_0 hr12_1; have H_hr12 := Lib.hid hr12; clear hr12; have hr13_0 := cell_of_row _ _ 0 _ _ _ hr13; have hr13_f := (fun j => frozen_of_row _ _ j _ _ hr13); have hr13_l := lt_of_block hr13; simp at hr13_0; have H_hr13 := Lib.hid hr13; clear hr13; clear hq9)
        | (gi_at_call 31; refine CallsIn.mono (CallsIn.inRound l' (callsIn_wide.2 (law_fromK HCI.out.row HOL.out HRI.out k t i 0 (by omega) m2.out))) ?_; rintro e w10 ⟨rfl, hq9⟩; replace HCI := Lib.hid (HCI.out.pure hq9); replace HPB := Lib.hid (HPB.out.trans hq9); replace RV := Lib.hid (RV.out.frame hq9 (fun _ _ h => h)); replace RX := Lib.hid (RX.out.frame hq9 (fun _ _ h => h)); replace RY := Lib.hid (RY.out.frame hq9 (fun _ _ h => h)); clear z16_0 z16_1 z16_2 z16_3 z16_f z16_l; clear z17_0 z17_1 z17_2 z17_3 z17_f z17_l; clear z19_0 z19_1 z19_2 z19_3 z19_f z19_l; clear hr9_0 hr9_1 hr9_f hr9_l; clear hr12_0 hr12_1 hr12_f hr12_l; clear hr13_0 hr13_f hr13_l; have z16 := hq9.heap (fun h => h) H_z16.out; have z17 := hq9.heap (fun h => h) H_z17.out; have z19 := hq9.heap (fun h => h) H_z19.out; clear H_z16 H_z17 H_z19 H_hr9 H_hr12 H_hr13; have hr9 := HCI.out.r9; have hr12 := HCI.out.r12; have hr13 := HCI.out.r13; have z16_0 := cell_of_row _ _ 0 _ _ _ z16; have z16_1 := cell_of_row _ _ 1 _ _ _ z16; have z16_2 := cell_of_row _ _ 2 _ _ _ z16; have z16_3 := cell_of_row _ _ 3 _ _ _ z16; have z16_f := (fun j => frozen_of_row _ _ j _ _ z16); have z16_l := lt_of_block z16; simp at z16_0 z16_1 z16_2 z16_3; have H_z16 := Lib.hid z16; clear z16; have z17_0 := cell_of_row _ _ 0 _ _ _ z17; have z17_1 := cell_of_row _ _ 1 _ _ _ z17; have z17_2 := cell_of_row _ _ 2 _ _ _ z17; have z17_3 := cell_of_row _ _ 3 _ _ _ z17; have z17_f := (fun j => frozen_of_row _ _ j _ _ z17); have z17_l := lt_of_block z17; simp at z17_0 z17_1 z17_2 z17_3; have H_z17 := Lib.hid z17; clear z17; have z19_0 := cell_of_row _ _ 0 _ _ _ z19; have z19_1 := cell_of_row _ _ 1 _ _ _ z19; have z19_2 := cell_of_row _ _ 2 _ _ _ z19; have z19_3 := cell_of_row _ _ 3 _ _ _ z19; have z19_f := (fun j => frozen_of_row _ _ j _ _ z19); have z19_l := lt_of_block z19; simp at z19_0 z19_1 z19_2 z19_3; have H_z19 := Lib.hid z19; clear z19; have hr9_0 := cell_of_row _ _ 0 _ _ _ hr9; have hr9_1 := cell_of_row _ _ 1 _ _ _ hr9; have hr9_f := (fun j => frozen_of_row _ _ j _ _ hr9); have hr9_l := lt_of_block hr9; simp at hr9_0 hr9_1; have H_hr9 := Lib.hid hr9; clear hr9; have hr12_0 := cell_of_row _ _ 0 _ _ _ hr12; have hr12_1 := cell_of_row _ _ 1 _ _ _ hr12; have hr12_f := (fun j => frozen_of_row _ _ j _ _ hr12); have hr12_l := lt_of_block hr12; simp at hr12_0 hr12_1; have H_hr12 := Lib.hid hr12; clear hr12; have hr13_0 := cell_of_row _ _ 0 _ _ _ hr13; have hr13_f := (fun j => frozen_of_row _ _ j _ _ hr13); have hr13_l := lt_of_block hr13; simp at hr13_0; have H_hr13 := Lib.hid hr13; clear hr13; clear hq9)
        | (gi_at_call 30; refine CallsIn.mono (CallsIn.inRound l' (callsIn_wide.2 (law_toK HCI.out.row2 (by rw [List.length_range]) HR2'.out j t t 0 (by omega) m3.out))) ?_; rintro e w10 ⟨rfl, hq9⟩; replace HCI := Lib.hid (HCI.out.pure hq9); replace HPB := Lib.hid (HPB.out.trans hq9); replace RV := Lib.hid (RV.out.frame hq9 (fun _ _ h => h)); replace RX := Lib.hid (RX.out.frame hq9 (fun _ _ h => h)); replace RY := Lib.hid (RY.out.frame hq9 (fun _ _ h => h)); clear z16_0 z16_1 z16_2 z16_3 z16_f z16_l; clear z17_0 z17_1 z17_2 z17_3 z17_f z17_l; clear z19_0 z19_1 z19_2 z19_3 z19_f z19_l; clear hr9_0 hr9_1 hr9_f hr9_l; clear hr12_0 hr12_1 hr12_f hr12_l; clear hr13_0 hr13_f hr13_l; have z16 := hq9.heap (fun h => h) H_z16.out; have z17 := hq9.heap (fun h => h) H_z17.out; have z19 := hq9.heap (fun h => h) H_z19.out; clear H_z16 H_z17 H_z19 H_hr9 H_hr12 H_hr13; have hr9 := HCI.out.r9; have hr12 := HCI.out.r12; have hr13 := HCI.out.r13; have z16_0 := cell_of_row _ _ 0 _ _ _ z16; have z16_1 := cell_of_row _ _ 1 _ _ _ z16; have z16_2 := cell_of_row _ _ 2 _ _ _ z16; have z16_3 := cell_of_row _ _ 3 _ _ _ z16; have z16_f := (fun j => frozen_of_row _ _ j _ _ z16); have z16_l := lt_of_block z16; simp at z16_0 z16_1 z16_2 z16_3; have H_z16 := Lib.hid z16; clear z16; have z17_0 := cell_of_row _ _ 0 _ _ _ z17; have z17_1 := cell_of_row _ _ 1 _ _ _ z17; have z17_2 := cell_of_row _ _ 2 _ _ _ z17; have z17_3 := cell_of_row _ _ 3 _ _ _ z17; have z17_f := (fun j => frozen_of_row _ _ j _ _ z17); have z17_l := lt_of_block z17; simp at z17_0 z17_1 z17_2 z17_3; have H_z17 := Lib.hid z17; clear z17; have z19_0 := cell_of_row _ _ 0 _ _ _ z19; have z19_1 := cell_of_row _ _ 1 _ _ _ z19; have z19_2 := cell_of_row _ _ 2 _ _ _ z19; have z19_3 := cell_of_row _ _ 3 _ _ _ z19; have z19_f := (fun j => frozen_of_row _ _ j _ _ z19); have z19_l := lt_of_block z19; simp at z19_0 z19_1 z19_2 z19_3; have H_z19 := Lib.hid z19; clear z19; have hr9_0 := cell_of_row _ _ 0 _ _ _ hr9; have hr9_1 := cell_of_row _ _ 1 _ _ _ hr9; have hr9_f := (fun j => frozen_of_row _ _ j _ _ hr9); have hr9_l := lt_of_block hr9; simp at hr9_0 hr9_1; have H_hr9 := Lib.hid hr9; clear hr9; have hr12_0 := cell_of_row _ _ 0 _ _ _ hr12; have hr12_1 := cell_of_row _ _ 1 _ _ _ hr12; have hr12_f := (fun j => frozen_of_row _ _ j _ _ hr12); have hr12_l := lt_of_block hr12; simp at hr12_0 hr12_1; have H_hr12 := Lib.hid hr12; clear hr12; have hr13_0 := cell_of_row _ _ 0 _ _ _ hr13; have hr13_f := (fun j => frozen_of_row _ _ j _ _ hr13); have hr13_l := lt_of_block hr13; simp at hr13_0; have H_hr13 := Lib.hid hr13; clear hr13; clear hq9))
      gi_wp2
      have hnx := HCI.out.next
      have hmx : Mod (fun i => i = b13) W2 _ := (Mod.of_pure HPB.out).trans (Mod.set1 b13 0 (.int .u32 ((t : Int) + 1)))
      refine ⟨KeepsRec.of_mod hmx (fun i hi e => by omega), KeepsIt.of_mod hmx (fun i hi e => by subst e; exact HIQ.out hi), ?_, Nat.le_trans hsz2 hmx.size⟩
      rw [List.length_append, HTT.out]
      exact hnx
    case done =>
      rintro l xs W hl hS ⟨hI, hWs⟩ hK
      have hxl : xs.length = j := by have := congrArg List.length hS; rw [List.length_map] at this; rw [this, HJ'.out]
      have HI := Lib.hid hI; have HK := Lib.hid hK; have HXL := Lib.hid hxl
      clear hI hK hS hxl hI0 HIT hItlt
      have hr4 := HI.out.r4; have hr9 := HI.out.r9; have hr12 := HI.out.r12; have hr13 := HI.out.r13
      rw [HXL.out] at hr13
      have hr4_0 := cell_of_row _ _ 0 _ _ _ hr4; have hr4_f := (fun j => frozen_of_row _ _ j _ _ hr4); have hr4_l := lt_of_block hr4; simp at hr4_0; have H_hr4 := Lib.hid hr4; clear hr4
      have hr9_0 := cell_of_row _ _ 0 _ _ _ hr9; have hr9_1 := cell_of_row _ _ 1 _ _ _ hr9; have hr9_f := (fun j => frozen_of_row _ _ j _ _ hr9); have hr9_l := lt_of_block hr9; simp at hr9_0 hr9_1; have H_hr9 := Lib.hid hr9; clear hr9
      have hr12_0 := cell_of_row _ _ 0 _ _ _ hr12; have hr12_1 := cell_of_row _ _ 1 _ _ _ hr12; have hr12_f := (fun j => frozen_of_row _ _ j _ _ hr12); have hr12_l := lt_of_block hr12; simp at hr12_0 hr12_1; have H_hr12 := Lib.hid hr12; clear hr12
      have hr13_0 := cell_of_row _ _ 0 _ _ _ hr13; have hr13_f := (fun j => frozen_of_row _ _ j _ _ hr13); have hr13_l := lt_of_block hr13; simp at hr13_0; have H_hr13 := Lib.hid hr13; clear hr13
      have hj1 : (j : Int) ≤ 1000 := by omega
      go_upto_region 24 with fail
      have n9 : ¬ (b9 = w.heap.size) := fun e => by have h1 := H_hr9.out; have h2 := H_hr4.out; rw [e, h2] at h1; cases h1
      have n12 : ¬ (b12 = w.heap.size) := fun e => by have h1 := H_hr12.out; have h2 := H_hr4.out; rw [e, h2] at h1; cases h1
      have n13 : ¬ (b13 = w.heap.size) := fun e => by have h1 := H_hr13.out; have h2 := H_hr4.out; rw [e, h2] at h1; cases h1
      have wj : IntKind.i64.wrap (j : Int) = j := IntWalk.i64_in _ (by omega)
      have t1 : Hid True := Lib.hid trivial
      go_region_held3 (fun w' => w'.cell? ⟨b9, 0, none⟩ = some (.slice a2 j c2) ∧ w'.cell? ⟨b9, 1, none⟩ = some (.int .i64 k) ∧ w'.cell? ⟨b12, 0, none⟩ = some (.slice a3 j c3) ∧ w'.cell? ⟨b12, 1, none⟩ = some (.int .i64 j) ∧ w'.cell? ⟨b13, 0, none⟩ = some (.int .u32 j))
        (first | go_keep | exact ⟨(Mod.set1 _ _ _).cell (by simp; omega) y0, (Mod.set1 _ _ _).cell (by simp; omega) y1, (Mod.set1 _ _ _).cell (by simp; omega) y2, (Mod.set1 _ _ _).cell (by simp; omega) y3, (Mod.set1 _ _ _).cell (by simp; omega) y4⟩)
        (first
          | (go_at_call 25; (with_reducible refine Calls.mono (lenE (HI.out.lp.pure (by (repeat' (first | (with_reducible exact Mod.refl _ _) | (with_reducible refine Mod.alloc ?_ _) | (with_reducible refine Mod.drew ?_) | (with_reducible refine Mod.drewN ?_ _) | (with_reducible refine Mod.setCell ?_ ?_ _) | (refine Mod.then ?_ (by with_reducible assumption) ?_))))) k HLN.out) ?_); rintro e w8 ⟨rfl, rfl⟩)
          | (go_at_call 32; have := t1.out; clear this t1; (with_reducible refine Calls.mono (lensZ _ _ j k j k true (by simp)) ?_); rintro e w8 ⟨rfl, hq⟩; have HQA := Lib.hid (Mod.trans (by (repeat' (first | (with_reducible exact Mod.refl _ _) | (with_reducible refine Mod.alloc ?_ _) | (with_reducible refine Mod.drew ?_) | (with_reducible refine Mod.drewN ?_ _) | (with_reducible refine Mod.setCell ?_ ?_ _) | (refine Mod.then ?_ (by with_reducible assumption) ?_)))) hq : Pure W w8); have y0 := HQA.out.cell (fun h => h) hr9_0; have y1 := HQA.out.cell (fun h => h) hr9_1; have y2 := HQA.out.cell (fun h => h) hr12_0; have y3 := HQA.out.cell (fun h => h) hr12_1; have y4 := HQA.out.cell (fun h => h) hr13_0; have y5 := HQA.out.cell (fun h => h) hr4_0; have yf := (fun j => frozen_of_row _ w.heap.size j _ _ (HQA.out.heap (fun h => h) H_hr4.out)); have yl := Nat.lt_of_lt_of_le hr4_l HQA.out.size; clear hq)
          | (go_at_call 32; (with_reducible refine Calls.mono (lensZ _ _ j j j j true (by simp)) ?_); rintro e w8 ⟨rfl, hq⟩; replace HQA := Lib.hid (HQA.out.trans hq); have y0 := HQA.out.cell (fun h => h) hr9_0; have y1 := HQA.out.cell (fun h => h) hr9_1; have y2 := HQA.out.cell (fun h => h) hr12_0; have y3 := HQA.out.cell (fun h => h) hr12_1; have y4 := HQA.out.cell (fun h => h) hr13_0; have y5 := HQA.out.cell (fun h => h) hr4_0; have yf := (fun j => frozen_of_row _ w.heap.size j _ _ (HQA.out.heap (fun h => h) H_hr4.out)); have yl := Nat.lt_of_lt_of_le hr4_l HQA.out.size; clear hq)
          | (go_at_call 15; (with_reducible refine Calls.mono (known_true _) ?_); rintro e w8 ⟨rfl, hq⟩; replace HQA := Lib.hid (HQA.out.trans hq); have y0 := HQA.out.cell (fun h => h) hr9_0; have y1 := HQA.out.cell (fun h => h) hr9_1; have y2 := HQA.out.cell (fun h => h) hr12_0; have y3 := HQA.out.cell (fun h => h) hr12_1; have y4 := HQA.out.cell (fun h => h) hr13_0; have y5 := HQA.out.cell (fun h => h) hr4_0; have yf := (fun j => frozen_of_row _ w.heap.size j _ _ (HQA.out.heap (fun h => h) H_hr4.out)); have yl := Nat.lt_of_lt_of_le hr4_l HQA.out.size; clear hq))
      go_wp2
      have hms : Mod (fun i => i = w.heap.size) w8 (w8.setCell ⟨w.heap.size, 0, none⟩ (.bool true)) := Mod.set1 _ _ _
      have k4 := heap_set1 (j := 0) (v := .bool true) (HQA.out.heap (fun h => h) H_hr4.out)
      have hlt4 := HI.out.pu.size
      have hKf : (w8.setCell ⟨w.heap.size, 0, none⟩ (.bool true)).heap[l]? = some (.deferred (some [])) := hms.heap (by omega) (HQA.out.heap (fun h => h) HK.out)
      have hq : Quiet w6.heap.size (w8.setCell ⟨w.heap.size, 0, none⟩ (.bool true)) ((w8.setCell ⟨w.heap.size, 0, none⟩ (.bool true)).putObj l (.deferred none)) := Quiet.putObj _ hl hKf rfl
      have z4 := cell_of_row _ _ 0 _ _ _ (hq.cells k4)
      simp at z4
      exact bodyPostM_drained (v := .bool true) hKf (by simp [results, Try.results5, go_sem, z4]) ⟨rfl, hq.mod ((HI.out.pu.trans HQA.out).then hms (fun i hi e => by omega)) hlw⟩
end Go.Proofs.Ytbjiebhbmpafpaa
