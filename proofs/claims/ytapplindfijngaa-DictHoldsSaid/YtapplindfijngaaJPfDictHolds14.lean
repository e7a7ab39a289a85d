/- Lemmas and contracts of functions, strung together out of 1 texts. No condition. -/
import Derived.Test.YtapplindfijngaaJPfDictHolds13
import Derived.Test.YtapplindfijngaaJPfDictHolds3
import Derived.WalkKit
import Derived.Outline
import Derived.Deep.CutBlock
/- law10.DictHolds answers true. Condition: the acts are read. -/
namespace Go.Proofs.Ytapplindfijngaa
open Go.RowKit Go.Shelf Go.Maps
set_option maxRecDepth 100000

set_option maxHeartbeats 16000000 in
theorem DictHolds_true {w : World} (seed : Int) (hs0 : 0 ≤ seed) (hs1 : seed ≤ 18446744073709551615) (other : Int) (ho0 : 0 ≤ other) (ho1 : other ≤ 18446744073709551615) (a : Option Addr) (c : Nat) (es : List AIn) (hr : ReadAt w (.slice a es.length c) 6 (es.flatMap aCells)) (hok : ∀ t ∈ es, AOk w t) (hl : es.length ≤ 9223372036854775807) :
    Calls Try.prog 3 #[.int .u64 seed, .int .u64 other, .slice a es.length c] w fun e w' => e = .returned (.bool true) ∧ Pure w w' := by
  have HKn := Lib.hid (fun W => known10_true W)
  have HSmall := Lib.hid (small_ok hr rfl hok hl)
  obtain ⟨seed, rfl⟩ := Int.eq_ofNat_of_zero_le hs0
  obtain ⟨other, rfl⟩ := Int.eq_ofNat_of_zero_le ho0
  have hsd : seed < 18446744073709551616 := by omega
  have hso : other < 18446744073709551616 := by omega
  obtain ⟨N, hN⟩ : ∃ N, es.length = N := ⟨_, rfl⟩
  rw [hN] at hr hl HSmall ⊢
  have HR := Lib.hid hr; have HOK := Lib.hid hok; have HEN := Lib.hid hN
  clear hr hok hN hs0 hs1 ho0 ho1
  have wN : IntKind.i64.wrap (N : Int) = N := IntWalk.i64_in _ (by omega)
  unfold smallPost at HSmall
  have HN1 := Lib.hid (fun W => hnew10 (seed : Int) false W)
  have HN2 := Lib.hid (fun W => hnew10 (other : Int) true W)
  have HD1 := Lib.hid (fun W => dnew_ok seed false hsd W)
  have HD2 := Lib.hid (fun W => dnew_ok other true hso W)
  have hmm := @run_makeMap Try.prog
  have HPZ : Hid (plainElem Try.prog (H := Unit) 32 (.int .u32 0) = some (.lit (.int .u32 0), [])) := Lib.hid (plainElem_int Try.underlying32 (by decide))
  have HWU : Hid (∀ s : Nat, s ≤ 4194304 → IntKind.u32.wrap ((s : Int) + 1) = (s : Int) + 1) := Lib.hid (fun s hs => by simp [IntKind.wrap, IntKind.signed, IntKind.bits]; omega)
  have HPE : Hid (∀ s : Nat, s ≤ 4194304 → plainElem Try.prog (H := Unit) 32 (.int .u32 ((s : Int) + 1)) = some (.lit (.int .u32 ((s : Int) + 1)), [])) := Lib.hid (fun s hs => plainElem_int Try.underlying32 (by simp [Lit.wf, IntKind.min, IntKind.max, IntKind.signed, IntKind.bits]; omega))
  go_enter Try.func3, Try.ntmps3
  go_upto_if 35 with (go_at_call 4; refine Calls.mono HSmall.out ?_; rintro e w1 ⟨r, rfl, hsm, hp1⟩)
  cases r with
  | false =>
    go_wp2_with (go_at_call 5; refine Calls.mono (HKn.out _) ?_; rintro e w2 ⟨rfl, hp2⟩)
    go_ret
    exact ⟨rfl, hp1.trans hp2⟩
  | true =>
    obtain ⟨hN80, hsz⟩ := hsm rfl
    rw [HEN.out] at hN80
    have HSZ := Lib.hid hsz; have HP1 := Lib.hid hp1
    clear hsm hsz hp1
    have t1 : Hid True := Lib.hid trivial; have t2 := t1; have t3 := t1; have t4 := t1
    go_upto_region 6 with (first
      | (go_at_call 7; have := t1.out; clear this t1; refine Calls.mono (HN1.out _) ?_; rintro e w2 ⟨rfl, hp2⟩)
      | (go_at_call 6; have := t2.out; clear this t2; refine Calls.mono (HD1.out _) ?_; rintro e w3 ⟨d1, D1, rfl, hd1, hp3, hf1⟩; dsimp only [dPtr] at *)
      | (go_at_call 7; have := t3.out; clear this t3; refine Calls.mono (HN2.out _) ?_; rintro e w4 ⟨rfl, hp4⟩)
      | (go_at_call 6; have := t4.out; clear this t4; refine Calls.mono (HD2.out _) ?_; rintro e w5 ⟨d2, D2, rfl, hd2, hp5, hf2⟩; dsimp only [dPtr] at *))
    have hal : Pure w5 (w5.alloc (.map #[] 0)) := (Mod.refl _ w5).alloc _
    have H0 : Hid (DH2 w d1 seed d2 other w5.heap.size D1 (newG 1) D2 (newG 1) [] [] (.map []) 0 (w5.alloc (.map #[] 0))) := Lib.hid
      ⟨(((HP1.out.trans hp2).trans hp3).trans (hp4.trans hp5)).trans hal, (hd1.pure (hp4.trans hp5)).pure hal, hd2.pure hal, gb_new, gb_new, fun k hk => by have := hf1 k hk; have := (HP1.out.trans hp2).size; omega, fun k hk => by have := hf2 k hk; have := ((HP1.out.trans hp2).trans (hp3.trans hp4)).size; omega,
        fun k h1 h2 => by have := hd1.lt h1; have := hf2 k h2; have := hp4.size; omega, World.ownsMap_made _ _ _ _, (((HP1.out.trans hp2).trans hp3).trans (hp4.trans hp5)).size⟩
    clear hp2 hp3 hp4 hp5 hd1 hd2 hf1 hf2 hal HP1
    go_upto_region 7 with fail
    generalize w5.alloc (.map #[] 0) = W0 at *
    generalize w5.heap.size = m at *
    go_upto_region 8 with fail
    go_loopw [52] (fun v52 wr => ∃ (i : Nat), v52 = .int .i64 (i : Nat) ∧ i ≤ N ∧ DHI w d1 seed d2 other m i wr) (fun v52 _ => N - (intOf v52).toNat)
    case atStart => exact ⟨0, rfl, Nat.zero_le _, D1, newG 1, D2, newG 1, [], .map [], 0, Nat.le_refl _, Nat.le_refl _, MapOf.new, H0.out⟩
    case round =>
      clear H0
      clear D1 D2
      obtain ⟨i, rfl, hi, D1, G1, D2, G2, L, Dm, nn, hLi, hni, hmo, hdh⟩ := hrel
      have HMO := Lib.hid hmo; have HDH := Lib.hid hdh
      clear hmo hdh
      by_cases hlt : i < N
      · have hlt' : (i : Int) < (N : Int) := by omega
        have i0 : (0 : Int) ≤ (i : Int) := by omega
        have wi : IntKind.i64.wrap ((i : Int) + 1) = (i : Int) + 1 := IntWalk.i64_in _ (by omega)
        obtain ⟨t, ht⟩ : ∃ t, es[i]? = some t := ⟨_, List.getElem?_eq_getElem (by rw [HEN.out]; exact hlt)⟩
        have hOw := HOK.out t (List.mem_of_getElem? ht)
        have hSz := HSZ.out t (List.mem_of_getElem? ht)
        obtain ⟨ad, had, hat⟩ := acts_at (HR.out.frame HDH.out.pu (fun _ _ h => h)) HEN.out ht
        subst had
        have z0 := hat.c0; have z1 := hat.c1; have z2 := hat.c2; have z3 := hat.c3; have z4 := hat.c4; have z5 := hat.c5
        have HOW := Lib.hid hOw
        clear ht hat hOw
        obtain ⟨what, slot, ⟨x, ya, yn, yc⟩⟩ := t
        dsimp only at z0 z1 z2 z3 z4 z5 hSz HOW
        obtain ⟨key, hke⟩ : ∃ key, x.key = key := ⟨_, rfl⟩
        obtain ⟨dl, hdl⟩ : ∃ dl, x.dl = dl := ⟨_, rfl⟩
        obtain ⟨br, hbr⟩ : ∃ br, x.birth = br := ⟨_, rfl⟩
        rw [hke] at z2 hSz
        rw [hdl] at z4
        rw [hbr] at z5
        obtain ⟨hk300, hn300⟩ := hSz
        have HKE := Lib.hid hke; have HDL := Lib.hid hdl; have HBR := Lib.hid hbr
        clear hke hdl hbr
        go_upto_region 10 with fail
        have hal : Pure wr (wr.alloc (.cells #[.int .i64 what, .int .u32 slot, .string key, .slice ya yn yc, .int .u64 dl, .int .u64 br] 38)) := (Mod.refl _ wr).alloc _
        have h11 := heap_new (w := wr) (o := .cells #[.int .i64 what, .int .u32 slot, .string key, .slice ya yn yc, .int .u64 dl, .int .u64 br] 38 (0, 0)) rfl
        have hb11 : w.heap.size ≤ wr.heap.size := HDH.out.pu.size
        have HB1 : Hid (∀ k, (D1 k ∨ D2 k) → k < wr.heap.size) := Lib.hid (fun k hk => hk.elim HDH.out.a1.lt HDH.out.a2.lt)
        have HRDN : Hid (∀ g, rdBlock (.slice ya yn yc) = some g → ¬ (D1 g ∨ D2 g)) := Lib.hid (fun g hg e => by
          have := HOW.out.e.rd.lt (by decide) hg
          rcases e with e | e
          · have := HDH.out.f1 g e; omega
          · have := HDH.out.f2 g e; omega)
        replace HDH := Lib.hid (HDH.out.pure hal)
        clear hal z0 z1 z2 z3 z4 z5
        generalize wr.alloc (.cells #[.int .i64 what, .int .u32 slot, .string key, .slice ya yn yc, .int .u64 dl, .int .u64 br] 38) = W1 at *
        generalize wr.heap.size = b11 at *
        have h11b := h11
        have H11 := Lib.hid h11b
        clear h11b
        have h11_0 := cell_of_row _ _ 0 _ _ _ h11; have h11_1 := cell_of_row _ _ 1 _ _ _ h11; have h11_2 := cell_of_row _ _ 2 _ _ _ h11; have h11_3 := cell_of_row _ _ 3 _ _ _ h11; have h11_4 := cell_of_row _ _ 4 _ _ _ h11; have h11_5 := cell_of_row _ _ 5 _ _ _ h11; have h11_f := (fun j => frozen_of_row _ _ j _ _ h11); have h11_l := lt_of_block h11; simp at h11_0 h11_1 h11_2 h11_3 h11_4 h11_5; have H_h11 := Lib.hid h11; clear h11
        go_upto_block 2 with fail
        have hb1 : ¬ D1 b11 := fun e => by have := HB1.out b11 (.inl e); omega
        have hb2 : ¬ D2 b11 := fun e => by have := HB1.out b11 (.inr e); omega
        have HB := Lib.hid (And.intro hb1 hb2)
        have HRD := Lib.hid ((HOW.out.pure HDH.out.pu).e.rd)
        have HLI := Lib.hid hLi; have HNI := Lib.hid hni
        clear hb1 hb2 hLi hni
        go_cut [] from 53 to 249 (fun wx => DHI w d1 seed d2 other m (i + 1) wx)
        case first =>
          by_cases c0 : what = 0
          · have c0' : (what == 0) = true := by simp [c0]
            -- BEG ins
            as_aux_lemma =>
              have hi1 := HDH.out.ins1 (by have := HLI.out; omega) x HOW.out.e.b0 (by rw [HKE.out]; omega) ya yn yc HRD.out (by omega)
              rw [HKE.out, HDL.out, HBR.out] at hi1
              have HI1 := Lib.hid hi1
              clear hi1
              have HIC := Lib.hid (ins_cases L x)
              rw [HKE.out] at HIC
              obtain ⟨ie, hie⟩ : ∃ ie, insE L x = ie := ⟨_, rfl⟩
              obtain ⟨sn, his⟩ : ∃ sn, insS L x = sn := ⟨_, rfl⟩
              rw [hie, his] at HI1
              rw [hie] at HIC
              have HIE := Lib.hid hie; have HIS := Lib.hid his
              have hea : insE L x = 0 → ∀ {D1' G1' D2' G2' w3 w4}, DH2 w d1 seed d2 other m D1' G1' D2' G2' (insL L x) (insL L x) Dm nn w3 → w4.ownsMap Try.prog 9 (plainElem Try.prog 32) m (nn + 1) (Dm.put (kLit key) (.lit (.int .u32 ((sn : Int) + 1)))) → w3.grownBy w4 (some m) → DHI w d1 seed d2 other m (i + 1) w4 := fun h0 {D1' G1' D2' G2' w3 w4} h3 ho hg => by
                have hmp := HMO.out.ins HDH.out.a1.keeps.keys HOW.out.e.b0 h0
                rw [his, HKE.out] at hmp
                exact ⟨D1', G1', D2', G2', insL L x, _, nn + 1, by have := insL_length L x; have := HLI.out; omega, by have := HNI.out; omega, hmp, h3.put ho hg⟩
              have hem : insE L x ≠ 0 → ∀ {D1' G1' D2' G2' w3}, DH2 w d1 seed d2 other m D1' G1' D2' G2' (insL L x) (insL L x) Dm nn w3 → DHI w d1 seed d2 other m (i + 1) w3 := fun h0 {D1' G1' D2' G2' w3} h3 => by
                rw [insL_miss h0] at h3
                exact ⟨D1', G1', D2', G2', L, _, nn, by have := HLI.out; omega, by have := HNI.out; omega, HMO.out, h3⟩
              have HEA := Lib.hid hea; have HEM := Lib.hid hem
              clear hea hem
              clear hie his
              go_upto_region 13 with (go_at_call 8; refine Calls.mono HI1.out ?_; rintro e w2 ⟨rfl, D1', G1', hdh2, hm2⟩)
              have h11b := hm2.heap HB.out.1 H11.out
              have hrd2 := HRD.out.frame hm2 (fun g hg e => HRDN.out g hg (.inl e))
              have hi2 := hdh2.ins2 (by have := HLI.out; omega) x HOW.out.e.b0 (by rw [HKE.out]; omega) ya yn yc hrd2 (by omega)
              rw [HKE.out, HDL.out, HBR.out, HIE.out, HIS.out] at hi2
              have HI2 := Lib.hid hi2; have H11b := Lib.hid h11b
              clear h11_0 h11_1 h11_2 h11_3 h11_4 h11_5 h11_f h11_l
              clear H_h11 hi2 hrd2 hdh2 hm2 H11 HI1
              have h11b_0 := cell_of_row _ _ 0 _ _ _ h11b; have h11b_1 := cell_of_row _ _ 1 _ _ _ h11b; have h11b_2 := cell_of_row _ _ 2 _ _ _ h11b; have h11b_3 := cell_of_row _ _ 3 _ _ _ h11b; have h11b_4 := cell_of_row _ _ 4 _ _ _ h11b; have h11b_5 := cell_of_row _ _ 5 _ _ _ h11b; have h11b_f := (fun j => frozen_of_row _ _ j _ _ h11b); have h11b_l := lt_of_block h11b; simp at h11b_0 h11b_1 h11b_2 h11b_3 h11b_4 h11b_5; have H_h11b := Lib.hid h11b; clear h11b
              go_upto_region 14 with (go_at_call 8; refine Calls.mono HI2.out ?_; rintro e w3 ⟨rfl, D2', G2', hdh3, hm3⟩)
              have h11c := hm3.heap HB.out.2 H11b.out
              have hlk := hdh3.look HMO.out key (by unfold maxLen; omega)
              have HD3 := Lib.hid hdh3
              clear h11b_0 h11b_1 h11b_2 h11b_3 h11b_4 h11b_5 h11b_f h11b_l
              clear H_h11b hdh3 hm3 H11b HI2
              have h11c_0 := cell_of_row _ _ 0 _ _ _ h11c; have h11c_1 := cell_of_row _ _ 1 _ _ _ h11c; have h11c_2 := cell_of_row _ _ 2 _ _ _ h11c; have h11c_3 := cell_of_row _ _ 3 _ _ _ h11c; have h11c_4 := cell_of_row _ _ 4 _ _ _ h11c; have h11c_5 := cell_of_row _ _ 5 _ _ _ h11c; have h11c_f := (fun j => frozen_of_row _ _ j _ _ h11c); have h11c_l := lt_of_block h11c; simp at h11c_0 h11c_1 h11c_2 h11c_3 h11c_4 h11c_5; have H_h11c := Lib.hid h11c; clear h11c
              rcases HIC.out with ⟨ce, cv⟩ | ⟨ce, cv⟩ | ce | ce
              · subst ce
                rw [cv] at hlk
                clear cv HIC
                have wu : IntKind.u32.wrap ((sn : Int) + 1) = (sn : Int) + 1 := HWU.out sn (by rw [← HIS.out]; exact insS_le HDH.out.a1.ok x)
                go_upto_region 17 with fail
                clear hlk
                go_wp2_with (at_mapUpdate; refine wpList_mapUpdate_own _ rfl _ _ _ 31 rfl 9 32 lawK Try.underlying31 (plainElem Try.prog 32) m nn Dm rfl HD3.out.mp (by have := HNI.out; unfold maxLen; omega) (.string key) (.int .u32 ((sn : Int) + 1)) (kLit key) rfl rfl (Go.WideMaps.keyOf_string_mk Try.underlying9 (by unfold maxLen; omega)) (.lit (.int .u32 ((sn : Int) + 1))) [] (HPE.out sn (by rw [← HIS.out]; exact insS_le HDH.out.a1.ok x)) ?_; intro w4 hown hgrow)
                go_meet
                exact HEA.out HIE.out HD3.out hown hgrow
              · subst ce
                obtain ⟨iv, hiv⟩ : ∃ iv, inV L key = iv := ⟨_, rfl⟩
                rw [hiv] at hlk cv
                have dv : decide ((0 : Int) < (iv : Int)) = true := decide_eq_true (by omega)
                have dvn : decide (0 < iv) = true := decide_eq_true (by omega)
                clear hiv cv HIC
                go_wp2
                go_meet
                exact HEM.out (by rw [HIE.out]; decide) HD3.out
              all_goals
                subst ce
                clear HIC
                obtain ⟨iv, hiv⟩ : ∃ iv, inV L key = iv := ⟨_, rfl⟩
                rw [hiv] at hlk
                clear hiv
                by_cases cv : iv = 0
                · subst cv
                  go_wp2
                  go_meet
                  exact HEM.out (by rw [HIE.out]; decide) HD3.out
                · have dv : decide ((0 : Int) < (iv : Int)) = true := decide_eq_true (by omega)
                  have dvn : decide (0 < iv) = true := decide_eq_true (by omega)
                  clear cv
                  go_wp2
                  go_meet
                  exact HEM.out (by rw [HIE.out]; decide) HD3.out
            -- END ins
          have c0' : (what == 0) = false := by simp [c0]
          by_cases c2 : what = 2
          · have c2' : (what == 2) = true := by simp [c2]
            -- BEG set
            as_aux_lemma =>
              have hn' : x.val.length = yn := HOW.out.e.len
              have HXL : Hid (x.val.length ≤ 65536) := Lib.hid (by omega)
              clear hn' c0 c2
              have t1 : Hid True := Lib.hid trivial
              have HC11 := Lib.hid (show S11 b11 (.int .u32 slot) (.slice ya yn yc) (.int .u64 dl) W1 from ⟨h11_1, h11_3, h11_4⟩)
              go_upto_region 19 with fail
              go_region_held3 (fun w' => w'.cell? ⟨b11, 1, none⟩ = some (.int .u32 slot) ∧ w'.cell? ⟨b11, 3, none⟩ = some (.slice ya yn yc) ∧ w'.cell? ⟨b11, 4, none⟩ = some (.int .u64 dl))
                (first | exact HC11.out | exact HC11.out.mod HB.out.1 (Mod.of_drew hm1) | exact HC11.out.mod HB.out.1 hm1 | exact (HC11.out.mod HB.out.1 (Mod.of_drew hm1)).mod HB.out.2 hm2 | exact (HC11.out.mod HB.out.1 hm1).mod HB.out.2 hm2)
                (first
                  | (go_at_call 9; have := t1.out; clear this t1; refine Calls.mono ((HDH.out.pure (by first | exact Mod.refl _ _ | exact (Mod.refl _ _).drew)).set1 (s := slot) HOW.out.s ya yn yc x.val (HRD.out.frame (by first | exact Mod.refl _ _ | exact (Mod.refl _ _).drew) (fun _ _ h => h)) HXL.out dl) ?_; rintro e u1 ⟨rfl, hdh1, hm1⟩)
                  | (go_at_call 9; refine Calls.mono (hdh1.set2 (s := slot) HOW.out.s ya yn yc x.val (HRD.out.frame (Mod.of_drew hm1) (fun g hg e => HRDN.out g hg (.inl e))) HXL.out dl) ?_; rintro e u2 ⟨rfl, hdh2, hm2⟩))
              go_wp2
              go_meet
              exact ⟨D1, G1, D2, G2, updL L slot x.val dl, Dm, nn, by rw [updL_length]; have := HLI.out; omega, by have := HNI.out; omega, HMO.out.upd slot x.val dl, hdh2⟩
            -- END set
          have c2' : (what == 2) = false := by simp [c2]
          by_cases c34 : what = 3 ∨ what = 4
          · have c0s : True := trivial
            -- BEG rem
            as_aux_lemma =>
              have hfs := findV_le HDH.out.a1.ok key
              have HFi := Lib.hid (Find_any HDH.out.a1 key (by omega))
              unfold dfindPost at HFi
              obtain ⟨fs, hfse⟩ : ∃ fs, (findV L key).1 = fs := ⟨_, rfl⟩
              obtain ⟨fe, hfee⟩ : ∃ fe, (findV L key).2 = fe := ⟨_, rfl⟩
              rw [hfse, hfee] at HFi
              rw [hfse] at hfs
              clear hfse hfee
              have HSL := HOW.out.s
              dsimp only at HSL
              rcases c34 with c3 | c4
              · have c3' : (what == 3) = true := by simp [c3]
                have c4' : (what == 4) = false := by simp; omega
                have hS : slot ≤ 4294967295 := HSL
                clear c0 c2 c3 HFi hfs
                go_upto_region 26 with fail
                have hr1 := HDH.out.rem1 (by have := HLI.out; omega) (s := slot) hS
                obtain ⟨xe, hxe⟩ : ∃ xe, remE L slot = xe := ⟨_, rfl⟩
                obtain ⟨er, her⟩ : ∃ er, noL L slot = er := ⟨_, rfl⟩
                obtain ⟨L', hL'⟩ : ∃ L', L.set slot none = L' := ⟨_, rfl⟩
                rw [hxe, her, hL'] at hr1
                have HR1 := Lib.hid hr1; have HXE := Lib.hid hxe; have HER := Lib.hid her; have HL' := Lib.hid hL'
                clear hr1 hxe her hL'
                go_upto_region 27 with (go_at_call 11; refine Calls.mono HR1.out ?_; rintro e w3 ⟨a1, n1, c1, rfl, hb3, D1', G1', hdh3, hm3⟩)
                have hal : Pure w3 (w3.alloc (.cells #[.string xe.key, .slice a1 n1 c1, .int .u64 xe.dl, .int .u64 xe.birth] 36)) := (Mod.refl _ w3).alloc _
                have h17 := heap_new (w := w3) (o := .cells #[.string xe.key, .slice a1 n1 c1, .int .u64 xe.dl, .int .u64 xe.birth] 36 (0, 0)) rfl
                have hn17 : ¬ D2 w3.heap.size := fun e => by have := hdh3.a2.lt e; omega
                have HB4 := Lib.hid (bytes_pure hb3 hal)
                have HD4 := Lib.hid (hdh3.pure hal)
                clear h11_0 h11_1 h11_2 h11_3 h11_4 h11_5 h11_f h11_l
                clear H_h11 hal hb3 hdh3 hm3 HR1
                generalize w3.alloc (.cells #[.string xe.key, .slice a1 n1 c1, .int .u64 xe.dl, .int .u64 xe.birth] 36) = W4 at *
                generalize w3.heap.size = b17 at *
                have hr2 := HD4.out.rem2 (by have := HLI.out; omega) (s := slot) hS
                rw [HXE.out, HER.out, HL'.out] at hr2
                have HR2 := Lib.hid hr2; have H17 := Lib.hid h17; have HN17 := Lib.hid hn17
                clear hr2 h17 hn17
                go_upto_region 28 with (go_at_call 11; refine Calls.mono HR2.out ?_; rintro e w5 ⟨a2, n2, c2, rfl, hb5, D2', G2', hdh5, hm5⟩)
                have hal : Pure w5 (w5.alloc (.cells #[.string xe.key, .slice a2 n2 c2, .int .u64 xe.dl, .int .u64 xe.birth] 36)) := (Mod.refl _ w5).alloc _
                have h19 := heap_new (w := w5) (o := .cells #[.string xe.key, .slice a2 n2 c2, .int .u64 xe.dl, .int .u64 xe.birth] 36 (0, 0)) rfl
                have h17 := hal.heap (fun h => h) (hm5.heap HN17.out H17.out)
                have heq := ref_Equal_same xe a1 a2 n1 n2 c1 c2 (bytes_rd (bytes_pure (bytes_mod HD4.out.a2 HB4.out hm5) hal)) (bytes_rd (bytes_pure hb5 hal))
                have HEQ := Lib.hid heq; have HD6 := Lib.hid (hdh5.pure hal)
                clear hal hb5 hdh5 hm5 heq H17 HN17 HB4 HD4 HR2
                generalize w5.alloc (.cells #[.string xe.key, .slice a2 n2 c2, .int .u64 xe.dl, .int .u64 xe.birth] 36) = W6 at *
                generalize w5.heap.size = b19 at *
                obtain ⟨xk, hxk⟩ : ∃ xk, xe.key = xk := ⟨_, rfl⟩
                obtain ⟨xd, hxd⟩ : ∃ xd, xe.dl = xd := ⟨_, rfl⟩
                obtain ⟨xb, hxb⟩ : ∃ xb, xe.birth = xb := ⟨_, rfl⟩
                rw [hxk, hxd, hxb] at HEQ h17 h19
                simp only [hxk, hxd, hxb]
                have HXK := Lib.hid hxk
                clear hxk hxd hxb
                have H17b := Lib.hid h17
                have h17_0 := cell_of_row _ _ 0 _ _ _ h17; have h17_1 := cell_of_row _ _ 1 _ _ _ h17; have h17_2 := cell_of_row _ _ 2 _ _ _ h17; have h17_3 := cell_of_row _ _ 3 _ _ _ h17; have h17_f := (fun j => frozen_of_row _ _ j _ _ h17); have h17_l := lt_of_block h17; simp at h17_0 h17_1 h17_2 h17_3; have H_h17 := Lib.hid h17; clear h17
                have h19_0 := cell_of_row _ _ 0 _ _ _ h19; have h19_1 := cell_of_row _ _ 1 _ _ _ h19; have h19_2 := cell_of_row _ _ 2 _ _ _ h19; have h19_3 := cell_of_row _ _ 3 _ _ _ h19; have h19_f := (fun j => frozen_of_row _ _ j _ _ h19); have h19_l := lt_of_block h19; simp at h19_0 h19_1 h19_2 h19_3; have H_h19 := Lib.hid h19; clear h19
                go_upto_region 30 with (go_at_call 12; refine Calls.mono HEQ.out ?_; rintro e w7 ⟨rfl, hp7⟩)
                have h17c := hp7.heap (fun h => h) H17b.out
                have HD7 := Lib.hid (HD6.out.pure hp7)
                clear h17_0 h17_1 h17_2 h17_3 h17_f h17_l
                clear h19_0 h19_1 h19_2 h19_3 h19_f h19_l
                clear H_h17 H_h19 H17b hp7 HD6 HEQ
                have h17c_0 := cell_of_row _ _ 0 _ _ _ h17c; have h17c_1 := cell_of_row _ _ 1 _ _ _ h17c; have h17c_2 := cell_of_row _ _ 2 _ _ _ h17c; have h17c_3 := cell_of_row _ _ 3 _ _ _ h17c; have h17c_f := (fun j => frozen_of_row _ _ j _ _ h17c); have h17c_l := lt_of_block h17c; simp at h17c_0 h17c_1 h17c_2 h17c_3; have H_h17c := Lib.hid h17c; clear h17c
                by_cases hh : hasL L slot = true
                · obtain ⟨xx, hxx⟩ := hasL_iff.1 hh
                  have hek : xk = xx.key := by rw [← HXK.out, ← HXE.out, remE_hit hxx]
                  have her0 : er = 0 := by rw [← HER.out]; unfold noL; rw [if_pos hh]
                  have hl4 := HDH.out.a1.ok.ent xx (List.mem_of_getElem? hxx)
                  have hsz : xk.size ≤ 250 := by rw [hek]; exact hl4.k1
                  have hlk := HD7.out.look HMO.out xk (by unfold maxLen; omega)
                  rw [hek, inV_hit HDH.out.a1.keeps.keys hxx, ← hek] at hlk
                  have hmp := HMO.out.del HDH.out.a1.keeps.keys HDH.out.a1.ok hxx
                  rw [HL'.out, ← hek] at hmp
                  have hS4 : slot ≤ 4194304 := by have := (List.getElem?_eq_some_iff.1 hxx).1; have := HDH.out.a1.ok.len; omega
                  have HMP := Lib.hid hmp; have HSZ := Lib.hid hsz
                  have wu : IntKind.u32.wrap ((slot : Int) + 1) = (slot : Int) + 1 := HWU.out slot hS4
                  have wu2 : (((slot + 1 : Nat) : Int)) = (slot : Int) + 1 := by omega
                  rw [wu2] at hlk
                  clear hmp hek hl4 hxx hh hsz wu2
                  subst her0
                  go_upto_region 33 with fail
                  clear hlk
                  go_wp2_with (at_mapUpdate; refine wpList_mapUpdate_own _ rfl _ _ _ 31 rfl 9 32 lawK Try.underlying31 (plainElem Try.prog 32) m nn Dm rfl HD7.out.mp (by have := HNI.out; unfold maxLen; omega) (.string xk) (.int .u32 0) (kLit xk) rfl rfl (Go.WideMaps.keyOf_string_mk Try.underlying9 (by have := HSZ.out; unfold maxLen; omega)) (.lit (.int .u32 0)) [] HPZ.out ?_; intro w4 hown hgrow)
                  go_meet
                  exact ⟨D1', G1', D2', G2', L', _, nn + 1, by rw [← HL'.out, List.length_set]; have := HLI.out; omega, by have := HNI.out; omega, HMP.out, HD7.out.put hown hgrow⟩
                · rw [Bool.not_eq_true] at hh
                  have her9 : er = 9 := by rw [← HER.out]; unfold noL; rw [if_neg (by rw [hh]; decide)]
                  have hLL : L' = L := by rw [← HL'.out]; exact set_noneD hh
                  subst her9
                  rw [hLL] at HD7
                  clear hLL hh
                  go_wp2
                  go_meet
                  exact ⟨D1', G1', D2', G2', L, Dm, nn, by have := HLI.out; omega, by have := HNI.out; omega, HMO.out, HD7.out⟩
              · have c3' : (what == 3) = false := by simp; omega
                have c4' : (what == 4) = true := by simp [c4]
                have hS : fs ≤ 4294967295 := by omega
                clear c0 c2 c4 HSL
                go_upto_region 26 with (go_at_call 10; refine Calls.mono HFi.out ?_; rintro e w2 ⟨rfl, hp2⟩)
                replace HDH := Lib.hid (HDH.out.pure hp2)
                clear hp2 HFi
                have hr1 := HDH.out.rem1 (by have := HLI.out; omega) (s := fs) hS
                obtain ⟨xe, hxe⟩ : ∃ xe, remE L fs = xe := ⟨_, rfl⟩
                obtain ⟨er, her⟩ : ∃ er, noL L fs = er := ⟨_, rfl⟩
                obtain ⟨L', hL'⟩ : ∃ L', L.set fs none = L' := ⟨_, rfl⟩
                rw [hxe, her, hL'] at hr1
                have HR1 := Lib.hid hr1; have HXE := Lib.hid hxe; have HER := Lib.hid her; have HL' := Lib.hid hL'
                clear hr1 hxe her hL'
                go_upto_region 27 with (go_at_call 11; refine Calls.mono HR1.out ?_; rintro e w3 ⟨a1, n1, c1, rfl, hb3, D1', G1', hdh3, hm3⟩)
                have hal : Pure w3 (w3.alloc (.cells #[.string xe.key, .slice a1 n1 c1, .int .u64 xe.dl, .int .u64 xe.birth] 36)) := (Mod.refl _ w3).alloc _
                have h17 := heap_new (w := w3) (o := .cells #[.string xe.key, .slice a1 n1 c1, .int .u64 xe.dl, .int .u64 xe.birth] 36 (0, 0)) rfl
                have hn17 : ¬ D2 w3.heap.size := fun e => by have := hdh3.a2.lt e; omega
                have HB4 := Lib.hid (bytes_pure hb3 hal)
                have HD4 := Lib.hid (hdh3.pure hal)
                clear h11_0 h11_1 h11_2 h11_3 h11_4 h11_5 h11_f h11_l
                clear H_h11 hal hb3 hdh3 hm3 HR1
                generalize w3.alloc (.cells #[.string xe.key, .slice a1 n1 c1, .int .u64 xe.dl, .int .u64 xe.birth] 36) = W4 at *
                generalize w3.heap.size = b17 at *
                have hr2 := HD4.out.rem2 (by have := HLI.out; omega) (s := fs) hS
                rw [HXE.out, HER.out, HL'.out] at hr2
                have HR2 := Lib.hid hr2; have H17 := Lib.hid h17; have HN17 := Lib.hid hn17
                clear hr2 h17 hn17
                go_upto_region 28 with (go_at_call 11; refine Calls.mono HR2.out ?_; rintro e w5 ⟨a2, n2, c2, rfl, hb5, D2', G2', hdh5, hm5⟩)
                have hal : Pure w5 (w5.alloc (.cells #[.string xe.key, .slice a2 n2 c2, .int .u64 xe.dl, .int .u64 xe.birth] 36)) := (Mod.refl _ w5).alloc _
                have h19 := heap_new (w := w5) (o := .cells #[.string xe.key, .slice a2 n2 c2, .int .u64 xe.dl, .int .u64 xe.birth] 36 (0, 0)) rfl
                have h17 := hal.heap (fun h => h) (hm5.heap HN17.out H17.out)
                have heq := ref_Equal_same xe a1 a2 n1 n2 c1 c2 (bytes_rd (bytes_pure (bytes_mod HD4.out.a2 HB4.out hm5) hal)) (bytes_rd (bytes_pure hb5 hal))
                have HEQ := Lib.hid heq; have HD6 := Lib.hid (hdh5.pure hal)
                clear hal hb5 hdh5 hm5 heq H17 HN17 HB4 HD4 HR2
                generalize w5.alloc (.cells #[.string xe.key, .slice a2 n2 c2, .int .u64 xe.dl, .int .u64 xe.birth] 36) = W6 at *
                generalize w5.heap.size = b19 at *
                obtain ⟨xk, hxk⟩ : ∃ xk, xe.key = xk := ⟨_, rfl⟩
                obtain ⟨xd, hxd⟩ : ∃ xd, xe.dl = xd := ⟨_, rfl⟩
                obtain ⟨xb, hxb⟩ : ∃ xb, xe.birth = xb := ⟨_, rfl⟩
                rw [hxk, hxd, hxb] at HEQ h17 h19
                simp only [hxk, hxd, hxb]
                have HXK := Lib.hid hxk
                clear hxk hxd hxb
                have H17b := Lib.hid h17
                have h17_0 := cell_of_row _ _ 0 _ _ _ h17; have h17_1 := cell_of_row _ _ 1 _ _ _ h17; have h17_2 := cell_of_row _ _ 2 _ _ _ h17; have h17_3 := cell_of_row _ _ 3 _ _ _ h17; have h17_f := (fun j => frozen_of_row _ _ j _ _ h17); have h17_l := lt_of_block h17; simp at h17_0 h17_1 h17_2 h17_3; have H_h17 := Lib.hid h17; clear h17
                have h19_0 := cell_of_row _ _ 0 _ _ _ h19; have h19_1 := cell_of_row _ _ 1 _ _ _ h19; have h19_2 := cell_of_row _ _ 2 _ _ _ h19; have h19_3 := cell_of_row _ _ 3 _ _ _ h19; have h19_f := (fun j => frozen_of_row _ _ j _ _ h19); have h19_l := lt_of_block h19; simp at h19_0 h19_1 h19_2 h19_3; have H_h19 := Lib.hid h19; clear h19
                go_upto_region 30 with (go_at_call 12; refine Calls.mono HEQ.out ?_; rintro e w7 ⟨rfl, hp7⟩)
                have h17c := hp7.heap (fun h => h) H17b.out
                have HD7 := Lib.hid (HD6.out.pure hp7)
                clear h17_0 h17_1 h17_2 h17_3 h17_f h17_l
                clear h19_0 h19_1 h19_2 h19_3 h19_f h19_l
                clear H_h17 H_h19 H17b hp7 HD6 HEQ
                have h17c_0 := cell_of_row _ _ 0 _ _ _ h17c; have h17c_1 := cell_of_row _ _ 1 _ _ _ h17c; have h17c_2 := cell_of_row _ _ 2 _ _ _ h17c; have h17c_3 := cell_of_row _ _ 3 _ _ _ h17c; have h17c_f := (fun j => frozen_of_row _ _ j _ _ h17c); have h17c_l := lt_of_block h17c; simp at h17c_0 h17c_1 h17c_2 h17c_3; have H_h17c := Lib.hid h17c; clear h17c
                by_cases hh : hasL L fs = true
                · obtain ⟨xx, hxx⟩ := hasL_iff.1 hh
                  have hek : xk = xx.key := by rw [← HXK.out, ← HXE.out, remE_hit hxx]
                  have her0 : er = 0 := by rw [← HER.out]; unfold noL; rw [if_pos hh]
                  have hl4 := HDH.out.a1.ok.ent xx (List.mem_of_getElem? hxx)
                  have hsz : xk.size ≤ 250 := by rw [hek]; exact hl4.k1
                  have hlk := HD7.out.look HMO.out xk (by unfold maxLen; omega)
                  rw [hek, inV_hit HDH.out.a1.keeps.keys hxx, ← hek] at hlk
                  have hmp := HMO.out.del HDH.out.a1.keeps.keys HDH.out.a1.ok hxx
                  rw [HL'.out, ← hek] at hmp
                  have hS4 : fs ≤ 4194304 := by have := (List.getElem?_eq_some_iff.1 hxx).1; have := HDH.out.a1.ok.len; omega
                  have HMP := Lib.hid hmp; have HSZ := Lib.hid hsz
                  have wu : IntKind.u32.wrap ((fs : Int) + 1) = (fs : Int) + 1 := HWU.out fs hS4
                  have wu2 : (((fs + 1 : Nat) : Int)) = (fs : Int) + 1 := by omega
                  rw [wu2] at hlk
                  clear hmp hek hl4 hxx hh hsz wu2
                  subst her0
                  go_upto_region 33 with fail
                  clear hlk
                  go_wp2_with (at_mapUpdate; refine wpList_mapUpdate_own _ rfl _ _ _ 31 rfl 9 32 lawK Try.underlying31 (plainElem Try.prog 32) m nn Dm rfl HD7.out.mp (by have := HNI.out; unfold maxLen; omega) (.string xk) (.int .u32 0) (kLit xk) rfl rfl (Go.WideMaps.keyOf_string_mk Try.underlying9 (by have := HSZ.out; unfold maxLen; omega)) (.lit (.int .u32 0)) [] HPZ.out ?_; intro w4 hown hgrow)
                  go_meet
                  exact ⟨D1', G1', D2', G2', L', _, nn + 1, by rw [← HL'.out, List.length_set]; have := HLI.out; omega, by have := HNI.out; omega, HMP.out, HD7.out.put hown hgrow⟩
                · rw [Bool.not_eq_true] at hh
                  have her9 : er = 9 := by rw [← HER.out]; unfold noL; rw [if_neg (by rw [hh]; decide)]
                  have hLL : L' = L := by rw [← HL'.out]; exact set_noneD hh
                  subst her9
                  rw [hLL] at HD7
                  clear hLL hh
                  go_wp2
                  go_meet
                  exact ⟨D1', G1', D2', G2', L, Dm, nn, by have := HLI.out; omega, by have := HNI.out; omega, HMO.out, HD7.out⟩
            -- END rem
          · have c3' : (what == 3) = false := by simp; omega
            have c4' : (what == 4) = false := by simp; omega
            clear c0 c2 c34
            go_wp2
            go_meet
            exact ⟨D1, G1, D2, G2, L, Dm, nn, by have := HLI.out; omega, by have := HNI.out; omega, HMO.out, HDH.out⟩
        case rest =>
          -- BEG rest
          as_aux_lemma =>
            clear HDH HMO HLI HNI HB HRD HB1 HRDN
            clear h11_0 h11_1 h11_2 h11_3 h11_4 h11_5 h11_f h11_l
            clear H_h11 H11
            clear D1 G1 D2 G2 L Dm nn
            obtain ⟨D1, G1, D2, G2, L, Dm, nn, hLi, hni, hmo, hdh⟩ := hcut
            have HDH := Lib.hid hdh; have HMO := Lib.hid hmo; have HLI := Lib.hid hLi; have HNI := Lib.hid hni
            clear hLi hni hmo hdh
            go_upto_block 3 with (at_range; refine wpList_range_own _ rfl _ 31 rfl 9 32 lawK Try.underlying31 (plainElem Try.prog 32) m nn Dm rfl HDH.out.mp ?_; intro wg hrg hgr hsz; go_frame)
            have hpg := pure_grown hgr
            have hr1 : ¬ D1 wc.heap.size := fun e => by have := HDH.out.a1.lt e; omega
            have hr2 : ¬ D2 wc.heap.size := fun e => by have := HDH.out.a2.lt e; omega
            have hr3 : ¬ wc.heap.size = m := fun e => by obtain ⟨es, clock, e2, _⟩ := HDH.out.mp; have := lt_of_block e2; omega
            have hr4 : w.heap.size ≤ wc.heap.size := HDH.out.pu.size
            have HRR := Lib.hid (And.intro hr1 (And.intro hr2 (And.intro hr3 hr4)))
            have HRG := Lib.hid hrg
            replace HDH := Lib.hid (HDH.out.pure hpg)
            clear hr1 hr2 hr3 hr4 hgr hsz hpg hrg
            generalize wc.heap.size = rb at *
            obtain ⟨lv, hlv⟩ : ∃ lv, liveOf L = lv := ⟨_, rfl⟩
            have hlvL : lv ≤ i + 1 := by have := liveOf_le' L; have := HLI.out; omega
            have HLV := Lib.hid hlv
            clear hlv
            go_cut [21] from 53 to 249 (fun v wx => v = .int .i64 (lv : Nat) ∧ DH2 w d1 seed d2 other m D1 G1 D2 G2 L L Dm nn wx)
            case first =>
              -- BEG range
              as_aux_lemma =>
                go_wp2_with fail
                go_loopw [21] (fun v21 wr => ∃ (left : Lit → Bool) (cnt : Nat), v21 = .int .i64 (doneN left L : Nat) ∧ wr.ranges Try.prog 9 (plainElem Try.prog 32) m rb nn Dm left cnt ∧ (∀ kl, left kl = true → Maps.has Dm kl = true) ∧ DH2 w d1 seed d2 other m D1 G1 D2 G2 L L Dm nn wr)
                  (fun _ wr => wr.rangeLeft m rb)
                case atStart => exact ⟨_, _, by rw [doneN_start HMO.out]; rfl, HRG.out, fun _ h => h, HDH.out⟩
                case round =>
                  clear HDH HRG
                  obtain ⟨left, cnt, rfl, hrg, hlf, hdh⟩ := hrel
                  have HLF := Lib.hid hlf; have HDH := Lib.hid hdh; have HRG := Lib.hid hrg
                  clear hlf hdh hrg
                  have hdl : doneN left L ≤ i + 1 := by have := doneN_le left L; have := HLI.out; omega
                  obtain ⟨dn, hdn⟩ : ∃ dn, doneN left L = dn := ⟨_, rfl⟩
                  rw [hdn] at hdl ⊢
                  have HDN := Lib.hid hdn
                  clear hdn
                  go_wp2_with (at_next; refine wpList_next_ranges_si _ rfl _ rfl 9 32 .u32 lawK Try.underlying9 Try.underlying32 m rb nn Dm left cnt rfl HRG.out ?_ ?_)
                  · intro hc0 hl0
                    have HEN : Hid (dn = lv) := Lib.hid (by rw [← HDN.out, doneN_end hl0, HLV.out])
                    clear hc0 hl0
                    go_wp2
                    go_meet
                    exact ⟨by rw [HEN.out], HDH.out⟩
                  · intro x c w1 cnt1 hwx hwc hlx hat hrg1 hlt1 hg1 hs1 hen
                    have hx250 := HMO.out.short x (HLF.out _ hlx)
                    have hc := lit_u32 ((hat (.lit (.int .u32 0))).symm.trans (HMO.out.at_ x))
                    subst hc
                    have hdh1 := HDH.out.iter HRG.out hg1 HRR.out.1 HRR.out.2.1 HRR.out.2.2.1 HRR.out.2.2.2 hrg1.owns
                    have hlf1 : ∀ kl, (left kl && !kl.sameKey (kLit x)) = true → Maps.has Dm kl = true := fun kl hk => HLF.out kl (by simp at hk; exact hk.1)
                    have hst := doneN_step HDH.out.a1.keeps.keys hlx
                    rw [HDN.out] at hst
                    have HST := Lib.hid hst; have HLF1 := Lib.hid hlf1; have HRG1 := Lib.hid hrg1; have HD1 := Lib.hid hdh1; have HLT := Lib.hid hlt1
                    clear hst hlf1 hrg1 hdh1 hlt1 hlx hat hg1 hs1 hwc hwx
                    by_cases c0 : inV L x = 0
                    · have hfv := findV_zero c0
                      have HF1 := Lib.hid (fun W (hW : Pure w1 W) => findsD (HD1.out.a1.pure hW) x (by omega) 0 9 hfv)
                      have HF2 := Lib.hid (fun W (hW : Pure w1 W) => findsD (HD1.out.a2.pure hW) x (by omega) 0 9 hfv)
                      rw [if_pos c0] at HST
                      rw [c0] at hen ⊢
                      clear c0 hfv
                      have t1 : Hid True := Lib.hid trivial
                      go_wp2_with (first
                        | (go_at_call 13; have := t1.out; clear this t1; refine Calls.mono (HF1.out _ (Mod.refl _ _)) ?_; rintro e w2 ⟨rfl, hp2⟩)
                        | (go_at_call 13; refine Calls.mono (HF2.out _ hp2) ?_; rintro e w3 ⟨rfl, hp3⟩))
                      go_roundw
                      case rel => exact ⟨_, cnt1, by rw [HST.out]; rfl, ranges_mod HRG1.out (hp2.trans hp3) (fun h => h) (fun h => h), HLF1.out, HD1.out.pure (hp2.trans hp3)⟩
                      case measure => rw [(ranges_mod HRG1.out (hp2.trans hp3) (fun h => h) (fun h => h)).left_eq, HRG.out.left_eq]; exact HLT.out
                    · obtain ⟨c, hc⟩ : ∃ c, inV L x = c + 1 := ⟨inV L x - 1, by omega⟩
                      have hfv := findV_pos hc
                      have hcl := inV_le HDH.out.a1.ok x
                      rw [hc] at hcl
                      have HF1 := Lib.hid (fun W (hW : Pure w1 W) => findsD (HD1.out.a1.pure hW) x (by omega) c 0 hfv)
                      have HF2 := Lib.hid (fun W (hW : Pure w1 W) => findsD (HD1.out.a2.pure hW) x (by omega) c 0 hfv)
                      rw [if_neg c0] at HST
                      have ec : ((c + 1 : Nat) : Int) = (c : Int) + 1 := by omega
                      rw [hc, ec] at hen ⊢
                      have wc1 : IntKind.u32.wrap ((c : Int) + 1 - 1) = (c : Int) := by simp [IntKind.wrap, IntKind.signed, IntKind.bits]; omega
                      have wc2 : IntKind.u32.wrap (c : Int) = (c : Int) := by simp [IntKind.wrap, IntKind.signed, IntKind.bits]; omega
                      have dp : decide ((0 : Int) < (c : Int) + 1) = true := decide_eq_true (by omega)
                      have wd : IntKind.i64.wrap ((dn : Int) + 1) = (dn : Int) + 1 := IntWalk.i64_in _ (by omega)
                      clear c0 hfv hc ec
                      have t1 : Hid True := Lib.hid trivial
                      go_wp2_with (first
                        | (go_at_call 13; have := t1.out; clear this t1; refine Calls.mono (HF1.out _ (Mod.refl _ _)) ?_; rintro e w2 ⟨rfl, hp2⟩)
                        | (go_at_call 13; refine Calls.mono (HF2.out _ hp2) ?_; rintro e w3 ⟨rfl, hp3⟩))
                      go_roundw
                      case rel => exact ⟨_, cnt1, by rw [HST.out]; go_num, ranges_mod HRG1.out (hp2.trans hp3) (fun h => h) (fun h => h), HLF1.out, HD1.out.pure (hp2.trans hp3)⟩
                      case measure => rw [(ranges_mod HRG1.out (hp2.trans hp3) (fun h => h) (fun h => h)).left_eq, HRG.out.left_eq]; exact HLT.out
              -- END range
            case rest =>
              -- BEG tail
              as_aux_lemma =>
                obtain ⟨rfl, hdh⟩ := hcut
                clear HDH HRG HRR
                have HDH := Lib.hid hdh
                clear hdh
                have t1 : Hid True := Lib.hid trivial
                have HS1 := Lib.hid (fun W (hW : Pure wc W) => dsizes_ok (HDH.out.a1.pure hW))
                have HS2 := Lib.hid (fun W (hW : Pure wc W) => dsizes_ok (HDH.out.a2.pure hW))
                unfold dsizesPost at HS1 HS2
                have hb1 := HDH.out.g1; have hb2 := HDH.out.g2
                unfold GB at hb1 hb2
                rw [HDH.out.a1.keeps.used, HLV.out] at hb1
                rw [HDH.out.a2.keeps.used, HLV.out] at hb2
                have HL1 := Lib.hid (fun W (hW : Pure wc W) => lenD (HDH.out.a1.pure hW) lv HLV.out)
                have HL2 := Lib.hid (fun W (hW : Pure wc W) => lenD (HDH.out.a2.pure hW) lv HLV.out)
                have hmx : boundM lv ≤ 2 ^ 25 := boundM_min (by omega)
                have hle := boundM_le lv
                have HMN := Lib.hid (fun j (h : 4 * lv + 16 ≤ 2 ^ j) => boundM_min (live := lv) h)
                have HPW : Hid (∃ b, boundM lv = 2 ^ b) := Lib.hid ⟨_, rfl⟩
                generalize boundM lv = bm at *
                obtain ⟨g1, hg1⟩ : ∃ g1, G1.length = g1 := ⟨_, rfl⟩
                obtain ⟨g2, hg2⟩ : ∃ g2, G2.length = g2 := ⟨_, rfl⟩
                rw [hg1] at HS1 hb1
                rw [hg2] at HS2 hb2
                clear hg1 hg2
                go_upto_block 5 with (first
                  | (go_at_call 14; have := t1.out; clear this t1; refine Calls.mono (HS1.out _ (Mod.refl _ _)) ?_; rintro e w2 ⟨rfl, hp2⟩)
                  | (go_at_call 14; refine Calls.mono (HS2.out _ hp2) ?_; rintro e w3 ⟨rfl, hp3⟩))
                have hpp := hp2.trans hp3
                have HPP := Lib.hid hpp
                clear hp2 hp3 hpp HS1 HS2
                go_cut [32] from 53 to 249 (fun v wx => v = .int .i64 (bm : Nat) ∧ Pure wc wx)
                case first =>
                  have w4 : IntKind.i64.wrap (4 * (lv : Int)) = 4 * (lv : Int) := IntWalk.i64_in _ (by omega)
                  have w5 : IntKind.i64.wrap (4 * (lv : Int) + 16) = 4 * (lv : Int) + 16 := IntWalk.i64_in _ (by omega)
                  go_wp2_with fail
                  go_loopw [32] (fun v32 wr => ∃ j, v32 = .int .i64 (2 ^ j : Nat) ∧ 2 ^ j ≤ bm ∧ Pure wc wr) (fun v32 _ => 33554432 - (intOf v32).toNat)
                  case atStart => exact ⟨4, rfl, by have : (2 : Nat) ^ 4 = 16 := rfl; omega, HPP.out⟩
                  case round =>
                    obtain ⟨j, rfl, hj, hpr⟩ := hrel
                    have HPR := Lib.hid hpr
                    clear hpr
                    obtain ⟨n, hnn⟩ : ∃ n, 2 ^ j = n := ⟨_, rfl⟩
                    have hnx : 2 ^ (j + 1) = 2 * n := by rw [Nat.pow_succ, hnn]; omega
                    have hn0 : 0 < n := by rw [← hnn]; exact Nat.pow_pos (by decide)
                    by_cases hlt9 : n < 4 * lv + 16
                    · have hlt9' : (n : Int) < 4 * (lv : Int) + 16 := by omega
                      have w2 : IntKind.i64.wrap (2 * (n : Int)) = 2 * (n : Int) := IntWalk.i64_in _ (by omega)
                      have hj2 : 2 ^ (j + 1) ≤ bm := by
                        obtain ⟨b, hb⟩ := HPW.out
                        rw [hb] at hle ⊢
                        refine Nat.pow_le_pow_right (by decide) ?_
                        by_cases c : j + 1 ≤ b
                        · exact c
                        · have : 2 ^ b ≤ 2 ^ j := Nat.pow_le_pow_right (by decide) (by omega)
                          omega
                      have HNX := Lib.hid hnx; have HJ2 := Lib.hid hj2
                      rw [hnn] at hj ⊢
                      clear hnx hj2 hnn
                      go_wp2
                      go_roundw
                      case rel => exact ⟨j + 1, by rw [HNX.out]; rfl, HJ2.out, HPR.out⟩
                      case measure => simp [intOf]; omega
                    · have hlt9' : ¬ ((n : Int) < 4 * (lv : Int) + 16) := by omega
                      have h1 := HMN.out j (by omega)
                      have e : bm = n := by omega
                      rw [hnn]
                      subst e
                      clear hnx h1 hj
                      go_wp2
                      go_meet
                      exact ⟨rfl, HPR.out⟩
                case rest =>
                  obtain ⟨rfl, hpc⟩ := hcut
                  have HPC := Lib.hid hpc
                  have w8a : IntKind.i64.wrap (8 * (g1 : Int)) = 8 * (g1 : Int) := IntWalk.i64_in _ (by omega)
                  have w8b : IntKind.i64.wrap (8 * (g2 : Int)) = 8 * (g2 : Int) := IntWalk.i64_in _ (by omega)
                  have d8a : decide ((bm : Int) < 8 * (g1 : Int)) = false := decide_eq_false (by omega)
                  have d8b : decide ((bm : Int) < 8 * (g2 : Int)) = false := decide_eq_false (by omega)
                  clear hpc HPP hle hmx
                  have t1 : Hid True := Lib.hid trivial
                  go_wp2_with (first
                    | (go_at_call 15; have := t1.out; clear this t1; refine Calls.mono (HL1.out _ HPC.out) ?_; rintro e w5 ⟨rfl, hp5⟩)
                    | (go_at_call 15; refine Calls.mono (HL2.out _ (HPC.out.trans hp5)) ?_; rintro e w6 ⟨rfl, hp6⟩))
                  go_roundw
                  case rel => exact ⟨i + 1, by go_num, hlt, D1, G1, D2, G2, L, Dm, nn, HLI.out, HNI.out, HMO.out, HDH.out.pure ((HPC.out.trans hp5).trans hp6)⟩
                  case measure => simp [intOf]; omega
              -- END tail
          -- END rest
      · have hin : N = i := by omega
        subst hin
        go_wp2_with (go_at_call 5; refine Calls.mono (HKn.out _) ?_; rintro e w2 ⟨rfl, hp2⟩)
        go_ret
        exact ⟨rfl, HDH.out.pu.trans hp2⟩
end Go.Proofs.Ytapplindfijngaa
