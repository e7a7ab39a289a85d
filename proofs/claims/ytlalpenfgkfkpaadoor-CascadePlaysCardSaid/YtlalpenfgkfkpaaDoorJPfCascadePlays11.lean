/- Lemmas and contracts of functions, strung together out of 3 texts. No condition. -/
import Derived.Test.YtlalpenfgkfkpaaDoorJPfCascadePlays10
import Derived.Test.YtlalpenfgkfkpaaDoorJPfCascadePlays8
import Derived.Test.YtlalpenfgkfkpaaDoorJPfCascadePlays7
/- cascade: Advance to a later time. Conditions: the cascade lies in memory, the table too. -/
namespace Go.Proofs.YtlalpenfgkfkpaaDoor
open Go.RowKit
set_option maxRecDepth 100000
theorem tdC_td (x : Td) : (Value.agg #[.int .u32 x.slot, .int .u64 x.dl, .int .u64 x.birth]) = tdV x := rfl
section
variable {w w' : World} {D : Nat → Prop} {p now tt : Nat} {ws : List Nat} {bm bb : Nat} {Ds : Nat → Nat → Prop} {Dm Db : DataW Unit} {M L : List Td} {Lss : List (List (List Nat))}
/-- What is so while the slots are looked at. -/
structure AvI (w wr : World) (D : Nat → Prop) (p tt : Nat) (L : List Td) (mv : List Nat) (a c) (ad : Option Addr) (cd : Nat) (Mj dj : List Td) (D' : Nat → Prop) (j : Nat) : Prop where
  mem : ∃ ws bm bb Ds Dm Db Lss, CasMem wr D' p tt ws bm bb Ds Dm Db Mj Lss ∧ AdvSt tt L (mv.drop j) Mj dj Lss
  grew : grewD D D' w
  row : NumRow wr a c mv
  off : ∀ g, (Value.slice a mv.length c).ownBlock = some g → ¬ D' g
  due : TdRow wr ad cd dj
  fresh : ∀ g, (Value.slice ad dj.length cd).ownBlock = some g → ¬ D' g ∧ w.heap.size ≤ g
  mod : Mod D w wr
set_option maxHeartbeats 4000000 in
theorem CasAt.adv (h : CasAt w D p now L) (hT : TabW w) (h0 : ¬ D 0) (hn : now < tt) (ht : tt < 18446744073709551616) :
    Calls Tryd.prog 16 #[lkP p, .int .u64 tt] w fun e w' => ∃ a c, e = .returned (.tuple #[.slice a (dueL tt L).length c, .int .i64 0]) ∧ TdRow w' a c (dueL tt L) ∧ (∃ D', CasAt w' D' p tt (restL tt L) ∧ grewD D D' w ∧ ∀ g, (Value.slice a (dueL tt L).length c).ownBlock = some g → ¬ D' g ∧ w.heap.size ≤ g) ∧ Mod D w w' := by
  obtain ⟨ws, bm, bb, Ds, Dm, Db, Lss, h1, h2, h3⟩ := h
  have hnow := h1.box.now
  have hl8 : lvl now tt < 8 := (lvl_spec hnow ht).1
  have hbk : bkt now tt < 256 := bkt_lt
  obtain ⟨Lt, hLt⟩ : ∃ Lt, Lss[lvl now tt]? = some Lt := ⟨_, List.getElem?_eq_getElem (by rw [h2.len]; exact hl8)⟩
  have hA := h2.adv hn ht hLt
  have hle := h2.moved_le (n := bkt now tt + 1) hLt
  have HCk := Lib.hid (ccheck_ok h1.box (s := 0) (by omega))
  have HPl := Lib.hid (cplace_ok h1.box ht (by omega : tt ≠ now))
  obtain ⟨c0, c9, c10, cf, cl⟩ := h1.box.cells
  have hSet := fun (W : World) (hW : Pure w W) => (h1.pure hW).setNow ht
  have hDlt : ∀ k, D k → k < w.heap.size := fun k hk => h1.lt hk
  have hpD : D p := (h1.dd p).2 (.inl rfl)
  have hEm := fun (W : World) (k m : Nat) (Ls : List (List Nat)) (hk : k < 8) (hm : m < 256) (hL : Lss[k]? = some Ls) (hM : CasMem W D p tt ws bm bb Ds Dm Db L (clearL Lss k)) (hW : Mod D w W) (hb : (flatN Ls (m + 1)).length ≤ 4194304) =>
    cempty_ok hM (hT.mod hW h0) h0 hm hk ((clearL_get (Nat.le_refl k)).trans hL) hb
  have HEm := Lib.hid hEm; have HSet := Lib.hid hSet; have HDlt := Lib.hid hDlt; have HA := Lib.hid hA; have HLE := Lib.hid hle; have HP2 := Lib.hid h2; have HS := Lib.hid h3; have HpD := Lib.hid hpD; have HLt := Lib.hid hLt
  clear h1 h2 h3 hEm hSet hDlt hA hle hT h0 hpD hLt
  obtain ⟨tp, htp⟩ : ∃ tp, lvl now tt = tp := ⟨_, rfl⟩
  obtain ⟨dg, hdg⟩ : ∃ dg, bkt now tt = dg := ⟨_, rfl⟩
  rw [htp] at hl8 HPl HA HLE HLt
  rw [hdg] at hbk HPl HA HLE
  clear htp hdg
  have lt1 : ¬ (tt : Int) < (now : Int) := by omega
  have eq1 : ((tt : Int) == (now : Int)) = false := by simp; omega
  obtain ⟨i0, hi, iz0, iz1, iz2⟩ := info_parts info_n32
  go_enter Tryd.func16, Tryd.ntmps16
  go_upto_region 8 with (first
    | (go_at_call 46; refine Calls.mono HCk.out ?_; rintro e w' ⟨rfl, rfl⟩)
    | (go_at_call 49; refine Calls.mono HPl.out ?_; rintro e w1 ⟨rfl, hp1⟩))
  obtain ⟨hC1, hm1⟩ := HSet.out w1 hp1
  have hm1' : Mod D w (w1.setCell ⟨p, 0, none⟩ (.int .u64 tt)) := (Mod.of_pure hp1).then hm1 (fun k _ e => by rw [e]; exact HpD.out)
  have hcp := hp1.cell (a := ⟨p, 0, none⟩) (fun h => h) c0
  have hfp : ∀ i, w1.frozen? ⟨p, i, none⟩ = false := fun i => by rw [hp1.cells.2 p i cl]; exact cf i
  have HC1 := Lib.hid hC1; have HM1 := Lib.hid hm1'
  clear hm1 hm1' hC1 c0 c9 c10 cf HCk HPl
  go_upto_region 11 with fail
  generalize w1.setCell ⟨p, 0, none⟩ (.int .u64 tt) = W1 at *
  clear hcp hfp hp1 HSet
  have tp0 : (0 : Int) ≤ (tp : Int) := by omega
  go_loopw [8, 43] (fun v8 v43 wr => ∃ (k : Nat) (a : Option Addr) (c : Nat), v43 = .int .i64 (k : Nat) ∧ k ≤ tp ∧ v8 = .slice a (movedK Lss k).length c ∧ NumRow wr a c (movedK Lss k) ∧ FreshV w (.slice a (movedK Lss k).length c) ∧ CasMem wr D p tt ws bm bb Ds Dm Db L (clearL Lss k) ∧ Mod D w wr) (fun _ v43 _ => 8 - (intOf v43).toNat)
  case atStart => exact ⟨0, none, 0, rfl, Nat.zero_le _, rfl, World.ownsRow_nil _ _ _ _, (fun g hg => by cases hg), HC1.out, HM1.out⟩
  case round =>
    obtain ⟨k, a, c, rfl, hk, rfl, hr, hf, hC, hm⟩ := hrel
    have HR := Lib.hid hr; have HF := Lib.hid hf; have HC := Lib.hid hC; have HM := Lib.hid hm
    clear hr hf hC hm
    by_cases hlt : k < tp
    · have hlt' : (k : Int) < (tp : Int) := by omega
      have k0 : (0 : Int) ≤ (k : Int) := by omega
      have wk : IntKind.i64.wrap ((k : Int) + 1) = (k : Int) + 1 := IntWalk.i64_in _ (by omega)
      obtain ⟨Ls, hL⟩ : ∃ Ls, Lss[k]? = some Ls := ⟨_, List.getElem?_eq_getElem (by rw [HP2.out.len]; omega)⟩
      have hw := HP2.out.wide k Ls hL
      have hmv := HP2.out.moved_le (n := 256) hL
      rw [List.length_append, flatN_all hw] at hmv
      have he := HEm.out wr k 255 Ls (by omega) (by omega) hL HC.out HM.out (by rw [flatN_all hw]; omega)
      rw [flatN_all hw, emptyL_all hw, ← clearL_succ hL] at he
      have hsucc := movedK_succ hL
      obtain ⟨nl, hnl⟩ : ∃ nl, Ls.flatten.length = nl := ⟨_, rfl⟩
      obtain ⟨no, hno⟩ : ∃ no, (movedK Lss k).length = no := ⟨_, rfl⟩
      rw [hnl] at he hmv
      rw [hno] at hmv ⊢
      have hns : (movedK Lss (k + 1)).length = no + nl := by rw [hsucc, List.length_append, hnl, hno]
      have HE := Lib.hid he; have HSU := Lib.hid hsucc; have HNL := Lib.hid hnl; have HNO := Lib.hid hno; have HNS := Lib.hid hns
      clear hL hw he hsucc hnl hno hns
      go_upto_region 14 with (first
        | (go_at_call 50; refine Calls.mono HE.out ?_; rintro e w2 ⟨a2, c2, rfl, hr2, hf2, hC2, hm2⟩
           have hro : w2.ownsRow 0 29 1 (.slice a no c) no (nums (movedK Lss k)) := (by have := HR.out; unfold NumRow at this; rw [HNO.out] at this; exact owns_mod this hm2 (fun g hg hk => by have := HF.out g (by rw [HNO.out]; exact hg); have := HDlt.out g hk; omega))
           have hrd : ReadAt w2 (.slice a2 nl c2) 1 (nums Ls.flatten) := (by have := num_read hr2; rw [HNL.out] at this; exact this)
           have HRO := Lib.hid hro; have HRD := Lib.hid hrd; have HC2 := Lib.hid hC2; have HM2 := Lib.hid (HM.out.trans hm2)
           clear hr2 hf2 hC2 hm2 hro hrd)
        | (at_builtin; refine wpList_append_read _ rfl _ _ 74 rfl 29 i0 _ 1 4 Tryd.underlying74 hi iz0 iz1 iz2 rfl (by decide) (.slice a no c) no _ rfl HRO.out _ (nums Ls.flatten) nl rfl HRD.out (by rw [nums_length, HNL.out, Nat.mul_one]) (by unfold maxLen; omega) (by omega) ?_; intro a7 c7 w5 hr7 hg7 hb7))
      have hmg : Mod (fun k => (Value.slice a no c).ownBlock = some k) w2 w5 := Mod.of_grown (S := fun k' => (Value.slice a no c).ownBlock = some k') hg7 (fun k e _ => e)
      have hfa : ∀ k', (Value.slice a no c).ownBlock = some k' → w.heap.size ≤ k' := fun k' e => HF.out k' (by rw [HNO.out]; exact e)
      have hC5 := HC2.out.frame hmg (fun k hk e => by have := hfa k e; have := HDlt.out k hk; omega)
      have hm5 : Mod D w w5 := HM2.out.then hmg (fun k hk e => by have := hfa k e; omega)
      have hf5 : FreshV w (.slice a7 (no + nl) c7) := fun k hk => by
        rcases hb7 with e | e
        · exact hfa k (e ▸ hk)
        · rw [e] at hk; cases hk; exact HM2.out.size
      have HC5 := Lib.hid hC5; have HM5 := Lib.hid hm5; have HF5 := Lib.hid hf5; have HR7 := Lib.hid hr7
      clear hr7 hg7 hb7 hmg hfa hC5 hm5 hf5
      go_wp2
      go_roundw
      case rel => exact ⟨k + 1, a7, c7, by go_num, hlt, by rw [HNS.out], by unfold NumRow; rw [HNS.out, HSU.out, nums_append]; exact HR7.out, by rw [HNS.out]; exact HF5.out, HC5.out, HM5.out⟩
      case measure => simp [intOf]; omega
    · have e : k = tp := by omega
      subst e
      have hw := HP2.out.wide k Lt HLt.out
      have hmv := HLE.out
      rw [List.length_append] at hmv
      have he := HEm.out wr k dg Lt (by omega) hbk HLt.out HC.out HM.out (by omega)
      have hleft : (clearL Lss k).set k (emptyL Lt (dg + 1)) = leftL Lss Lt k (dg + 1) := rfl
      rw [hleft] at he
      obtain ⟨nl, hnl⟩ : ∃ nl, (flatN Lt (dg + 1)).length = nl := ⟨_, rfl⟩
      obtain ⟨no, hno⟩ : ∃ no, (movedK Lss k).length = no := ⟨_, rfl⟩
      rw [hnl] at he hmv
      rw [hno] at hmv ⊢
      obtain ⟨mv, hmvq⟩ : ∃ mv, movedK Lss k ++ flatN Lt (dg + 1) = mv := ⟨_, rfl⟩
      have hns : mv.length = no + nl := by rw [← hmvq, List.length_append, hnl, hno]
      have hA := HA.out
      rw [hmvq] at hA
      have HE := Lib.hid he; have HNL := Lib.hid hnl; have HNO := Lib.hid hno; have HNS := Lib.hid hns; have HMV := Lib.hid hmvq; have HA2 := Lib.hid hA
      clear hw he hnl hno hns hmvq hleft hA HA HLE HLt HEm
      go_upto_region 18 with (first
        | (go_at_call 50; refine Calls.mono HE.out ?_; rintro e w2 ⟨a2, c2, rfl, hr2, hf2, hC2, hm2⟩
           have hro : w2.ownsRow 0 29 1 (.slice a no c) no (nums (movedK Lss k)) := (by have := HR.out; unfold NumRow at this; rw [HNO.out] at this; exact owns_mod this hm2 (fun g hg hk => by have := HF.out g (by rw [HNO.out]; exact hg); have := HDlt.out g hk; omega))
           have hrd : ReadAt w2 (.slice a2 nl c2) 1 (nums (flatN Lt (dg + 1))) := (by have := num_read hr2; rw [HNL.out] at this; exact this)
           have HRO := Lib.hid hro; have HRD := Lib.hid hrd; have HC2 := Lib.hid hC2; have HM2 := Lib.hid (HM.out.trans hm2)
           clear hr2 hf2 hC2 hm2 hro hrd)
        | (at_builtin; refine wpList_append_read _ rfl _ _ 74 rfl 29 i0 _ 1 4 Tryd.underlying74 hi iz0 iz1 iz2 rfl (by decide) (.slice a no c) no _ rfl HRO.out _ (nums (flatN Lt (dg + 1))) nl rfl HRD.out (by rw [nums_length, HNL.out, Nat.mul_one]) (by unfold maxLen; omega) (by omega) ?_; intro a7 c7 w5 hr7 hg7 hb7
           have hmg : Mod (fun k => (Value.slice a no c).ownBlock = some k) w2 w5 := Mod.of_grown (S := fun k' => (Value.slice a no c).ownBlock = some k') hg7 (fun k e _ => e)
           have hfa : ∀ k', (Value.slice a no c).ownBlock = some k' → w.heap.size ≤ k' := fun k' e => HF.out k' (by rw [HNO.out]; exact e)
           have hC5 := HC2.out.frame hmg (fun k hk e => by have := hfa k e; have := HDlt.out k hk; omega)
           have hm5 : Mod D w w5 := HM2.out.then hmg (fun k hk e => by have := hfa k e; omega)
           have hf5 : FreshV w (.slice a7 (no + nl) c7) := fun k hk => (by
             rcases hb7 with e | e
             · exact hfa k (e ▸ hk)
             · rw [e] at hk; cases hk; exact HM2.out.size)
           have hI5 : AvI w w5 D p tt L mv a7 c7 none 0 L [] D 0 := ⟨⟨_, _, _, _, _, _, _, hC5, HA2.out⟩, grewD.refl _ _, (by unfold NumRow; rw [HNS.out, ← HMV.out, nums_append]; exact hr7), (by rw [HNS.out]; exact fun g hg hk => by have := hf5 g hg; have := HDlt.out g hk; omega), World.ownsRow_nil _ _ _ _, (fun g hg => by cases hg), hm5⟩
           have HI5 := Lib.hid hI5
           clear hr7 hg7 hb7 hmg hfa hC5 hm5 hf5 hI5))
      have hn63 : no + nl ≤ 4194304 := hmv
      clear HRO HRD HC2 HM2 HE HNL HNO HMV HA2 HR HF HC HM hmv
      obtain ⟨n, hnn⟩ : ∃ n, no + nl = n := ⟨_, rfl⟩
      rw [hnn] at HNS hn63
      have wnn : (no : Int) + (nl : Int) = (n : Int) := by omega
      simp only [hnn, wnn] at *
      clear hnn wnn
      obtain ⟨j0, hj, jz0, jz1, jz2⟩ := info_parts info_td
      go_loopw [10, 60] (fun v10 v60 wr => ∃ (j : Nat) (ad : Option Addr) (cd : Nat) (Mj dj : List Td) (D' : Nat → Prop), v60 = .int .i64 (j : Nat) ∧ j ≤ n ∧ v10 = .slice ad dj.length cd ∧ AvI w wr D p tt L mv a7 c7 ad cd Mj dj D' j) (fun _ v60 _ => n - (intOf v60).toNat)
      case atStart => exact ⟨0, none, 0, L, [], D, rfl, Nat.zero_le _, rfl, HI5.out⟩
      case round =>
        obtain ⟨j, ad, cd, Mj, dj, D', rfl, hjn, rfl, hI⟩ := hrel
        have HI := Lib.hid hI
        obtain ⟨ws', bm', bb', Ds', Dm', Db', Lss', hC, hAv⟩ := hI.mem
        by_cases hlt2 : j < n
        · have hlt' : (j : Int) < (n : Int) := by omega
          have j0' : (0 : Int) ≤ (j : Int) := by omega
          have wj : IntKind.i64.wrap ((j : Int) + 1) = (j : Int) + 1 := IntWalk.i64_in _ (by omega)
          obtain ⟨s, hs⟩ : ∃ s, mv[j]? = some s := ⟨_, List.getElem?_eq_getElem (by rw [HNS.out]; exact hlt2)⟩
          have hdr : mv.drop j = s :: mv.drop (j + 1) := by
            have hjl : j < mv.length := by rw [HNS.out]; exact hlt2
            rw [List.drop_eq_getElem_cons hjl]
            rw [List.getElem?_eq_getElem hjl] at hs
            injection hs with hs
            rw [hs]
          obtain ⟨ad0, had, z0⟩ := read_num (num_read hI.row) hs
          rw [hdr] at hAv
          obtain ⟨x, hx, hxs⟩ := hAv.has s List.mem_cons_self
          subst had
          obtain ⟨r1, r2, r3, r4⟩ := hAv.inv.rng x hx
          subst hxs
          have hlk := hC.what.look1 hx (by omega)
          unfold tdV at hlk
          have hdu := due_ok x.dl tt r2
          have HDU := Lib.hid hdu
          obtain ⟨c0, c9, c10, cf, cl⟩ := hC.box.cells
          have hal : Pure wr (wr.alloc (.cells #[.int .u32 x.slot, .int .u64 x.dl, .int .u64 x.birth] 31)) := (Mod.refl _ wr).alloc _
          have h13 := heap_new (w := wr) (o := .cells #[.int .u32 x.slot, .int .u64 x.dl, .int .u64 x.birth] 31 (0, 0)) rfl
          have HX := Lib.hid hx; have HAv := Lib.hid hAv; have HCm := Lib.hid hC; have HDR := Lib.hid hdr; have HAL := Lib.hid hal
          have hDl : ∀ k, D' k → k < wr.heap.size := fun k hk => hC.lt hk
          have HDL := Lib.hid hDl
          have hmvw : ∀ g, (Value.slice (some ad0) mv.length c7).ownBlock = some g → g < wr.heap.size := fun g hg => owns_lt HI.out.row hg
          have hduw : ∀ g, (Value.slice ad dj.length cd).ownBlock = some g → g < wr.heap.size := fun g hg => owns_lt HI.out.due hg
          have HMVW := Lib.hid hmvw; have HDUW := Lib.hid hduw
          clear hx hAv hC hdr hal hI hDl hmvw hduw
          go_upto_region 21 with fail
          generalize wr.alloc (.cells #[.int .u32 x.slot, .int .u64 x.dl, .int .u64 x.birth] 31) = W3 at *
          obtain ⟨b13, hb13⟩ : ∃ b13, wr.heap.size = b13 := ⟨_, rfl⟩
          rw [hb13] at h13 HDL HMVW HDUW ⊢
          have HB13 := Lib.hid hb13
          have H13 := Lib.hid h13
          clear hlk c0 c9 c10 cf cl z0 hb13 hs
          have h13_0 := cell_of_row _ _ 0 _ _ _ h13; have h13_1 := cell_of_row _ _ 1 _ _ _ h13; have h13_2 := cell_of_row _ _ 2 _ _ _ h13; have h13_f := (fun j => frozen_of_row _ _ j _ _ h13); have h13_l := lt_of_block h13; simp at h13_0 h13_1 h13_2; have H_h13 := Lib.hid h13; clear h13
          by_cases hd : x.dl ≤ tt
          · simp only [decide_eq_true hd] at HDU
            have hp := perm_filter_slot HAv.out.inv HX.out
            obtain ⟨M2, hM2⟩ : ∃ M2, Mj.filter (fun y => y.slot != x.slot) = M2 := ⟨_, rfl⟩
            rw [hM2] at hp
            obtain ⟨_, q1, q2, _, q4⟩ := HAv.out.inv.without hp
            have hgo := HAv.out.go rfl hd hp
            have hfo := fun (W : World) (hW : Pure W3 W) => cforget_ok ((HCm.out.pure HAL.out).pure hW) HX.out (by omega) r4 q1 q2 q4
            unfold tdV at hfo
            have hdl : dj.length + 1 ≤ 4194304 := by
              have e1 := hgo.perm.length_eq
              have e2 := HP2.out.count
              simp at e1
              omega
            obtain ⟨nd, hnd⟩ : ∃ nd, dj.length = nd := ⟨_, rfl⟩
            rw [hnd] at hdl ⊢
            have HND := Lib.hid hnd
            have HFo := Lib.hid hfo; have HGo := Lib.hid hgo
            have hbmD : D' bm' ∧ D' bb' := ⟨(HCm.out.dd bm').2 (.inr (.inl rfl)), (HCm.out.dd bb').2 (.inr (.inr (.inl rfl)))⟩
            have HBD := Lib.hid hbmD
            clear hp hM2 q1 q2 q4 hgo hfo hbmD hnd
            go_upto_region 24 with (first
              | (go_at_call 51; refine Calls.mono (HDU.out _) ?_; rintro e w' ⟨rfl, rfl⟩)
              | (go_at_call 52; refine Calls.mono (HFo.out _ (by first | exact Mod.refl _ _ | exact (Mod.refl _ _).drew)) ?_; rintro e w5 ⟨rfl, ⟨Dm2, Db2, hC2⟩, hm2⟩))
            have hm5 : Mod (fun k => k = bm' ∨ k = bb') W3 w5 := by first | exact hm2 | exact Mod.of_drew hm2
            have h5D : Mod D' W3 w5 := hm5.mono (fun k _ e => by rcases e with rfl | rfl; exact HBD.out.1; exact HBD.out.2)
            have h135 := h5D.heap (fun e => by have := HDL.out b13 e; omega) H13.out
            have hmw : Mod D' wr w5 := (Mod.of_pure HAL.out).trans h5D
            have hrow5 := owns_mod HI.out.row hmw HI.out.off
            have hdue5 := owns_mod HI.out.due hmw (fun g hg => (HI.out.fresh g hg).1)
            rw [HND.out] at hdue5
            have HR5 := Lib.hid hrow5; have HD5 := Lib.hid hdue5; have HMW := Lib.hid hmw; have HC2 := Lib.hid hC2; have H135 := Lib.hid h135
            clear h13_0 h13_1 h13_2 h13_f h13_l
            clear H_h13 hm2 hm5 h5D hmw hrow5 hdue5 hC2
            have h135_0 := cell_of_row _ _ 0 _ _ _ h135; have h135_1 := cell_of_row _ _ 1 _ _ _ h135; have h135_2 := cell_of_row _ _ 2 _ _ _ h135; have h135_f := (fun j => frozen_of_row _ _ j _ _ h135); have h135_l := lt_of_block h135; simp at h135_0 h135_1 h135_2; have H_h135 := Lib.hid h135; clear h135
            go_upto_region 25 with (at_builtin; refine wpList_append_read _ rfl _ _ 28 rfl 31 j0 _ 3 24 Tryd.underlying28 hj jz0 jz1 jz2 rfl (by decide) (.slice ad nd cd) nd _ rfl (owns_mod HD5.out ((Mod.refl (fun _ => False) w5).alloc _) (fun _ _ h => h)) _ [.int .u32 x.slot, .int .u64 x.dl, .int .u64 x.birth] 1 rfl (ReadAt.of_block 1 1 3 (heap_new rfl) (by rfl) (by simp [Value.oneCell'])) rfl (by unfold maxLen; omega) (by omega) ?_; intro a8 c8 w6 hr8 hg8 hb8)
            have hmg : Mod (fun k => (Value.slice ad nd cd).ownBlock = some k) w5 w6 := ((Mod.refl _ w5).alloc _).then (Mod.of_grown (S := fun k' => (Value.slice ad nd cd).ownBlock = some k') hg8 (fun k e _ => e)) (fun _ _ h => h)
            have hfr := HI.out.fresh
            rw [HND.out] at hfr
            have hsz5 := HMW.out.size
            have hszw := HI.out.mod.size
            have hal5 : w5.heap.size < (w5.alloc (.cells #[.int .u32 x.slot, .int .u64 x.dl, .int .u64 x.birth] 31)).heap.size := by simp
            have hI6 : AvI w w6 D p tt L mv (some ad0) c7 a8 c8 M2 (dj ++ [x]) D' (j + 1) := ⟨⟨_, _, _, _, _, _, _, HC2.out.frame hmg (fun k hk e => (hfr k e).1 hk), HGo.out⟩, HI.out.grew,
              owns_mod HR5.out hmg (fun g hg e => owns_apart HR5.out HD5.out (by decide) hg e), HI.out.off,
              (by
                show World.ownsRow _ 0 _ 3 (.slice a8 (dj ++ [x]).length c8) (dj ++ [x]).length ((dj ++ [x]).flatMap tdC)
                rw [List.length_append, HND.out, List.flatMap_append]
                exact hr8), fun g hg => (by
                rw [List.length_append, HND.out] at hg
                rcases hb8 with e | e
                · exact hfr g (e ▸ hg)
                · have hg' : (Value.slice a8 (nd + 1) c8).ownBlock = some g := hg
                  rw [e] at hg'
                  cases hg'
                  refine ⟨fun hk => ?_, by omega⟩
                  have := HDL.out _ hk
                  have := HB13.out
                  omega),
              (HI.out.mod.trans' HMW.out (fun _ _ h => h) (fun k hk h => (by
                rcases HI.out.grew k h with e | e
                · exact e
                · omega))).then hmg (fun k hk e => by have := (hfr k e).2; omega)⟩
            have hnx : (dj ++ [x]).length = nd + 1 := by rw [List.length_append, HND.out]; rfl
            have HI6 := Lib.hid hI6; have HNX := Lib.hid hnx
            clear hr8 hg8 hb8 hmg hfr hsz5 hszw hI6 hnx hal5
            go_wp2
            go_roundw
            case rel => exact ⟨j + 1, a8, c8, M2, dj ++ [x], D', by go_num, hlt2, by rw [HNX.out], HI6.out⟩
            case measure => simp [intOf]; omega
          · simp only [decide_eq_false hd] at HDU
            obtain ⟨Ls, B, hL, hK⟩ := HAv.out.inv.get (lvl_spec ht (dl := x.dl) (by omega)).1 (bkt_lt (now := tt) (dl := x.dl))
            have hst := HAv.out.stay HX.out rfl (by omega) hL hK
            have hpu := fun (W : World) (hW : Pure W3 W) => cput_ok ((HCm.out.pure HAL.out).pure hW) (x := x) (M' := Mj) r1 (by omega) r4 (by omega) (by have := HAv.out.inv.count; unfold maxLen; omega) hL hK (HAv.out.inv.notL (fun y hy e => List.mem_cons_self) hL) (.inr ⟨HX.out, fun y hy e => HAv.out.inv.slots y hy x HX.out e, rfl⟩)
            unfold tdV at hpu
            have HPu := Lib.hid hpu; have HSt := Lib.hid hst
            clear hL hK hst hpu
            go_upto_region 25 with (first
              | (go_at_call 51; refine Calls.mono (HDU.out _) ?_; rintro e w' ⟨rfl, rfl⟩)
              | (go_at_call 48; refine Calls.mono (HPu.out _ (by first | exact Mod.refl _ _ | exact (Mod.refl _ _).drew)) ?_; rintro e w5 ⟨rfl, ⟨D2, Ds2, Dm2, Db2, hC2, hg2⟩, hm2⟩))
            have hm5 : Mod D' W3 w5 := by first | exact hm2 | exact Mod.of_drew hm2
            have hg5 : ∀ k, D2 k → D' k ∨ b13 ≤ k := fun k hk => by
              have e1 := HAL.out.size
              have e2 := HB13.out
              rcases hg2 k hk with e | e
              · exact .inl e
              · have e' : W3.heap.size ≤ k := e
                exact .inr (by omega)
            have hmw : Mod D' wr w5 := (Mod.of_pure HAL.out).trans hm5
            have hszw := HI.out.mod.size
            have hI5 : AvI w w5 D p tt L mv (some ad0) c7 ad cd Mj dj D2 (j + 1) := ⟨⟨_, _, _, _, _, _, _, hC2, HSt.out⟩, fun k hk => (by
                rcases hg5 k hk with e | e
                · exact HI.out.grew k e
                · have := HB13.out; exact .inr (by omega)),
              owns_mod HI.out.row hmw HI.out.off, fun g hg hk => (by
                rcases hg5 g hk with e | e
                · exact HI.out.off g hg e
                · have := HMVW.out g hg; omega),
              owns_mod HI.out.due hmw (fun g hg => (HI.out.fresh g hg).1), fun g hg => ⟨fun hk => (by
                rcases hg5 g hk with e | e
                · exact (HI.out.fresh g hg).1 e
                · have := HDUW.out g hg; omega), (HI.out.fresh g hg).2⟩,
              HI.out.mod.trans' hmw (fun _ _ h => h) (fun k hk h => (by
                rcases HI.out.grew k h with e | e
                · exact e
                · omega))⟩
            have HI5b := Lib.hid hI5
            clear hm2 hg2 hC2 hm5 hg5 hmw hszw hI5
            go_wp2
            go_roundw
            case rel => exact ⟨j + 1, ad, cd, Mj, dj, D2, by go_num, hlt2, rfl, HI5b.out⟩
            case measure => simp [intOf]; omega
        · have e : j = n := by omega
          subst e
          have hd0 : mv.drop j = [] := List.drop_of_length_le (by rw [HNS.out]; exact Nat.le_refl _)
          rw [hd0] at hAv
          obtain ⟨hinv, hrest⟩ := hAv.fin
          obtain ⟨e1, e2⟩ := adv_end HS.out hAv.perm hAv.due hrest
          have hLm : ∀ x ∈ dj, x ∈ L := fun x hx => hAv.perm.mem_iff.1 (List.mem_append_right _ hx)
          have hso := sort_ok hI.due (by have := hAv.perm.length_eq; have := HP2.out.count; simp at *; omega) (fun x hx y hy e => HP2.out.births x (hLm x hx) y (hLm y hy) e) (by
            have := hAv.perm.nodup_iff.2 HP2.out.ndM
            rw [List.nodup_append] at this
            exact this.2.1)
          have HSo := Lib.hid hso; have HCm := Lib.hid hC; have HInv := Lib.hid hinv; have HE1 := Lib.hid e1; have HE2 := Lib.hid e2
          clear hI hC hAv hd0 hinv hrest e1 e2 hLm hso
          go_wp2_with (go_at_call 53; refine Calls.mono HSo.out ?_; rintro e w9 ⟨rfl, d', s1, s2, s3, hr9, hm9⟩)
          have hdq : d' = dueL tt L := sorted_uniq s1 (HS.out.sublist (List.takeWhile_sublist _)) (s2.trans HE1.out)
          rw [hdq] at hr9 s3
          have hmD : Mod D w w9 := HI.out.mod.then hm9 (fun k hk e => by have := (HI.out.fresh k e).2; omega)
          refine bodyPost_ret (v := .tuple #[.slice ad dj.length cd, .int .i64 0]) (by simp [results, Tryd.results16, go_sem]) rfl ⟨ad, cd, by rw [s3], hr9, ⟨D', ⟨_, _, _, _, _, _, _, (HCm.out.frame hm9 (fun k hk e => (HI.out.fresh k e).1 hk)).perm HE2.out, HInv.out.perm HE2.out, HS.out.sublist (List.dropWhile_sublist _)⟩, HI.out.grew, fun g hg => HI.out.fresh g (by rw [← s3]; exact hg)⟩, hmD⟩
end
end Go.Proofs.YtlalpenfgkfkpaaDoor

/- law20: timed, where, advances. Conditions: the cascade lies in memory, the list that is expected is read. -/
namespace Go.Proofs.YtlalpenfgkfkpaaDoor
open Go.RowKit
set_option maxRecDepth 100000
theorem timed_ok (s d b : Nat) (w : World) : Calls Tryd.prog 12 #[.int .u32 s, .int .u64 d, .int .u64 b] w fun e w' => e = .returned (tdV ⟨s, d, b⟩) ∧ Pure w w' := by
  have hal : Pure w (w.alloc (.cells #[.int .u32 0, .int .u64 0, .int .u64 0] 31)) := (Mod.refl _ w).alloc _
  have h6 := heap_new (w := w) (o := .cells #[.int .u32 0, .int .u64 0, .int .u64 0] 31 (0, 0)) rfl
  obtain ⟨b6, hb6⟩ : ∃ b6, w.heap.size = b6 := ⟨_, rfl⟩
  have HAL := Lib.hid hal
  clear hal
  go_enter Tryd.func12, Tryd.ntmps12
  go_upto_region 1 with fail
  generalize w.alloc (.cells #[.int .u32 0, .int .u64 0, .int .u64 0] 31) = W1 at *
  (try rw [hb6] at h6)
  have HB6 := Lib.hid hb6
  clear hb6
  have h6_0 := cell_of_row _ _ 0 _ _ _ h6; have h6_1 := cell_of_row _ _ 1 _ _ _ h6; have h6_2 := cell_of_row _ _ 2 _ _ _ h6; have h6_f := (fun j => frozen_of_row _ _ j _ _ h6); have h6_l := lt_of_block h6; simp at h6_0 h6_1 h6_2; have H_h6 := Lib.hid h6; clear h6
  go_wp2
  have hm : Mod (fun k => k = b6) W1 (((W1.setCell ⟨b6, 0, none⟩ (.int .u32 s)).setCell ⟨b6, 1, none⟩ (.int .u64 d)).setCell ⟨b6, 2, none⟩ (.int .u64 b)) :=
    (((Mod.refl (fun k => k = b6) W1).setCell (p := ⟨b6, 0, none⟩) (fun _ => rfl) _).setCell (p := ⟨b6, 1, none⟩) (fun _ => rfl) _).setCell (p := ⟨b6, 2, none⟩) (fun _ => rfl) _
  have hp := HAL.out.then hm (fun k hk e => by have := HB6.out; omega)
  exact bodyPost_ret (v := tdV ⟨s, d, b⟩) (by simp [results, Tryd.results12, go_sem, h6_0, h6_1, h6_2, h6_l, tdV]) rfl ⟨rfl, hp⟩
section
variable {w w' : World} {D : Nat → Prop} {p now tt : Nat} {L : List Td}
/-- What Advance gives, and leaves. -/
def aErr (now tt : Nat) : Int := if tt < now then 3 else 0
def aOut (now tt : Nat) (L : List Td) : List Td := if now < tt then dueL tt L else []
def aNow (now tt : Nat) : Nat := if now < tt then tt else now
def aRest (now tt : Nat) (L : List Td) : List Td := if now < tt then restL tt L else L
theorem CasAt.advAny (h : CasAt w D p now L) (hT : TabW w) (h0 : ¬ D 0) (ht : tt < 18446744073709551616) :
    Calls Tryd.prog 16 #[lkP p, .int .u64 tt] w fun e w' => ∃ a c, e = .returned (.tuple #[.slice a (aOut now tt L).length c, .int .i64 (aErr now tt)]) ∧ TdRow w' a c (aOut now tt L) ∧ (∃ D', CasAt w' D' p (aNow now tt) (aRest now tt L) ∧ grewD D D' w ∧ ∀ g, (Value.slice a (aOut now tt L).length c).ownBlock = some g → ¬ D' g ∧ w.heap.size ≤ g) ∧ Mod D w w' := by
  unfold aErr aOut aNow aRest
  by_cases hn : now < tt
  · rw [if_pos hn, if_pos hn, if_pos hn, if_neg (by omega)]
    exact h.adv hT h0 hn ht
  · rw [if_neg hn, if_neg hn, if_neg hn]
    refine (h.adv_no (tt := tt) (by omega)).mono ?_
    rintro e w' ⟨rfl, rfl⟩
    exact ⟨none, 0, rfl, World.ownsRow_nil _ _ _ _, ⟨D, h, grewD.refl _ _, fun g hg => by cases hg⟩, Mod.refl _ _⟩
theorem CasAt.count (h : CasAt w D p now L) : L.length ≤ 4194304 := by
  obtain ⟨ws, bm, bb, Ds, Dm, Db, Lss, h1, h2, h3⟩ := h
  exact h2.count
theorem aOut_le : (aOut now tt L).length ≤ L.length := by
  unfold aOut dueL
  split
  · exact (List.takeWhile_sublist _).length_le
  · exact Nat.zero_le _
/-- The table and the cascade, apart. -/
structure CasT (w : World) (D : Nat → Prop) (p now : Nat) (L : List Td) : Prop where
  at_ : CasAt w D p now L
  tab : TabW w
  off : ¬ D 0
theorem CasT.frame {S : Nat → Prop} (h : CasT w D p now L) (hm : Mod S w w') (hd : ∀ k, D k → ¬ S k) (h0 : ¬ S 0) : CasT w' D p now L := ⟨h.at_.frame hm hd, h.tab.mod hm h0, h.off⟩
theorem CasT.pure (h : CasT w D p now L) (hm : Pure w w') : CasT w' D p now L := h.frame hm (fun _ _ h => h) (fun h => h)
theorem CasT.next {D' : Nat → Prop} {now' : Nat} {L' : List Td} (h : CasT w D p now L) (hc : CasAt w' D' p now' L') (hg : grewD D D' w) (hm : Mod D w w') : CasT w' D' p now' L' :=
  ⟨hc, h.tab.mod hm h.off, fun e => by
    rcases hg 0 e with e | e
    · exact h.off e
    · have := h.tab.lt; omega⟩
theorem advances_ok (h : CasT w D p now L) (ht : tt < 18446744073709551616) {a2 : Option Addr} {n2 c2 : Nat} (hn2 : n2 = (aOut now tt L).length) (hw : ReadAt w (.slice a2 n2 c2) 3 ((aOut now tt L).flatMap tdC)) (hwD : ∀ g, rdBlock (.slice a2 n2 c2) = some g → ¬ D g) {er : Int} (he : er = aErr now tt) :
    Calls Tryd.prog 22 #[lkP p, .int .u64 tt, .slice a2 n2 c2, .int .i64 er] w fun e w' => e = .returned (.bool true) ∧ (∃ D', CasT w' D' p (aNow now tt) (aRest now tt L) ∧ grewD D D' w) ∧ Mod D w w' := by
  subst hn2 he
  have HAd := Lib.hid (h.at_.advAny h.tab h.off ht)
  have hle := Nat.le_trans (aOut_le (now := now) (tt := tt) (L := L)) h.at_.count
  have HH := Lib.hid h
  have HW := Lib.hid hw; have HWD := Lib.hid hwD
  obtain ⟨lo, hlo⟩ : ∃ lo, aOut now tt L = lo := ⟨_, rfl⟩
  obtain ⟨er, her⟩ : ∃ er, aErr now tt = er := ⟨_, rfl⟩
  rw [hlo, her] at HAd
  rw [hlo] at HW HWD hle
  rw [hlo, her]
  obtain ⟨n, hn⟩ : ∃ n, lo.length = n := ⟨_, rfl⟩
  rw [hn] at HAd HW HWD hle
  rw [hn]
  have HN := Lib.hid hn
  clear h hw hwD hlo her hn
  go_enter Tryd.func22, Tryd.ntmps22
  go_upto_region 2 with (go_at_call 16; refine Calls.mono HAd.out ?_; rintro e w1 ⟨a1, c1, rfl, hr1, ⟨D1, hC1, hg1, hf1⟩, hm1⟩)
  have hS := rsame_ok (L := lo) (by have : ReadAt w1 (.slice a1 lo.length c1) 3 (lo.flatMap tdC) := hr1.rd; rw [HN.out] at this; exact this) (HW.out.frame hm1 HWD.out) HN.out hle
  have HSm := Lib.hid hS
  have HC1 := Lib.hid (HH.out.next hC1 hg1 hm1); have HG1 := Lib.hid hg1; have HM1 := Lib.hid hm1
  clear hr1 hC1 hg1 hf1 hm1 hS
  go_wp2_with (go_at_call 17; refine Calls.mono HSm.out ?_; rintro e w2 ⟨rfl, hp2⟩)
  go_ret
  exact ⟨rfl, ⟨D1, HC1.out.pure hp2, HG1.out⟩, HM1.out.trans (Mod.of_pure hp2)⟩
theorem where_ok (h : CasAt w D p now L) {s : Nat} (h32 : s ≤ 4294967295) {l b er : Int} (he : whE now L s = .tuple #[.int .i64 l, .int .i64 b, .int .i64 er]) :
    Calls Tryd.prog 26 #[lkP p, .int .u32 s, .int .i64 l, .int .i64 b, .int .i64 er] w fun e w' => e = .returned (.bool true) ∧ Pure w w' := by
  have hw := h.where_ h32
  rw [he] at hw
  have HW := Lib.hid hw
  clear h hw he
  go_enter Tryd.func26, Tryd.ntmps26
  go_wp2_with (go_at_call 63; refine Calls.mono HW.out ?_; rintro e w2 ⟨rfl, hp2⟩)
  go_ret
  exact ⟨rfl, hp2⟩
end
end Go.Proofs.YtlalpenfgkfkpaaDoor

/- law20.is. Conditions: the cascade lies in memory, the reference's list is read. -/
namespace Go.Proofs.YtlalpenfgkfkpaaDoor
open Go.RowKit Go.Shelf
set_option maxRecDepth 100000
section
variable {w : World} {D : Nat → Prop} {p : Nat} {a : Option Addr} {n c now s : Nat} {L : List Td} {x : Td}
theorem get_self (h : CasAt w D p now L) (hx : x ∈ L) : getT L x.slot = (x, 0) ∧ whE now L x.slot = .tuple #[.int .i64 (lvl now x.dl : Nat), .int .i64 (bkt now x.dl : Nat), .int .i64 0] := by
  have h1 : getT L x.slot = (x, 0) := by
    rcases getT_cases L x.slot with ⟨hs, hh, y, e1, e2, e3, e4, e5⟩ | ⟨hs, _⟩
    · have hy : y ∈ L := e5.mem_iff.2 List.mem_cons_self
      rw [h.uniq.1 y hy x hx e2] at e1
      exact e1
    · rcases hs with hs | hs
      · exact absurd (h.rng x hx).1 hs
      · rw [hasB_iff.2 ⟨x, hx, rfl⟩] at hs; cases hs
  refine ⟨h1, ?_⟩
  unfold whE
  rw [h1]
  rfl
theorem get_none (h : ¬ (s < 4194304 ∧ hasB L s = true)) : getT L s = (zTd, if s < 4194304 then 9 else 2) ∧ whE now L s = .tuple #[.int .i64 0, .int .i64 0, .int .i64 (if s < 4194304 then 9 else 2)] := by
  have h1 : getT L s = (zTd, if s < 4194304 then 9 else 2) := by
    by_cases hs : s < 4194304
    · rw [if_pos hs]
      have : hasB L s = false := by cases hb : hasB L s with | false => rfl | true => exact absurd ⟨hs, hb⟩ h
      exact getT_miss hs (find_none this)
    · rw [if_neg hs]
      exact getT_arg hs
  refine ⟨h1, ?_⟩
  unfold whE
  rw [h1, if_neg]
  dsimp only
  split <;> decide
set_option maxHeartbeats 2000000 in
theorem is_ok (h : CasT w D p now L) (hr : RdL w a n c L) (h32 : s ≤ 4294967295) :
    Calls Tryd.prog 23 #[lkP p, whV now a n c, .int .u32 s] w fun e w' => e = .returned (.bool true) ∧ Pure w w' := by
  have hn := h.at_.count
  rw [hr.len] at hn
  have HNx := Lib.hid (fun (u : World) (hq : Pure w u) => (h.pure hq).at_.next (h.pure hq).tab)
  have HNo := Lib.hid (fun (u : World) (hq : Pure w u) => (h.pure hq).at_.now_)
  have HLe := Lib.hid (fun (u : World) (hq : Pure w u) => (h.pure hq).at_.len_)
  have hrn := fun (u : World) (hq : Pure w u) => rnext_ok (now := now) (hr.pure hq).rd hr.len
  unfold whV at hrn ⊢
  have HRn := Lib.hid hrn
  have hal : Pure w (w.alloc (.cells #[.int .u64 now, .slice a n c] 45)) := (Mod.refl _ w).alloc _
  have hb := heap_new (w := w) (o := .cells #[.int .u64 now, .slice a n c] 45 (0, 0)) rfl
  have HH := Lib.hid h; have HR := Lib.hid hr; have HAL := Lib.hid hal
  have hlen := hr.len
  rw [hlen] at HLe
  clear h hr hrn hal hlen
  go_enter Tryd.func23, Tryd.ntmps23
  go_upto_region 1 with fail
  generalize w.alloc (.cells #[.int .u64 now, .slice a n c] 45) = W1 at *
  obtain ⟨b, hbe⟩ : ∃ b, w.heap.size = b := ⟨_, rfl⟩
  rw [hbe] at hb ⊢
  have HBE := Lib.hid hbe
  obtain ⟨x0, x1⟩ := whbox hb
  have HB := Lib.hid hb
  clear hb hbe
  have hk : ∀ u, Pure W1 u → u.cell? ⟨b, 0, none⟩ = some (.int .u64 now) ∧ u.cell? ⟨b, 1, none⟩ = some (.slice a n c) := fun u hq => ⟨hq.cell (fun h => h) x0, hq.cell (fun h => h) x1⟩
  have HKx := Lib.hid hk
  clear hk
  have HX := Lib.hid (And.intro x0 x1)
  refine wp_region_held_drew (S := fun u => u.cell? ⟨b, 0, none⟩ = some (.int .u64 now) ∧ u.cell? ⟨b, 1, none⟩ = some (.slice a n c)) (by kernel_rfl) HX.out (fun hHeld => ?_)
  ((refine wpAnyH_take (i := 0) (v := ?_) rfl (by kernel_rfl) (by kernel_rfl) (by kernel_rfl) (fun _ _ _ h => h) (Yields.yieldsIf (Or.inl ⟨by rfl, ?_⟩)) hHeld ?_; rotate_left 1; focus (intro w; go_simp; try with_reducible rfl)); try simp only [Act.put, List.getElem_toArray, List.getElem_cons_zero, List.getElem_cons_succ, List.setIfInBounds_toArray, List.set_cons_zero, List.set_cons_succ])
  ((refine wpAnyH_take (i := 2) (v := ?_) rfl (by kernel_rfl) (by kernel_rfl) (by kernel_rfl) (fun _ _ _ h => h) (Or.inl ⟨by rfl, ?_⟩) hHeld ?_; rotate_left 1; focus (intro w hS; obtain ⟨s0, s1⟩ := hS; go_simp; try with_reducible rfl)); try simp only [Act.put, List.getElem_toArray, List.getElem_cons_zero, List.getElem_cons_succ, List.setIfInBounds_toArray, List.set_cons_zero, List.set_cons_succ])
  ((refine wpAnyH_ready (rs := [1]) (by kernel_rfl) (by simp) ?_; refine AllReadyH.cons rfl (fun K hK => ?_) AllReadyH.nil; go_simp; refine Calls.mono (HNx.out _ (HAL.out.drew)) ?_; rintro e u1 ⟨rfl, hq1⟩; refine hK.out _ _ ?_ (fun hHeld => ?_); (· exact HKx.out _ (Mod.of_drew hq1)); clear hK K); try simp only [Act.put, List.getElem_toArray, List.getElem_cons_zero, List.getElem_cons_succ, List.setIfInBounds_toArray, List.set_cons_zero, List.set_cons_succ])
  ((refine wpAnyH_ready (rs := [3]) (by kernel_rfl) (by simp) ?_; refine AllReadyH.cons rfl (fun K hK => ?_) AllReadyH.nil; go_simp; refine Calls.mono (HRn.out _ (HAL.out.trans (Mod.of_drew hq1))) ?_; rintro e u2 ⟨rfl, hq2⟩; refine hK.out _ _ ?_ (fun hHeld => ?_); (· exact HKx.out _ ((Mod.of_drew hq1).trans hq2)); clear hK K); try simp only [Act.put, List.getElem_toArray, List.getElem_cons_zero, List.getElem_cons_succ, List.setIfInBounds_toArray, List.set_cons_zero, List.set_cons_succ])
  ((refine wpAnyH_take (i := 4) (v := ?_) rfl (by kernel_rfl) (by kernel_rfl) (by kernel_rfl) (fun _ _ _ h => h) (Yields.yieldsIf (Or.inl ⟨by rfl, ?_⟩)) hHeld ?_; rotate_left 1; focus (intro w; go_simp; try with_reducible rfl)); try simp only [Act.put, List.getElem_toArray, List.getElem_cons_zero, List.getElem_cons_succ, List.setIfInBounds_toArray, List.set_cons_zero, List.set_cons_succ])
  ((refine wpAnyH_take (i := 5) (v := ?_) rfl (by kernel_rfl) (by kernel_rfl) (by kernel_rfl) (fun _ _ _ h => h) (Yields.yieldsIf (Or.inl ⟨by rfl, ?_⟩)) hHeld ?_; rotate_left 1; focus (intro w; go_simp; try with_reducible rfl)); try simp only [Act.put, List.getElem_toArray, List.getElem_cons_zero, List.getElem_cons_succ, List.setIfInBounds_toArray, List.set_cons_zero, List.set_cons_succ])
  ((refine wpAnyH_take (i := 6) (v := ?_) rfl (by kernel_rfl) (by kernel_rfl) (by kernel_rfl) (fun _ _ _ h => h) (Yields.yieldsIf (Or.inl ⟨by rfl, ?_⟩)) hHeld ?_; rotate_left 1; focus (intro w; go_simp; try with_reducible rfl)); try simp only [Act.put, List.getElem_toArray, List.getElem_cons_zero, List.getElem_cons_succ, List.setIfInBounds_toArray, List.set_cons_zero, List.set_cons_succ])
  ((refine wpAnyH_take (i := 8) (v := ?_) rfl (by kernel_rfl) (by kernel_rfl) (by kernel_rfl) (fun _ _ _ h => h) (Yields.yieldsIf (Or.inl ⟨by rfl, ?_⟩)) hHeld ?_; rotate_left 1; focus (intro w; go_simp; try with_reducible rfl)); try simp only [Act.put, List.getElem_toArray, List.getElem_cons_zero, List.getElem_cons_succ, List.setIfInBounds_toArray, List.set_cons_zero, List.set_cons_succ])
  ((refine wpAnyH_take (i := 9) (v := ?_) rfl (by kernel_rfl) (by kernel_rfl) (by kernel_rfl) (fun _ _ _ h => h) (Or.inl ⟨by rfl, ?_⟩) hHeld ?_; rotate_left 1; focus (intro w hS; obtain ⟨s0, s1⟩ := hS; go_simp; try with_reducible rfl)); try simp only [Act.put, List.getElem_toArray, List.getElem_cons_zero, List.getElem_cons_succ, List.setIfInBounds_toArray, List.set_cons_zero, List.set_cons_succ])
  ((refine wpAnyH_ready (rs := [7]) (by kernel_rfl) (by simp) ?_; refine AllReadyH.cons rfl (fun K hK => ?_) AllReadyH.nil; go_simp; refine Calls.mono (HNo.out _ (HAL.out.trans ((Mod.of_drew hq1).trans hq2))) ?_; rintro e u3 ⟨rfl, rfl⟩; refine hK.out _ _ ?_ (fun hHeld => ?_); (· exact HKx.out _ ((Mod.of_drew hq1).trans hq2)); clear hK K); try simp only [Act.put, List.getElem_toArray, List.getElem_cons_zero, List.getElem_cons_succ, List.setIfInBounds_toArray, List.set_cons_zero, List.set_cons_succ])
  ((refine wpAnyH_take (i := 10) (v := ?_) rfl (by kernel_rfl) (by kernel_rfl) (by kernel_rfl) (fun _ _ _ h => h) (Yields.yieldsIf (Or.inl ⟨by rfl, ?_⟩)) hHeld ?_; rotate_left 1; focus (intro w; go_simp; try with_reducible rfl)); try simp only [Act.put, List.getElem_toArray, List.getElem_cons_zero, List.getElem_cons_succ, List.setIfInBounds_toArray, List.set_cons_zero, List.set_cons_succ])
  ((refine wpAnyH_take (i := 11) (v := ?_) rfl (by kernel_rfl) (by kernel_rfl) (by kernel_rfl) (fun _ _ _ h => h) (Yields.yieldsIf (Or.inl ⟨by rfl, ?_⟩)) hHeld ?_; rotate_left 1; focus (intro w; go_simp; try with_reducible rfl)); try simp only [Act.put, List.getElem_toArray, List.getElem_cons_zero, List.getElem_cons_succ, List.setIfInBounds_toArray, List.set_cons_zero, List.set_cons_succ])
  ((refine wpAnyH_take (i := 12) (v := ?_) rfl (by kernel_rfl) (by kernel_rfl) (by kernel_rfl) (fun _ _ _ h => h) (Yields.yieldsIf (Or.inl ⟨by rfl, ?_⟩)) hHeld ?_; rotate_left 1; focus (intro w; go_simp; try with_reducible rfl)); try simp only [Act.put, List.getElem_toArray, List.getElem_cons_zero, List.getElem_cons_succ, List.setIfInBounds_toArray, List.set_cons_zero, List.set_cons_succ])
  ((refine wpAnyH_take (i := 13) (v := ?_) rfl (by kernel_rfl) (by kernel_rfl) (by kernel_rfl) (fun _ _ _ h => h) (Yields.yieldsIf (Or.inl ⟨by rfl, ?_⟩)) hHeld ?_; rotate_left 1; focus (intro w; go_simp; try with_reducible rfl)); try simp only [Act.put, List.getElem_toArray, List.getElem_cons_zero, List.getElem_cons_succ, List.setIfInBounds_toArray, List.set_cons_zero, List.set_cons_succ])
  ((refine wpAnyH_take (i := 15) (v := ?_) rfl (by kernel_rfl) (by kernel_rfl) (by kernel_rfl) (fun _ _ _ h => h) (Yields.yieldsIf (Or.inl ⟨by rfl, ?_⟩)) hHeld ?_; rotate_left 1; focus (intro w; go_simp; try with_reducible rfl)); try simp only [Act.put, List.getElem_toArray, List.getElem_cons_zero, List.getElem_cons_succ, List.setIfInBounds_toArray, List.set_cons_zero, List.set_cons_succ])
  ((refine wpAnyH_take (i := 16) (v := ?_) rfl (by kernel_rfl) (by kernel_rfl) (by kernel_rfl) (fun _ _ _ h => h) (Or.inl ⟨by rfl, ?_⟩) hHeld ?_; rotate_left 1; focus (intro w hS; obtain ⟨s0, s1⟩ := hS; go_simp; try with_reducible rfl)); try simp only [Act.put, List.getElem_toArray, List.getElem_cons_zero, List.getElem_cons_succ, List.setIfInBounds_toArray, List.set_cons_zero, List.set_cons_succ])
  ((refine wpAnyH_take (i := 17) (v := ?_) rfl (by kernel_rfl) (by kernel_rfl) (by kernel_rfl) (fun _ _ _ h => h) (Yields.yieldsIf (Or.inl ⟨by rfl, ?_⟩)) hHeld ?_; rotate_left 1; focus (intro w; go_simp; try with_reducible rfl)); try simp only [Act.put, List.getElem_toArray, List.getElem_cons_zero, List.getElem_cons_succ, List.setIfInBounds_toArray, List.set_cons_zero, List.set_cons_succ])
  ((refine wpAnyH_ready (rs := [14]) (by kernel_rfl) (by simp) ?_; refine AllReadyH.cons rfl (fun K hK => ?_) AllReadyH.nil; go_simp; refine Calls.mono (HLe.out _ (HAL.out.trans ((Mod.of_drew hq1).trans hq2))) ?_; rintro e u4 ⟨rfl, rfl⟩; refine hK.out _ _ ?_ (fun hHeld => ?_); (· exact HKx.out _ ((Mod.of_drew hq1).trans hq2)); clear hK K); try simp only [Act.put, List.getElem_toArray, List.getElem_cons_zero, List.getElem_cons_succ, List.setIfInBounds_toArray, List.set_cons_zero, List.set_cons_succ])
  ((refine wpAnyH_take (i := 18) (v := ?_) rfl (by kernel_rfl) (by kernel_rfl) (by kernel_rfl) (fun _ _ _ h => h) (Yields.yieldsIf (Or.inl ⟨by rfl, ?_⟩)) hHeld ?_; rotate_left 1; focus (intro w; go_simp; try with_reducible rfl)); try simp only [Act.put, List.getElem_toArray, List.getElem_cons_zero, List.getElem_cons_succ, List.setIfInBounds_toArray, List.set_cons_zero, List.set_cons_succ])
  ((refine wpAnyH_take (i := 19) (v := ?_) rfl (by kernel_rfl) (by kernel_rfl) (by kernel_rfl) (fun _ _ _ h => h) (Yields.yieldsIf (Or.inl ⟨by rfl, ?_⟩)) hHeld ?_; rotate_left 1; focus (intro w; go_simp; try with_reducible rfl)); try simp only [Act.put, List.getElem_toArray, List.getElem_cons_zero, List.getElem_cons_succ, List.setIfInBounds_toArray, List.set_cons_zero, List.set_cons_succ])
  refine wpAnyH_done (by kernel_rfl) ?_ _
  clear hHeld
  have hp1 : Pure W1 u2 := (Mod.of_drew hq1).trans hq2
  have HP1 := Lib.hid hp1
  clear hq1 hq2 hp1 HNx HNo HLe HRn
  go_upto_region 4 with fail
  go_loopw [7] (fun v7 wr => ∃ k : Nat, v7 = .int .i64 (k : Nat) ∧ k ≤ n ∧ Pure W1 wr) (fun v7 _ => n - (intOf v7).toNat)
  case atStart => exact ⟨0, rfl, Nat.zero_le _, HP1.out⟩
  case round =>
    obtain ⟨k, rfl, hk, hp⟩ := hrel
    have HP := Lib.hid hp
    obtain ⟨x0, x1⟩ := HKx.out _ hp
    clear hp
    by_cases hlt : k < n
    · have hlt' : (k : Int) < (n : Int) := by omega
      have k0 : (0 : Int) ≤ (k : Int) := by omega
      have wk : IntKind.i64.wrap ((k : Int) + 1) = (k : Int) + 1 := IntWalk.i64_in _ (by omega)
      obtain ⟨x, hx⟩ : ∃ x, L[k]? = some x := ⟨_, List.getElem?_eq_getElem (by rw [HR.out.len]; exact hlt)⟩
      have hxL := List.mem_of_getElem? hx
      have hpw := HAL.out.trans HP.out
      obtain ⟨ad, rfl, z0, z1, z2⟩ := td_read (HR.out.pure hpw).rd hx
      obtain ⟨r1, r2, r3, r4, r5⟩ := HH.out.at_.rng x hxL
      obtain ⟨g1, g2⟩ := get_self HH.out.at_ hxL
      have HWh := Lib.hid (fun (u : World) => rwhere_ok (now := now) (dl := x.dl) HH.out.at_.now64 (by omega) u)
      have hge := fun (u : World) (hq : Pure w u) => (HH.out.pure hq).at_.get (s := x.slot) (by omega)
      rw [g1] at hge
      unfold tdV at hge
      have HGe := Lib.hid hge
      have HWe := Lib.hid (fun (u : World) (hq : Pure w u) => where_ok (HH.out.pure hq).at_ (s := x.slot) (by omega) g2)
      have HPW := Lib.hid hpw
      clear hx hxL r1 r2 r3 r4 r5 g1 g2 hge hpw
      go_upto_region 7 with fail
      have ha2 : Pure wr (wr.alloc (.cells #[.int .u32 x.slot, .int .u64 x.dl, .int .u64 x.birth] 31)) := (Mod.refl _ wr).alloc _
      have h8 := heap_new (w := wr) (o := .cells #[.int .u32 x.slot, .int .u64 x.dl, .int .u64 x.birth] 31 (0, 0)) rfl
      obtain ⟨b8, hb8⟩ : ∃ b8, wr.heap.size = b8 := ⟨_, rfl⟩
      rw [hb8] at h8 ⊢
      generalize wr.alloc (.cells #[.int .u32 x.slot, .int .u64 x.dl, .int .u64 x.birth] 31) = w8 at *
      have x0 := ha2.cell (fun h => h) x0
      have HA2 := Lib.hid ha2
      clear ha2 z0 z1 z2 x1 hb8
      have h8_0 := cell_of_row _ _ 0 _ _ _ h8; have h8_1 := cell_of_row _ _ 1 _ _ _ h8; have h8_2 := cell_of_row _ _ 2 _ _ _ h8; have h8_f := (fun j => frozen_of_row _ _ j _ _ h8); have h8_l := lt_of_block h8; simp at h8_0 h8_1 h8_2; have H_h8 := Lib.hid h8; clear h8
      go_upto_region 9 with (first
        | (go_at_call 61; refine Calls.mono (HWh.out _) ?_; rintro e w' ⟨rfl, rfl⟩)
        | (go_at_call 19; refine Calls.mono (HGe.out _ (HPW.out.trans HA2.out)) ?_; rintro e w9 ⟨rfl, hp9⟩
           have HP9 := Lib.hid hp9
           have h8 := hp9.heap (fun h => h) H_h8.out
           clear hp9 h8_0 h8_1 h8_2 h8_l H_h8))
      have ha9 : Pure w9 (w9.alloc (.cells #[.int .u32 x.slot, .int .u64 x.dl, .int .u64 x.birth] 31)) := (Mod.refl _ w9).alloc _
      have h11 := heap_new (w := w9) (o := .cells #[.int .u32 x.slot, .int .u64 x.dl, .int .u64 x.birth] 31 (0, 0)) rfl
      have h88 := ha9.heap (fun h => h) h8
      obtain ⟨b11, hb11⟩ : ∃ b11, w9.heap.size = b11 := ⟨_, rfl⟩
      rw [hb11] at h11 ⊢
      generalize w9.alloc (.cells #[.int .u32 x.slot, .int .u64 x.dl, .int .u64 x.birth] 31) = w10 at *
      have hp10 := HP.out.trans ((HA2.out.trans HP9.out).trans ha9)
      have HP10 := Lib.hid hp10
      clear hp10 ha9 h8 hb11
      have h88_0 := cell_of_row _ _ 0 _ _ _ h88; have h88_1 := cell_of_row _ _ 1 _ _ _ h88; have h88_2 := cell_of_row _ _ 2 _ _ _ h88; have h88_f := (fun j => frozen_of_row _ _ j _ _ h88); have h88_l := lt_of_block h88; simp at h88_0 h88_1 h88_2; have H_h88 := Lib.hid h88; clear h88
      have h11_0 := cell_of_row _ _ 0 _ _ _ h11; have h11_1 := cell_of_row _ _ 1 _ _ _ h11; have h11_2 := cell_of_row _ _ 2 _ _ _ h11; have h11_f := (fun j => frozen_of_row _ _ j _ _ h11); have h11_l := lt_of_block h11; simp at h11_0 h11_1 h11_2; have H_h11 := Lib.hid h11; clear h11
      go_wp2_with (go_at_call 26; refine Calls.mono (HWe.out _ (HAL.out.trans HP10.out)) ?_; rintro e w12 ⟨rfl, hp12⟩)
      have HP12 := Lib.hid (HP10.out.trans hp12)
      go_roundw
      case rel => exact ⟨k + 1, by go_num, hlt, HP12.out⟩
      case measure => simp [intOf]; omega
    · have hge : ¬ (k : Int) < (n : Int) := by omega
      have hpw := HAL.out.trans HP.out
      have hfi := rfind_ok (HR.out.pure hpw).rd HR.out.len (by omega) s
      have HPW := Lib.hid hpw; have HFi := Lib.hid hfi
      clear hpw hfi
      cases hh : hasB L s with
      | true =>
        have f0 := findR_pos hh
        generalize findR L s = f at *
        have HF := Lib.hid HFi.out
        clear hh HFi
        go_wp2_with (go_at_call 18; refine Calls.mono HF.out ?_; rintro e w' ⟨rfl, rfl⟩)
        go_ret
        exact ⟨rfl, HPW.out⟩
      | false =>
        rw [findR_neg hh] at HFi
        obtain ⟨g1, g2⟩ := get_none (L := L) (s := s) (by rw [hh]; rintro ⟨_, h⟩; cases h)
        have hge := fun (u : World) (hq : Pure w u) => (HH.out.pure hq).at_.get (s := s) h32
        have hwe := fun (u : World) (hq : Pure w u) => where_ok (HH.out.pure hq).at_ (s := s) h32 g2
        rw [g1] at hge
        unfold tdV zTd at hge
        by_cases hs : s < 4194304
        · have hs' : ¬ (4194304 : Int) ≤ (s : Int) := by omega
          simp only [if_pos hs] at hge hwe
          have HGe := Lib.hid hge; have HWe := Lib.hid hwe
          clear hge hwe g1 g2 hh hs
          go_upto_region 11 with fail
          go_upto_region 14 with (go_at_call 18; refine Calls.mono HFi.out ?_; rintro e w' ⟨rfl, rfl⟩)
          have hs2 : ¬ (4194304 : Int) ≤ (s : Int) := by omega
          clear hs' hlt hk hn h32 hge
          go_upto_region 16 with fail
          clear hs2
          go_upto_region 17 with (first
            | (go_at_call 19; refine Calls.mono (HGe.out _ HPW.out) ?_; rintro e w9 ⟨rfl, hp9⟩
               have HP9 := Lib.hid hp9
               clear hp9))
          have ha9 : Pure w9 (w9.alloc (.cells #[.int .u32 0, .int .u64 0, .int .u64 0] 31)) := (Mod.refl _ w9).alloc _
          have h14 := heap_new (w := w9) (o := .cells #[.int .u32 0, .int .u64 0, .int .u64 0] 31 (0, 0)) rfl
          obtain ⟨b14, hb14⟩ : ∃ b14, w9.heap.size = b14 := ⟨_, rfl⟩
          rw [hb14] at h14 ⊢
          generalize w9.alloc (.cells #[.int .u32 0, .int .u64 0, .int .u64 0] 31) = w10 at *
          have hp10 := HPW.out.trans (HP9.out.trans ha9)
          have HP10 := Lib.hid hp10
          clear hp10 ha9 hb14
          have h14_0 := cell_of_row _ _ 0 _ _ _ h14; have h14_1 := cell_of_row _ _ 1 _ _ _ h14; have h14_2 := cell_of_row _ _ 2 _ _ _ h14; have h14_f := (fun j => frozen_of_row _ _ j _ _ h14); have h14_l := lt_of_block h14; simp at h14_0 h14_1 h14_2; have H_h14 := Lib.hid h14; clear h14
          go_wp2_with (go_at_call 26; refine Calls.mono (HWe.out _ HP10.out) ?_; rintro e w12 ⟨rfl, hp12⟩)
          have HP12 := Lib.hid (HP10.out.trans hp12)
          go_ret
          exact ⟨rfl, HP12.out⟩
        · have hs' : (4194304 : Int) ≤ (s : Int) := by omega
          simp only [if_neg hs] at hge hwe
          have HGe := Lib.hid hge; have HWe := Lib.hid hwe
          clear hge hwe g1 g2 hh hs
          go_upto_region 16 with (go_at_call 18; refine Calls.mono HFi.out ?_; rintro e w' ⟨rfl, rfl⟩)
          clear hs'
          go_upto_region 17 with (first
            | (go_at_call 19; refine Calls.mono (HGe.out _ HPW.out) ?_; rintro e w9 ⟨rfl, hp9⟩
               have HP9 := Lib.hid hp9
               clear hp9))
          have ha9 : Pure w9 (w9.alloc (.cells #[.int .u32 0, .int .u64 0, .int .u64 0] 31)) := (Mod.refl _ w9).alloc _
          have h14 := heap_new (w := w9) (o := .cells #[.int .u32 0, .int .u64 0, .int .u64 0] 31 (0, 0)) rfl
          obtain ⟨b14, hb14⟩ : ∃ b14, w9.heap.size = b14 := ⟨_, rfl⟩
          rw [hb14] at h14 ⊢
          generalize w9.alloc (.cells #[.int .u32 0, .int .u64 0, .int .u64 0] 31) = w10 at *
          have hp10 := HPW.out.trans (HP9.out.trans ha9)
          have HP10 := Lib.hid hp10
          clear hp10 ha9 hb14
          have h14_0 := cell_of_row _ _ 0 _ _ _ h14; have h14_1 := cell_of_row _ _ 1 _ _ _ h14; have h14_2 := cell_of_row _ _ 2 _ _ _ h14; have h14_f := (fun j => frozen_of_row _ _ j _ _ h14); have h14_l := lt_of_block h14; simp at h14_0 h14_1 h14_2; have H_h14 := Lib.hid h14; clear h14
          go_wp2_with (go_at_call 26; refine Calls.mono (HWe.out _ HP10.out) ?_; rintro e w12 ⟨rfl, hp12⟩)
          have HP12 := Lib.hid (HP10.out.trans hp12)
          go_ret
          exact ⟨rfl, HP12.out⟩
end
end Go.Proofs.YtlalpenfgkfkpaaDoor
