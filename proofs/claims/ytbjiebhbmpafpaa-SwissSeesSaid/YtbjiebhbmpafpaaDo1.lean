/- law07.do: Find. -/
import Derived.Test.YtbjiebhbmpafpaaDoA
namespace Go.Proofs.Ytbjiebhbmpafpaa
open Go.RowKit Go.Shelf
set_option maxRecDepth 100000

theorem do_fin0 {w W : World} {p p' : Nat} {sv sv' : Value} {Gs' : List Grp} {aC' : Option Addr} {cC' : Nat} {aS' : Option Addr} {cS' : Nat} {X Y : World} {b7 : Nat} {u0 u1 v0 v1 : Value} (hs : Has w p' sv' Gs' X) (rf : RefI X aC' cC' aS' cS' Gs') (hm : Mod (fun k => k = p ∨ sv.ownBlock = some k) W X) (h7 : X.heap[b7]? = some (.cells #[u0, u1] 82 (0, 0))) (hw : w.heap.size ≤ W.heap.size) (hb : W.heap.size ≤ b7)
    (hY : (X.setCell ⟨b7, 0, none⟩ v0).setCell ⟨b7, 1, none⟩ v1 = Y) : Has w p' sv' Gs' Y ∧ RefI Y aC' cC' aS' cS' Gs' ∧ Mod (fun k => k = p ∨ sv.ownBlock = some k) W Y ∧ Y.cell? ⟨b7, 0, none⟩ = some v0 ∧ Y.cell? ⟨b7, 1, none⟩ = some v1 := by
  have m2 := heap_set12 (v0 := v0) (v1 := v1) h7
  have hmm : Mod (fun i => i = b7) X ((X.setCell ⟨b7, 0, none⟩ v0).setCell ⟨b7, 1, none⟩ v1) := Mod.set2 b7 0 1 _ _
  rw [hY] at m2 hmm
  have x0 := cell_of_row _ b7 0 _ _ _ m2; have x1 := cell_of_row _ b7 1 _ _ _ m2
  have hnb := hs.nb h7 (by decide) (by decide)
  refine ⟨⟨hs.ix.mod hmm (fun k hk e => by subst e; exact hnb hk), hs.pu.then hmm (fun i hi e => by omega), hs.fp, hs.fs⟩, rf.modT hmm (fun i e _ => ⟨_, _, _, e ▸ h7, by decide, by decide⟩), hm.then hmm (fun i hi e => by omega), x0, x1⟩
set_option maxHeartbeats 8000000 in
theorem do_find {w W : World} {p : Nat} {sv : Value} {Gs : List Grp} {aC : Option Addr} {cC : Nat} {aS : Option Addr} {cS : Nat} (h : Has w p sv Gs W) (hr : RefI W aC cC aS cS Gs) (a : ActV) (ha : a.Ok) (hw1 : a.what = 1) :
    Calls Try.prog 47 #[.pointer (some ⟨p, 0, none⟩), refI aC cC aS cS Gs.length, .agg #[.int .i64 a.what, .int .u64 (a.sum : Nat), .int .u32 (a.slot : Nat), .int .u32 (a.other : Nat), .int .i64 a.groups]] W (doPost w W p sv) := by
  have HW1 := Lib.hid hw1
  clear hw1
  have hww : w.heap.size ≤ W.heap.size := h.pu.size
  have HS := Lib.hid (DS.new h hr a)
  have hg1 := h.ix.ok.pow.le
  have HA := Lib.hid ha
  clear h hr
  unfold refI
  go_enter Try.func47, Try.ntmps47
  go_upto_region 1 with fail
  generalize ((W.alloc (.cells #[.slice aC (8 * Gs.length) cC, .slice aS (8 * Gs.length) cS] 82)).alloc (.cells #[.int .i64 a.what, .int .u64 (a.sum : Nat), .int .u32 (a.slot : Nat), .int .u32 (a.other : Nat), .int .i64 a.groups] 86)).alloc (.cells #[.slice none 0 0, .slice none 0 0] 82) = X at *
  have hbw := HS.out.bw
  obtain ⟨b, hbe⟩ : ∃ b, W.heap.size = b := ⟨_, rfl⟩
  rw [hbe] at HS hbw ⊢
  have HBW := Lib.hid hbe
  clear hbe hbw
  have z4 := HS.out.h4
  have z5 := HS.out.h5
  have z4_0 := cell_of_row _ _ 0 _ _ _ z4; have z4_1 := cell_of_row _ _ 1 _ _ _ z4; have z4_f := (fun j => frozen_of_row _ _ j _ _ z4); have z4_l := lt_of_block z4; simp at z4_0 z4_1; have H_z4 := Lib.hid z4; clear z4
  have z5_0 := cell_of_row _ _ 0 _ _ _ z5; have z5_1 := cell_of_row _ _ 1 _ _ _ z5; have z5_2 := cell_of_row _ _ 2 _ _ _ z5; have z5_3 := cell_of_row _ _ 3 _ _ _ z5; have z5_4 := cell_of_row _ _ 4 _ _ _ z5; have z5_f := (fun j => frozen_of_row _ _ j _ _ z5); have z5_l := lt_of_block z5; simp at z5_0 z5_1 z5_2 z5_3 z5_4; have H_z5 := Lib.hid z5; clear z5
  rw [HW1.out] at z5_0
  have hsn := rSeen_ok HS.out.rf a.sum ha.sum
  unfold refI at hsn
  have HSn := Lib.hid hsn
  clear hsn
  go_upto_region 8 with (go_at_call 48; refine Calls.mono HSn.out ?_; rintro e X1 ⟨aL, cL, rfl, hSI⟩)
  have HS1 := Lib.hid (HS.out.pure hSI.pu)
  have HROW := Lib.hid hSI.row
  clear z4_0 z4_1 z4_f z4_l
  clear z5_0 z5_1 z5_2 z5_3 z5_4 z5_f z5_l
  clear H_z4 H_z5 HS HSn hSI
  have hkl : (seenK Gs a.sum).length = (seenM Gs a.sum).length := by unfold seenK; simp
  obtain ⟨m, hm⟩ : ∃ m, (seenK Gs a.sum).length = m := ⟨_, rfl⟩
  have hml : m ≤ 8388608 := by have := seenM_length HS1.out.rf.ok a.sum; omega
  rw [hm] at HROW ⊢
  have HKL := Lib.hid hkl; have HM := Lib.hid hm
  clear hkl hm
  have wm : IntKind.i64.wrap (m : Int) = m := IntWalk.i64_in _ (by omega)
  go_upto_region 9 with fail
  go_loopw [13] (fun v13 wr => ∃ i, v13 = .int .i64 (i : Nat) ∧ i ≤ m ∧ (∀ x ∈ (seenM Gs a.sum).take i, wanted a.slot a.other (slotAt Gs x) = false) ∧ Pure X1 wr) (fun v13 _ => m - (intOf v13).toNat)
  case atStart => exact ⟨0, rfl, Nat.zero_le _, fun x hx => by simp at hx, Mod.refl _ _⟩
  case round =>
    obtain ⟨i, rfl, hi, hne, hpu⟩ := hrel
    have HNE := Lib.hid hne
    have HPU := Lib.hid hpu
    have HS2 := Lib.hid (HS1.out.pure hpu)
    clear hne hpu
    have z4 := HS2.out.h4
    have z5 := HS2.out.h5
    have z4_0 := cell_of_row _ _ 0 _ _ _ z4; have z4_1 := cell_of_row _ _ 1 _ _ _ z4; have z4_f := (fun j => frozen_of_row _ _ j _ _ z4); have z4_l := lt_of_block z4; simp at z4_0 z4_1; have H_z4 := Lib.hid z4; clear z4
    have z5_0 := cell_of_row _ _ 0 _ _ _ z5; have z5_1 := cell_of_row _ _ 1 _ _ _ z5; have z5_2 := cell_of_row _ _ 2 _ _ _ z5; have z5_3 := cell_of_row _ _ 3 _ _ _ z5; have z5_4 := cell_of_row _ _ 4 _ _ _ z5; have z5_f := (fun j => frozen_of_row _ _ j _ _ z5); have z5_l := lt_of_block z5; simp at z5_0 z5_1 z5_2 z5_3 z5_4; have H_z5 := Lib.hid z5; clear z5
    have a0 := HA.out.sum; have a1 := HA.out.slot; have a2 := HA.out.other
    by_cases hlt : i < m
    · have hlt' : (i : Int) < (m : Int) := by omega
      obtain ⟨x, hx⟩ : ∃ x, (seenM Gs a.sum)[i]? = some x := ⟨_, List.getElem?_eq_getElem (by have := HKL.out; have := HM.out; omega)⟩
      have hf := seen_full HS1.out.rf.ok (List.mem_of_getElem? hx)
      obtain ⟨B1, B2, e1, e2, l1, l2, _, hCS⟩ := HS2.out.rf.cells
      subst e1 e2
      have hcS := hCS (lane x) (slotAt Gs x) (slot_some HS1.out.rf.ok hf.hi hf.hj)
      have hsx := slotAt_lt HS1.out.rf.ok x
      have hlx : lane x < 8 * Gs.length := by have := hf.hi; have := hf.hj; unfold lane; omega
      obtain ⟨BL, cl, hsv, _, _, hcl, _, _⟩ := owns_at HROW.out (by omega)
      cases hsv
      have hcL := HPU.out.cell (fun h => h) (hcl i (.int .i64 (lane x : Nat)) (by unfold i64v seenK; rw [List.getElem?_map, List.getElem?_map, hx]; rfl))
      have HX := Lib.hid hx
      clear hcl hx hf hCS
      obtain ⟨n, hn⟩ : ∃ n, 8 * Gs.length = n := ⟨_, rfl⟩
      rw [hn] at z4_0 z4_1 hlx l1 l2
      have HN := Lib.hid hn
      have hnn : n ≤ 8388608 := by omega
      clear hn
      obtain ⟨k, hk⟩ : ∃ k, lane x = k := ⟨_, rfl⟩
      rw [hk] at hcS hcL hlx
      have hkn : (k : Int) < (n : Int) := by omega
      obtain ⟨sx, hsxe⟩ : ∃ sx, slotAt Gs x = sx := ⟨_, rfl⟩
      rw [hsxe] at hcS hsx
      have HSX := Lib.hid hsxe
      clear hk hsxe
      have wi : IntKind.i64.wrap ((i : Int) + 1) = (i : Int) + 1 := IntWalk.i64_in _ (by omega)
      have q1 : wr.drew.cell? ⟨b, 1, none⟩ = _ := z4_1
      have qS : wr.drew.cell? ⟨B2, k, none⟩ = _ := hcS
      have qL : wr.drew.cell? ⟨BL, i, none⟩ = _ := hcL
      go_upto_region 11 with fail
      go_region_held3 (fun w' => w'.cell? ⟨b, 1, none⟩ = some (.slice (some ⟨B2, 0, none⟩) n cS) ∧ w'.cell? ⟨B2, k, none⟩ = some (.int .u32 (sx : Nat)) ∧ w'.cell? ⟨BL, i, none⟩ = some (.int .i64 (k : Nat))) (first | go_keep | exact ⟨q1, qS, qL⟩) (fail)
      have HSD := Lib.hid (HS2.out.pure (Mod.refl (fun _ => False) wr).drew)
      have HPD := Lib.hid HPU.out.drew
      clear z4_0 z4_1 z4_f z4_l
      clear z5_0 z5_1 z5_2 z5_3 z5_4 z5_f z5_l
      clear H_z4 H_z5 HS2 HPU q1 qS qL hcS hcL
      generalize wr.drew = Wd at *
      have z4 := HSD.out.h4
      have z5 := HSD.out.h5
      rw [HN.out] at z4
      have z4_0 := cell_of_row _ _ 0 _ _ _ z4; have z4_1 := cell_of_row _ _ 1 _ _ _ z4; have z4_f := (fun j => frozen_of_row _ _ j _ _ z4); have z4_l := lt_of_block z4; simp at z4_0 z4_1; have H_z4 := Lib.hid z4; clear z4
      have z5_0 := cell_of_row _ _ 0 _ _ _ z5; have z5_1 := cell_of_row _ _ 1 _ _ _ z5; have z5_2 := cell_of_row _ _ 2 _ _ _ z5; have z5_3 := cell_of_row _ _ 3 _ _ _ z5; have z5_4 := cell_of_row _ _ 4 _ _ _ z5; have z5_f := (fun j => frozen_of_row _ _ j _ _ z5); have z5_l := lt_of_block z5; simp at z5_0 z5_1 z5_2 z5_3 z5_4; have H_z5 := Lib.hid z5; clear z5
      obtain ⟨res, hres⟩ : ∃ res, wanted a.slot a.other sx = res := ⟨_, rfl⟩
      have HW := Lib.hid hres
      clear hres
      go_upto_region 12 with fail
      go_cut [90] (fun v90 wc => v90 = .bool res ∧ wc = Wd)
      case first =>
        have hw := HW.out
        unfold wanted at hw
        by_cases ho : a.other = 0
        · rw [if_pos ho] at hw
          rw [ho] at z5_3
          by_cases he : sx = a.slot
          · have he' : ((sx : Int) == (a.slot : Int)) = true := by simp [he]
            have hr : res = true := by rw [← hw]; simp [he]
            subst hr
            clear hw he
            go_wp2_with fail
            go_meet
            exact ⟨by first | rfl | trivial | simp_all, by first | rfl | trivial⟩
          · have he' : ((sx : Int) == (a.slot : Int)) = false := by simp; omega
            have he2 : (sx : Int) ≠ (a.slot : Int) := by omega
            have hr : res = false := by rw [← hw]; simp [he]
            subst hr
            clear hw
            go_wp2_with fail
            all_goals
              go_meet
              exact ⟨by first | rfl | trivial | simp_all, by first | rfl | trivial⟩
        · rw [if_neg ho] at hw
          have ho1 : ((a.other : Int) == 0) = false := by simp; omega
          have ho2 : ((a.other : Int) != 0) = true := by simp; omega
          have ho3 : (1 : Int) ≤ a.other := by omega
          have em : ((sx : Int) % (a.other : Int) == 0) = res := by rw [← hw, Bool.eq_iff_iff]; simp; omega
          clear hw
          go_wp2_with fail
          all_goals
            go_meet
            exact ⟨by first | rfl | trivial | simp_all, by first | rfl | trivial⟩
      case rest =>
        obtain ⟨rfl, rfl⟩ := hcut
        cases res with
        | true =>
          have hfm : fnd Gs a.sum (wanted a.slot a.other) = (sx, 0) := by
            unfold fnd findM
            have h1 := List.take_append_drop i (seenM Gs a.sum)
            have h2 : (seenM Gs a.sum).drop i = x :: (seenM Gs a.sum).drop (i + 1) := by
              have hql := List.getElem?_eq_some_iff.1 HX.out
              rw [List.drop_eq_getElem_cons hql.1, hql.2]
            rw [← h1, h2, List.find?_append, List.find?_eq_none.2 (fun y hy => by have := HNE.out y hy; simp [this])]
            simp [HSX.out, HW.out]
          have hfs : findsM Gs a.sum a.slot a.other sx 0 = true := by unfold findsM; rw [hfm]; simp
          have HF := Lib.hid ((HSD.out.hs.pure (Mod.refl (fun _ => False) wc).drew).finds hfs HA.out.sum HA.out.slot HA.out.other hsx (by decide))
          clear hfm hfs
          go_upto_region 13 with fail
          have hst : ∀ (Z : World) (v0 v1 : Value), ((fun w' => w'.cell? ⟨b, 0, none⟩ = some (.slice (some ⟨B1, 0, none⟩) n cC) ∧ w'.cell? ⟨b, 1, none⟩ = some (.slice (some ⟨B2, 0, none⟩) n cS) ∧ w'.cell? ⟨b + 1, 1, none⟩ = some (.int .u64 (a.sum : Nat)) ∧ w'.cell? ⟨b + 1, 2, none⟩ = some (.int .u32 (a.slot : Nat)) ∧ w'.cell? ⟨b + 1, 3, none⟩ = some (.int .u32 (a.other : Nat))) Z) → (fun w' => w'.cell? ⟨b, 0, none⟩ = some (.slice (some ⟨B1, 0, none⟩) n cC) ∧ w'.cell? ⟨b, 1, none⟩ = some (.slice (some ⟨B2, 0, none⟩) n cS) ∧ w'.cell? ⟨b + 1, 1, none⟩ = some (.int .u64 (a.sum : Nat)) ∧ w'.cell? ⟨b + 1, 2, none⟩ = some (.int .u32 (a.slot : Nat)) ∧ w'.cell? ⟨b + 1, 3, none⟩ = some (.int .u32 (a.other : Nat))) ((Z.setCell ⟨b + 1 + 1, 0, none⟩ v0).setCell ⟨b + 1 + 1, 1, none⟩ v1) := fun Z v0 v1 hZ =>
            ⟨(Mod.set2 (b + 1 + 1) 0 1 v0 v1).cell (S := fun i => i = b + 1 + 1) (by dsimp only; omega) hZ.1, (Mod.set2 (b + 1 + 1) 0 1 v0 v1).cell (S := fun i => i = b + 1 + 1) (by dsimp only; omega) hZ.2.1, (Mod.set2 (b + 1 + 1) 0 1 v0 v1).cell (S := fun i => i = b + 1 + 1) (by dsimp only; omega) hZ.2.2.1, (Mod.set2 (b + 1 + 1) 0 1 v0 v1).cell (S := fun i => i = b + 1 + 1) (by dsimp only; omega) hZ.2.2.2.1, (Mod.set2 (b + 1 + 1) 0 1 v0 v1).cell (S := fun i => i = b + 1 + 1) (by dsimp only; omega) hZ.2.2.2.2⟩
          have q0 : wc.drew.cell? ⟨b, 0, none⟩ = _ := z4_0
          have q1 : wc.drew.cell? ⟨b, 1, none⟩ = _ := z4_1
          have q2 : wc.drew.cell? ⟨b + 1, 1, none⟩ = _ := z5_1
          have q3 : wc.drew.cell? ⟨b + 1, 2, none⟩ = _ := z5_2
          have q4 : wc.drew.cell? ⟨b + 1, 3, none⟩ = _ := z5_3
          have H7 := Lib.hid HSD.out.h7
          go_region_held3 (fun w' => w'.cell? ⟨b, 0, none⟩ = some (.slice (some ⟨B1, 0, none⟩) n cC) ∧ w'.cell? ⟨b, 1, none⟩ = some (.slice (some ⟨B2, 0, none⟩) n cS) ∧ w'.cell? ⟨b + 1, 1, none⟩ = some (.int .u64 (a.sum : Nat)) ∧ w'.cell? ⟨b + 1, 2, none⟩ = some (.int .u32 (a.slot : Nat)) ∧ w'.cell? ⟨b + 1, 3, none⟩ = some (.int .u32 (a.other : Nat)))
            (first | go_keep | exact ⟨q0, q1, q2, q3, q4⟩ | exact ⟨hp5.cell (fun h => h) q0, hp5.cell (fun h => h) q1, hp5.cell (fun h => h) q2, hp5.cell (fun h => h) q3, hp5.cell (fun h => h) q4⟩ | exact hst _ _ _ ⟨hp5.cell (fun h => h) q0, hp5.cell (fun h => h) q1, hp5.cell (fun h => h) q2, hp5.cell (fun h => h) q3, hp5.cell (fun h => h) q4⟩)
            ((go_at_call 40; (with_reducible refine Calls.mono HF.out ?_); rintro e w5 ⟨rfl, hq5, hp5⟩; have h75 := (Mod.of_drew hp5 : Pure wc w5).heap (fun h => h) H7.out; have h75_0 := cell_of_row _ _ 0 _ _ _ h75; have h75_1 := cell_of_row _ _ 1 _ _ _ h75; have h75_f := (fun j => frozen_of_row _ _ j _ _ h75); have h75_l := lt_of_block h75; simp at h75_0 h75_1; have H_h75 := Lib.hid h75; clear h75))
          have HE := Lib.hid (HSD.out.pure (Mod.of_drew hp5 : Pure wc w5))
          clear q0 q1 q2 q3 q4 hst
          go_wp2
          obtain ⟨f1, f2, f3, x0, x1⟩ := do_fin0 (v0 := .slice (some ⟨B1, 0, none⟩) n cC) (v1 := .slice (some ⟨B2, 0, none⟩) n cS) HE.out.hs HE.out.rf HE.out.mw H_h75.out hww (by have := HBW.out; omega) rfl
          obtain ⟨Y, hY⟩ : ∃ Y, (w5.setCell ⟨b + 1 + 1, 0, none⟩ (.slice (some ⟨B1, 0, none⟩) n cC)).setCell ⟨b + 1 + 1, 1, none⟩ (.slice (some ⟨B2, 0, none⟩) n cS) = Y := ⟨_, rfl⟩
          rw [hY] at f1 f2 f3 x0 x1 ⊢
          exact bodyPost_ret (v := .tuple #[.pointer (some ⟨p, 0, none⟩), .agg #[.slice (some ⟨B1, 0, none⟩) n cC, .slice (some ⟨B2, 0, none⟩) n cS], .bool true]) (by have x0' := x0; have x1' := x1; simp [results, Try.results47, go_sem, x0', x1']) rfl ⟨p, _, Gs, (some ⟨B1, 0, none⟩), cC, (some ⟨B2, 0, none⟩), cS, by unfold refI; rw [HN.out], f1, f2, f3⟩
        | false =>
          have hnx : ∀ y ∈ (seenM Gs a.sum).take (i + 1), wanted a.slot a.other (slotAt Gs y) = false := fun y hy => by
            rw [List.take_add_one, HX.out] at hy
            rcases List.mem_append.1 hy with h | h
            · exact HNE.out y h
            · have : y = x := by simpa using h
              rw [this, HSX.out]; exact HW.out
          have HNX := Lib.hid hnx
          clear hnx
          go_wp2
          go_roundw
          case rel => exact ⟨i + 1, by go_num, hlt, HNX.out, HPD.out⟩
          case measure => simp [intOf]; omega
    · have hlt' : (m : Int) ≤ (i : Int) := by omega
      have hfm : fnd Gs a.sum (wanted a.slot a.other) = (0, 9) := by
        unfold fnd findM
        rw [List.find?_eq_none.2 (fun y hy => by
          have := HNE.out y (by rw [List.take_of_length_le (by have := HKL.out; have := HM.out; omega)]; exact hy)
          simp [this])]
      have hfs : findsM Gs a.sum a.slot a.other 0 9 = true := by unfold findsM; rw [hfm]; simp
      have HSD := Lib.hid HS2.out
      have HF := Lib.hid ((HSD.out.hs.pure (Mod.refl (fun _ => False) wr).drew).finds hfs HA.out.sum HA.out.slot HA.out.other (by decide) (by decide))
      obtain ⟨n, hn⟩ : ∃ n, 8 * Gs.length = n := ⟨_, rfl⟩
      rw [hn] at z4_0 z4_1
      have HN := Lib.hid hn
      clear hfm hfs hn
      go_upto_region 14 with fail
      have hst : ∀ (Z : World) (v0 v1 : Value), ((fun w' => w'.cell? ⟨b, 0, none⟩ = some (.slice aC n cC) ∧ w'.cell? ⟨b, 1, none⟩ = some (.slice aS n cS) ∧ w'.cell? ⟨b + 1, 1, none⟩ = some (.int .u64 (a.sum : Nat)) ∧ w'.cell? ⟨b + 1, 2, none⟩ = some (.int .u32 (a.slot : Nat)) ∧ w'.cell? ⟨b + 1, 3, none⟩ = some (.int .u32 (a.other : Nat))) Z) → (fun w' => w'.cell? ⟨b, 0, none⟩ = some (.slice aC n cC) ∧ w'.cell? ⟨b, 1, none⟩ = some (.slice aS n cS) ∧ w'.cell? ⟨b + 1, 1, none⟩ = some (.int .u64 (a.sum : Nat)) ∧ w'.cell? ⟨b + 1, 2, none⟩ = some (.int .u32 (a.slot : Nat)) ∧ w'.cell? ⟨b + 1, 3, none⟩ = some (.int .u32 (a.other : Nat))) ((Z.setCell ⟨b + 1 + 1, 0, none⟩ v0).setCell ⟨b + 1 + 1, 1, none⟩ v1) := fun Z v0 v1 hZ =>
        ⟨(Mod.set2 (b + 1 + 1) 0 1 v0 v1).cell (S := fun i => i = b + 1 + 1) (by dsimp only; omega) hZ.1, (Mod.set2 (b + 1 + 1) 0 1 v0 v1).cell (S := fun i => i = b + 1 + 1) (by dsimp only; omega) hZ.2.1, (Mod.set2 (b + 1 + 1) 0 1 v0 v1).cell (S := fun i => i = b + 1 + 1) (by dsimp only; omega) hZ.2.2.1, (Mod.set2 (b + 1 + 1) 0 1 v0 v1).cell (S := fun i => i = b + 1 + 1) (by dsimp only; omega) hZ.2.2.2.1, (Mod.set2 (b + 1 + 1) 0 1 v0 v1).cell (S := fun i => i = b + 1 + 1) (by dsimp only; omega) hZ.2.2.2.2⟩
      have q0 : wr.drew.cell? ⟨b, 0, none⟩ = _ := z4_0
      have q1 : wr.drew.cell? ⟨b, 1, none⟩ = _ := z4_1
      have q2 : wr.drew.cell? ⟨b + 1, 1, none⟩ = _ := z5_1
      have q3 : wr.drew.cell? ⟨b + 1, 2, none⟩ = _ := z5_2
      have q4 : wr.drew.cell? ⟨b + 1, 3, none⟩ = _ := z5_3
      have H7 := Lib.hid HSD.out.h7
      go_region_held3 (fun w' => w'.cell? ⟨b, 0, none⟩ = some (.slice aC n cC) ∧ w'.cell? ⟨b, 1, none⟩ = some (.slice aS n cS) ∧ w'.cell? ⟨b + 1, 1, none⟩ = some (.int .u64 (a.sum : Nat)) ∧ w'.cell? ⟨b + 1, 2, none⟩ = some (.int .u32 (a.slot : Nat)) ∧ w'.cell? ⟨b + 1, 3, none⟩ = some (.int .u32 (a.other : Nat)))
        (first | go_keep | exact ⟨q0, q1, q2, q3, q4⟩ | exact ⟨hp5.cell (fun h => h) q0, hp5.cell (fun h => h) q1, hp5.cell (fun h => h) q2, hp5.cell (fun h => h) q3, hp5.cell (fun h => h) q4⟩ | exact hst _ _ _ ⟨hp5.cell (fun h => h) q0, hp5.cell (fun h => h) q1, hp5.cell (fun h => h) q2, hp5.cell (fun h => h) q3, hp5.cell (fun h => h) q4⟩)
        ((go_at_call 40; (with_reducible refine Calls.mono HF.out ?_); rintro e w5 ⟨rfl, hq5, hp5⟩; have h75 := (Mod.of_drew hp5 : Pure wr w5).heap (fun h => h) H7.out; have h75_0 := cell_of_row _ _ 0 _ _ _ h75; have h75_1 := cell_of_row _ _ 1 _ _ _ h75; have h75_f := (fun j => frozen_of_row _ _ j _ _ h75); have h75_l := lt_of_block h75; simp at h75_0 h75_1; have H_h75 := Lib.hid h75; clear h75))
      have HE := Lib.hid (HSD.out.pure (Mod.of_drew hp5 : Pure wr w5))
      clear q0 q1 q2 q3 q4 hst
      go_wp2
      obtain ⟨f1, f2, f3, x0, x1⟩ := do_fin0 (v0 := .slice aC n cC) (v1 := .slice aS n cS) HE.out.hs HE.out.rf HE.out.mw H_h75.out hww (by have := HBW.out; omega) rfl
      obtain ⟨Y, hY⟩ : ∃ Y, (w5.setCell ⟨b + 1 + 1, 0, none⟩ (.slice aC n cC)).setCell ⟨b + 1 + 1, 1, none⟩ (.slice aS n cS) = Y := ⟨_, rfl⟩
      rw [hY] at f1 f2 f3 x0 x1 ⊢
      exact bodyPost_ret (v := .tuple #[.pointer (some ⟨p, 0, none⟩), .agg #[.slice aC n cC, .slice aS n cS], .bool true]) (by have x0' := x0; have x1' := x1; simp [results, Try.results47, go_sem, x0', x1']) rfl ⟨p, _, Gs, aC, cC, aS, cS, by unfold refI; rw [HN.out], f1, f2, f3⟩
end Go.Proofs.Ytbjiebhbmpafpaa
