/- Lemmas and contracts of functions, strung together out of 1 texts. No condition. -/
import Derived.Test.YtapplindfijngaaGreatJPfDictOf17
/- The reference of layer 7: Insert. -/
namespace Go.Proofs.YtapplindfijngaaGreat
open Go.RowKit Go.Shelf
set_option maxRecDepth 100000

theorem lane_set {f : Grp → List Nat} {Gs : List Grp} {i j t s v : Nat} (h : ∀ c ∈ Gs, (f c).length = 8) (h' : ∀ c ∈ setG Gs i j t s, (f c).length = 8) (hi : i < Gs.length) (hj : j < 8) (hf : f (putG j t s (grpAt Gs i)) = (f (grpAt Gs i)).set j v) :
    (setG Gs i j t s).flatMap f = (Gs.flatMap f).set (8 * i + j) v := by
  apply List.ext_getElem?
  intro k
  by_cases hk : k < 8 * Gs.length
  · have hq : k / 8 < Gs.length := by omega
    have hr : k % 8 < 8 := Nat.mod_lt _ (by decide)
    have e : k = 8 * (k / 8) + k % 8 := by omega
    have h1 := lan8_at h' (i := k / 8) (j := k % 8) (by rw [setG_length]; exact hq) hr
    have h2 := lan8_at h hq hr
    rw [← e] at h1 h2
    rw [h1, List.getElem?_set, h2, grpAt_setG hi, lan8_len h]
    by_cases e1 : k / 8 = i
    · rw [if_pos e1, hf, List.getElem?_set]
      have hl : (f (grpAt Gs i)).length = 8 := h _ (List.mem_of_getElem? (grpAt_some hi))
      by_cases e2 : j = k % 8
      · rw [if_pos e2, if_pos (by omega), if_pos (by omega), if_pos (by omega)]
      · rw [if_neg e2, if_neg (by omega), e1]
    · rw [if_neg e1, if_neg (by omega)]
  · rw [List.getElem?_eq_none (by rw [lan8_len h', setG_length]; omega), List.getElem?_eq_none (by rw [List.length_set, lan8_len h]; omega)]
theorem laneC_set {Gs : List Grp} {i j t s : Nat} (h : IxOk Gs) (h' : IxOk (setG Gs i j t s)) (hi : i < Gs.length) (hj : j < 8) : laneC (setG Gs i j t s) = (laneC Gs).set (8 * i + j) t :=
  lane_set (fun c hc => (h.grp c hc).ctl.1) (fun c hc => (h'.grp c hc).ctl.1) hi hj rfl
theorem laneS_set {Gs : List Grp} {i j t s : Nat} (h : IxOk Gs) (h' : IxOk (setG Gs i j t s)) (hi : i < Gs.length) (hj : j < 8) : laneS (setG Gs i j t s) = (laneS Gs).set (8 * i + j) s :=
  lane_set (fun c hc => (h.grp c hc).len) (fun c hc => (h'.grp c hc).len) hi hj rfl
/-- Both lanes are stored into. -/
theorem RefI.put {W W' : World} {B1 B2 cC cS : Nat} {Gs : List Grp} {i j t s : Nat} (h : RefI W (some ⟨B1, 0, none⟩) cC (some ⟨B2, 0, none⟩) cS Gs) (hi : i < Gs.length) (hj : j < 8) (ht : t < 128 ∨ t = 128 ∨ t = 254) (hs : s ≤ 4294967295)
    (hW : (W.setCell ⟨B1, 8 * i + j, none⟩ (.int .u8 (t : Nat))).setCell ⟨B2, 8 * i + j, none⟩ (.int .u32 (s : Nat)) = W') :
    RefI W' (some ⟨B1, 0, none⟩) cC (some ⟨B2, 0, none⟩) cS (setG Gs i j t s) ∧ Mod (fun k => k = B1 ∨ k = B2) W W' := by
  have hok := h.ok.put (i := i) (j := j) ht hs
  have hm1 : Mod (fun k => k = B1) W (W.setCell ⟨B1, 8 * i + j, none⟩ (.int .u8 (t : Nat))) := Mod.set1 _ _ _
  have hm2 : Mod (fun k => k = B2) (W.setCell ⟨B1, 8 * i + j, none⟩ (.int .u8 (t : Nat))) W' := by rw [← hW]; exact Mod.set1 _ _ _
  have hne : B1 ≠ B2 := fun e => by
    obtain ⟨c1, e1⟩ := owns_type h.C (g := B1) rfl
    obtain ⟨c2, e2⟩ := owns_type h.S (g := B2) rfl
    rw [e, e2] at e1; cases e1
  refine ⟨⟨?_, ?_, hok⟩, (hm1.mono (fun k _ e => .inl e) : Mod (fun k => k = B1 ∨ k = B2) W _).then hm2 (fun k _ e => .inr e)⟩
  · rw [setG_length, laneC_set h.ok hok hi hj]
    have := owns_setCell h.C (8 * i + j) (.int .u8 (t : Nat)) (by omega)
    have h2 := owns_mod this hm2 (fun g hg e => hne (by
      have : B1 = g := by simpa [Value.ownBlock] using hg
      exact this.trans e))
    unfold u8s at h2 ⊢
    rw [List.map_set]
    exact h2
  · rw [setG_length, laneS_set h.ok hok hi hj]
    have h1 := owns_mod h.S hm1 (fun g hg e => hne (by
      have : B2 = g := by simpa [Value.ownBlock] using hg
      exact e.symm.trans this.symm))
    have := owns_setCell h1 (8 * i + j) (.int .u32 (s : Nat)) (by omega)
    rw [hW] at this
    unfold u32v at this ⊢
    rw [List.map_set]
    exact this
def rInsPost (w : World) (aC : Option Addr) (cC : Nat) (aS : Option Addr) (cS : Nat) (Gs : List Grp) (sum slot : Nat) (e : Ending) (w' : World) : Prop :=
  Pure w w' ∧ match insM Gs sum slot with
  | some Gs' => ∃ aC' cC' aS' cS', e = .returned (.tuple #[refI aC' cC' aS' cS' Gs'.length, .int .i64 0]) ∧ RefI w' aC' cC' aS' cS' Gs'
  | none => e = .returned (.tuple #[refI aC cC aS cS Gs.length, .int .i64 7]) ∧ RefI w' aC cC aS cS Gs
theorem free_is {c : Grp} {j x : Nat} (hx : c.1[j]? = some x) (h : 128 ≤ x) (hn : ∀ j', j' < j → ∀ y, c.1[j']? = some y → y < 128) : freeOf c = j := by
  unfold freeOf
  obtain ⟨hl, he⟩ := List.getElem?_eq_some_iff.1 hx
  rw [List.findIdx_eq hl]
  refine ⟨by rw [he]; simpa using h, fun j' hj' => ?_⟩
  have := hn j' hj' _ (List.getElem?_eq_getElem (by omega))
  simp; omega
theorem free_full {c : Grp} (hg : GrpOk c) (hn : ∀ j', j' < 8 → ∀ y, c.1[j']? = some y → y < 128) : freeOf c = 8 := by
  refine (free_eight hg).2 (fun x hx => ?_)
  obtain ⟨j, hj⟩ := List.getElem?_of_mem hx
  have hl := (List.getElem?_eq_some_iff.1 hj).1
  rw [hg.ctl.1] at hl
  exact hn j hl x hj
set_option maxHeartbeats 4000000 in
theorem rInsert_ok {w : World} {aC : Option Addr} {cC : Nat} {aS : Option Addr} {cS : Nat} {Gs : List Grp} (h : RefI w aC cC aS cS Gs) (sum slot : Nat) (hsum : sum < 18446744073709551616) (hsl : slot ≤ 4294967295) : Calls Tryz.prog 110 #[refI aC cC aS cS Gs.length, .int .u64 sum, .int .u32 slot] w (rInsPost w aC cC aS cS Gs sum slot) := by
  have hg1 := h.ok.pow.le
  have HOK := Lib.hid h.ok
  have HPart := Lib.hid (fun W => rPart_ok sum W hsum)
  have HTag := Lib.hid (fun W => rTag_ok sum W hsum)
  have HGr := Lib.hid (fun W => rGroups_ok (w := W) (aC := aC) (cC := cC) (aS := aS) (cS := cS) h.ok)
  have HAll := Lib.hid (fun W => rAll_ok (sum / 128) Gs.length h.ok.pow (by omega) W)
  have hR0 := RBox.new h
  have hal : Pure (w.alloc (.cells #[.slice aC (8 * Gs.length) cC, .slice aS (8 * Gs.length) cS] 36)) ((w.alloc (.cells #[.slice aC (8 * Gs.length) cC, .slice aS (8 * Gs.length) cS] 36)).alloc (.cells #[.slice none 0 0, .slice none 0 0] 36)) := (Mod.refl _ _).alloc _
  have hR := hR0.pure hal
  have h6 := heap_new (w := w.alloc (.cells #[.slice aC (8 * Gs.length) cC, .slice aS (8 * Gs.length) cS] 36)) (o := .cells #[.slice none 0 0, .slice none 0 0] 36 (0, 0)) (n := w.heap.size + 1) (by simp)
  clear h hR0 hal
  unfold refI
  unfold refI at HGr
  go_enter Tryz.func110, Tryz.ntmps110
  go_upto_region 1 with fail
  generalize (w.alloc (.cells #[.slice aC (8 * Gs.length) cC, .slice aS (8 * Gs.length) cS] 36)).alloc (.cells #[.slice none 0 0, .slice none 0 0] 36) = W at *
  obtain ⟨b, hb⟩ : ∃ b, w.heap.size = b := ⟨_, rfl⟩
  rw [hb] at hR h6 ⊢
  have HR := Lib.hid hR
  have H6 := Lib.hid h6
  have hbx := hR.bx
  have HB := Lib.hid hb
  clear hR hb h6
  obtain ⟨part, hpart⟩ : ∃ part, sum / 128 = part := ⟨_, rfl⟩
  rw [hpart] at HPart HAll
  have hbx_0 := cell_of_row _ _ 0 _ _ _ hbx; have hbx_1 := cell_of_row _ _ 1 _ _ _ hbx; have hbx_f := (fun j => frozen_of_row _ _ j _ _ hbx); have hbx_l := lt_of_block hbx; simp at hbx_0 hbx_1; have H_hbx := Lib.hid hbx; clear hbx
  have q0 : W.drew.cell? ⟨b, 0, none⟩ = _ := hbx_0
  have q1 : W.drew.cell? ⟨b, 1, none⟩ = _ := hbx_1
  go_region_held3 (fun w' => w'.cell? ⟨b, 0, none⟩ = some (.slice aC (8 * Gs.length) cC) ∧ w'.cell? ⟨b, 1, none⟩ = some (.slice aS (8 * Gs.length) cS))
    (first | go_keep | exact ⟨hp1.cell (fun h => h) q0, hp1.cell (fun h => h) q1⟩ | exact ⟨hp2.cell (fun h => h) (hp1.cell (fun h => h) q0), hp2.cell (fun h => h) (hp1.cell (fun h => h) q1)⟩)
    (first
      | (go_at_call 148; (with_reducible refine Calls.mono (HPart.out _) ?_); rintro e w' ⟨rfl, rfl⟩)
      | (go_at_call 14; (with_reducible refine Calls.mono (HGr.out _) ?_); rintro e w1 ⟨rfl, hp1⟩)
      | (go_at_call 147; (with_reducible refine Calls.mono (HAll.out _) ?_); rintro e w2 ⟨aP, cP, rfl, hrP, hp2, hfP⟩))
  have hpp : Pure W w2 := (Mod.of_drew hp1 : Pure W w1).trans hp2
  have HB2 := Lib.hid (HR.out.pure hpp)
  have H62 := Lib.hid (hpp.heap (fun h => h) H6.out)
  have HRP := Lib.hid hrP
  clear hbx_0 hbx_1 hbx_f hbx_l
  clear H_hbx q0 q1 hrP hfP hp1 hp2 HR HPart HGr HAll hpp H6
  obtain ⟨B1, B2, e1, e2, l1, l2, hC, _⟩ := HB2.out.rf.cells
  subst e1 e2
  have hbx := HB2.out.bx
  have HC := Lib.hid hC
  clear hC
  obtain ⟨B', c', hsv, hcP, hB', hcellsP, _, _⟩ := owns_at HRP.out HOK.out.pow.pos
  cases hsv
  have HCP := Lib.hid hcellsP
  clear hcellsP
  generalize hn : 8 * Gs.length = n at *
  have hbx_0 := cell_of_row _ _ 0 _ _ _ hbx; have hbx_1 := cell_of_row _ _ 1 _ _ _ hbx; have hbx_f := (fun j => frozen_of_row _ _ j _ _ hbx); have hbx_l := lt_of_block hbx; simp at hbx_0 hbx_1; have H_hbx := Lib.hid hbx; clear hbx
  have wg : IntKind.i64.wrap (Gs.length : Int) = Gs.length := IntWalk.i64_in _ (by omega)
  have hnn : n ≤ 8388608 := by omega
  have HNN := Lib.hid hn
  clear hn
  obtain ⟨tag, htag⟩ : ∃ tag, sum % 128 = tag := ⟨_, rfl⟩
  rw [htag] at HTag
  have htl : tag < 128 := by omega
  have HPT := Lib.hid (And.intro hpart htag)
  clear hpart htag
  go_upto_region 3 with fail
  go_loopw [9] (fun v9 wr => ∃ q, v9 = .int .i64 (q : Nat) ∧ q ≤ Gs.length ∧ (∀ k ∈ (probes part Gs.length).take q, freeOf (grpAt Gs k) = 8) ∧ wr = w2) (fun v9 _ => Gs.length - (intOf v9).toNat)
  case atStart => exact ⟨0, rfl, Nat.zero_le _, fun k hk => by simp at hk, rfl⟩
  case round =>
    obtain ⟨q, rfl, hq, hnb, rfl⟩ := hrel
    have HNB := Lib.hid hnb
    clear hnb
    by_cases hlt : q < Gs.length
    · have hlt' : (q : Int) < (Gs.length : Int) := by omega
      obtain ⟨i, hi⟩ : ∃ i, (probes part Gs.length)[q]? = some i := ⟨_, List.getElem?_eq_getElem (by unfold probes; simpa using hlt)⟩
      have hig : i < Gs.length := probes_lt HOK.out.pow.pos part (List.mem_of_getElem? hi)
      have hcq := HCP.out q (.int .i64 (i : Nat)) (by unfold i64v; rw [List.getElem?_map, hi]; rfl)
      have htk : (probes part Gs.length).take (q + 1) = (probes part Gs.length).take q ++ [i] := by rw [List.take_add_one, hi]; rfl
      have hdr : probes part Gs.length = (probes part Gs.length).take q ++ i :: (probes part Gs.length).drop (q + 1) := by
        have h1 := List.take_append_drop q (probes part Gs.length)
        have h2 : (probes part Gs.length).drop q = i :: (probes part Gs.length).drop (q + 1) := by
          have hql := (List.getElem?_eq_some_iff.1 hi)
          rw [List.drop_eq_getElem_cons hql.1, hql.2]
        rw [h2] at h1
        exact h1.symm
      have HTK := Lib.hid htk; have HDR := Lib.hid hdr
      clear hi htk hdr
      generalize (probes part Gs.length).take q = pre at *
      have w1 : IntKind.i64.wrap (8 * (i : Int)) = 8 * (i : Int) := IntWalk.i64_in _ (by omega)
      have w2' : IntKind.i64.wrap (8 * (i : Int) + 8) = 8 * (i : Int) + 8 := IntWalk.i64_in _ (by omega)
      go_upto_region 6 with fail
      go_loopw [10] (fun v10 wx => ∃ j, v10 = .int .i64 (8 * (i : Int) + (j : Nat)) ∧ j ≤ 8 ∧ (∀ j', j' < j → ∀ y, (grpAt Gs i).1[j']? = some y → y < 128) ∧ wx = wr) (fun v10 _ => 8388700 - (intOf v10).toNat)
      case atStart => exact ⟨0, by simp, by omega, fun j' hj' => by omega, rfl⟩
      case round =>
        obtain ⟨j, rfl, hj, hno, rfl⟩ := hrel
        have HNO := Lib.hid hno
        clear hno
        by_cases h8 : j < 8
        · have hg := HOK.out.at hig
          obtain ⟨x, hx⟩ : ∃ x, (grpAt Gs i).1[j]? = some x := ⟨_, List.getElem?_eq_getElem (by rw [hg.ctl.1]; exact h8)⟩
          have hx256 := hg.ctl.bytes.2 x (List.mem_of_getElem? hx)
          have hcx := HC.out (8 * i + j) x ((laneC_at HOK.out hig h8).trans hx)
          obtain ⟨k, hk⟩ : ∃ k, 8 * i + j = k := ⟨_, rfl⟩
          have hk' : 8 * (i : Int) + (j : Int) = (k : Int) := by omega
          have hkl : (k : Int) < (n : Int) := by have := HNN.out; omega
          have hkl2 : (k : Int) < 8 * (i : Int) + 8 := by omega
          have hkl3 : (k : Int) ≤ 8388608 := by omega
          rw [hk] at hcx
          rw [hk']
          have HX := Lib.hid hx; have HK := Lib.hid hk; have HK' := Lib.hid hk'
          clear hx hk hk' hg
          have wk : IntKind.i64.wrap ((k : Int) + 1) = (k : Int) + 1 := IntWalk.i64_in _ (by omega)
          by_cases h127 : 127 < x
          · have h127' : (127 : Int) < (x : Int) := by omega
            have hfree := free_is HX.out (by omega) HNO.out
            have hins : insM Gs sum slot = some (setG Gs i j tag slot) := by
              unfold insM
              rw [HPT.out.1, HPT.out.2, HDR.out, insFrom_skip pre _ HNB.out]
              unfold insFrom
              rw [if_neg (by rw [hfree]; omega), hfree]
            have HINS := Lib.hid hins
            clear hfree hins
            have hcp := rCopy_ok HB2.out.rf
            unfold refI at hcp
            have HCpy := Lib.hid hcp
            clear hcp
            rw [HNN.out] at HCpy
            go_upto_region 10 with (go_at_call 120; refine Calls.mono HCpy.out ?_; rintro e w5 ⟨aC5, cC5, aS5, cS5, rfl, hR5, hp5, hf51, hf52⟩)
            have hal : Pure w5 (w5.alloc (.cells #[.slice aC5 n cC5, .slice aS5 n cS5] 36)) := (Mod.refl _ w5).alloc _
            have h11 := heap_new (w := w5) (o := .cells #[.slice aC5 n cC5, .slice aS5 n cS5] 36 (0, 0)) rfl
            have HR5 := Lib.hid (hR5.pure hal)
            have HP5 := Lib.hid (hp5.trans hal)
            obtain ⟨B5, B6, e1, e2, l5, l6, hC5, hS5⟩ := (hR5.pure hal).cells
            subst e1 e2
            have hf5 : wr.heap.size ≤ B5 := hf51 B5 rfl
            have hf6 : wr.heap.size ≤ B6 := hf52 B6 rfl
            clear hbx_0 hbx_1 hbx_f hbx_l
            clear H_hbx hcx hcq HCpy hal hR5 hp5 hf51 hf52
            have HH6 := Lib.hid (HP5.out.heap (fun h => h) H62.out)
            generalize w5.alloc (.cells #[.slice (some ⟨B5, 0, none⟩) n cC5, .slice (some ⟨B6, 0, none⟩) n cS5] 36) = W5 at *
            generalize w5.heap.size = b11 at *
            have hkn : k < n := by omega
            have hk8 := HK.out
            have zc : ∃ u, W5.cell? ⟨B5, k, none⟩ = some u := ⟨_, hC5 k _ (List.getElem?_eq_getElem (by rw [laneC_length HOK.out, HNN.out]; exact hkn))⟩
            have zs : ∃ u, W5.cell? ⟨B6, k, none⟩ = some u := ⟨_, hS5 k _ (List.getElem?_eq_getElem (by rw [laneS_length HOK.out, HNN.out]; exact hkn))⟩
            obtain ⟨u5, zc⟩ := zc
            obtain ⟨u6, zs⟩ := zs
            obtain ⟨B5', c5', hsv5, _, _, _, fz5, _⟩ := owns_at HR5.out.C (by have := HOK.out.pow.pos; omega)
            cases hsv5
            obtain ⟨B6', c6', hsv6, _, _, _, fz6, _⟩ := owns_at HR5.out.S (by have := HOK.out.pow.pos; omega)
            cases hsv6
            have H11 := Lib.hid h11
            rw [HNN.out] at l5 l6
            clear hC5 hS5 hk8
            have n511 : b11 ≠ B5 := fun e => by
              obtain ⟨cc, e2⟩ := owns_type HR5.out.C (g := B5) rfl
              have := H11.out; rw [e, e2] at this; cases this
            have n611 : b11 ≠ B6 := fun e => by
              obtain ⟨cc, e2⟩ := owns_type HR5.out.S (g := B6) rfl
              have := H11.out; rw [e, e2] at this; cases this
            have n56 : B6 ≠ B5 := fun e => by
              obtain ⟨cc, e2⟩ := owns_type HR5.out.S (g := B6) rfl
              obtain ⟨c3, e3⟩ := owns_type HR5.out.C (g := B5) rfl
              rw [e, e3] at e2; cases e2
            have N511 := Lib.hid n511; have N611 := Lib.hid n611; have N56 := Lib.hid n56
            clear n511 n611 n56
            have h11_0 := cell_of_row _ _ 0 _ _ _ h11; have h11_1 := cell_of_row _ _ 1 _ _ _ h11; have h11_f := (fun j => frozen_of_row _ _ j _ _ h11); have h11_l := lt_of_block h11; simp at h11_0 h11_1; have H_h11 := Lib.hid h11; clear h11
            go_cut [] (fun wc => wc = W5.drew.setCell ⟨B5, k, none⟩ (.int .u8 (tag : Nat)))
            case first =>
              go_region_law ((go_simp; go_at_call 149; refine Calls.mono (HTag.out _) ?_; rintro e w' ⟨rfl, rfl⟩))
              all_goals
                go_wp2_with fail
                go_meet
                rfl
            case rest =>
              subst hcut
              have hm1 : Mod (fun k => k = B5) W5 (W5.drew.setCell ⟨B5, k, none⟩ (.int .u8 (tag : Nat))) := Mod.of_drew (Mod.set1 B5 k _)
              have h11q := hm1.heap N511.out H11.out
              have zs' := hm1.cell (a := ⟨B6, k, none⟩) N56.out zs
              have fz6' : ∀ j, (W5.drew.setCell ⟨B5, k, none⟩ (.int .u8 (tag : Nat))).frozen? ⟨B6, j, none⟩ = false := by
                obtain ⟨B7', c7', hsv7, _, _, _, fz7, _⟩ := owns_at (owns_mod HR5.out.S hm1 (fun g hg e => N56.out (by
                  have : B6 = g := by simpa [Value.ownBlock] using hg
                  exact this.trans e))) (by have := HOK.out.pow.pos; omega)
                cases hsv7
                exact fz7
              have hput := RefI.put (i := i) (j := j) (t := tag) (s := slot) (W := W5.drew) (HR5.out.pure (Mod.refl (fun _ => False) W5).drew) hig h8 (.inl htl) hsl rfl
              rw [HK.out] at hput
              have HPUT := Lib.hid hput
              clear h11_0 h11_1 h11_f h11_l
              clear H_h11 zs zc fz5 fz6 hput hm1
              obtain ⟨W6, hW6⟩ : ∃ W6, W5.drew.setCell ⟨B5, k, none⟩ (.int .u8 (tag : Nat)) = W6 := ⟨_, rfl⟩
              rw [hW6] at h11q zs' fz6' HPUT ⊢
              clear hW6
              have h11q_0 := cell_of_row _ _ 0 _ _ _ h11q; have h11q_1 := cell_of_row _ _ 1 _ _ _ h11q; have h11q_f := (fun j => frozen_of_row _ _ j _ _ h11q); have h11q_l := lt_of_block h11q; simp at h11q_0 h11q_1; have H_h11q := Lib.hid h11q; clear h11q
              go_upto_region 12 with fail
              have hnb : ∀ {bb : Nat} {cs : Array Value}, W5.heap[bb]? = some (.cells cs 36 (0, 0)) → ¬ (bb = B5 ∨ bb = B6) := by
                rintro bb cs hbb (e | e)
                · obtain ⟨cc, e2⟩ := owns_type HR5.out.C (g := B5) rfl
                  rw [e, e2] at hbb; cases hbb
                · obtain ⟨cc, e2⟩ := owns_type HR5.out.S (g := B6) rfl
                  rw [e, e2] at hbb; cases hbb
              have hm7 := Mod.of_drew HPUT.out.2
              have k11 := hm7.heap (hnb H11.out) H11.out
              have k6 := hm7.heap (hnb HH6.out) HH6.out
              have HR7 := Lib.hid HPUT.out.1
              have HM7 := Lib.hid hm7
              clear h11q_0 h11q_1 h11q_f h11q_l
              clear H_h11q zs' fz6' HPUT hnb hm7
              generalize W6.setCell ⟨B6, k, none⟩ (.int .u32 (slot : Nat)) = W7 at *
              have k11_0 := cell_of_row _ _ 0 _ _ _ k11; have k11_1 := cell_of_row _ _ 1 _ _ _ k11; have k11_f := (fun j => frozen_of_row _ _ j _ _ k11); have k11_l := lt_of_block k11; simp at k11_0 k11_1; have H_k11 := Lib.hid k11; clear k11
              have k6_0 := cell_of_row _ _ 0 _ _ _ k6; have k6_1 := cell_of_row _ _ 1 _ _ _ k6; have k6_f := (fun j => frozen_of_row _ _ j _ _ k6); have k6_l := lt_of_block k6; simp at k6_0 k6_1; have H_k6 := Lib.hid k6; clear k6
              go_wp2
              have m2 := heap_set12 (v0 := .slice (some ⟨B5, 0, none⟩) n cC5) (v1 := .slice (some ⟨B6, 0, none⟩) n cS5) H_k6.out
              have hm : Mod (fun i => i = b + 1) W7 ((W7.setCell ⟨b + 1, 0, none⟩ (.slice (some ⟨B5, 0, none⟩) n cC5)).setCell ⟨b + 1, 1, none⟩ (.slice (some ⟨B6, 0, none⟩) n cS5)) := Mod.set2 (b + 1) 0 1 _ _
              have x0 := cell_of_row _ (b + 1) 0 _ _ _ m2; have x1 := cell_of_row _ (b + 1) 1 _ _ _ m2
              simp at x0 x1
              have hne : ∀ i, i = b + 1 → i < W7.heap.size → ∃ cs T' fz, W7.heap[i]? = some (.cells cs T' fz) ∧ T' ≠ 5 ∧ T' ≠ 43 := fun i e _ => ⟨_, _, _, e ▸ H_k6.out, by decide, by decide⟩
              have hw : w.heap.size ≤ wr.heap.size := HB2.out.pu.size
              have hl : (setG Gs i j tag slot).length = Gs.length := setG_length ..
              refine bodyPost_ret (v := .tuple #[refI (some ⟨B5, 0, none⟩) cC5 (some ⟨B6, 0, none⟩) cS5 (setG Gs i j tag slot).length, .int .i64 0]) (by unfold refI; rw [hl, HNN.out]; simp [results, Tryz.results110, go_sem, x0, x1]) rfl ⟨?_, ?_⟩
              · exact (((HB2.out.pu.trans HP5.out).then HM7.out (fun k hk e => by omega))).then hm (fun i hi e => by have := HB.out; omega)
              · rw [HINS.out]
                exact ⟨_, _, _, _, rfl, HR7.out.modT hm hne⟩
          · have h127' : (x : Int) ≤ 127 := by omega
            go_wp2
            go_roundw
            case rel => exact ⟨j + 1, congrArg (Value.int .i64) (by have := HK'.out; omega), h8, fun j' hj' y hy => by
              by_cases e : j' = j
              · subst e; rw [HX.out] at hy; cases hy; omega
              · exact HNO.out j' (by omega) y hy, trivial⟩
            case measure => simp [intOf]; omega
        · have e : j = 8 := by omega
          subst e
          have hf8 := free_full (HOK.out.at hig) HNO.out
          have HF8 := Lib.hid hf8
          clear hf8
          go_wp2
          go_roundw
          case rel => exact ⟨q + 1, by go_num, hlt, by
            rw [HTK.out]
            intro k hk
            rcases List.mem_append.1 hk with h | h
            · exact HNB.out k h
            · have : k = i := by simpa using h
              rw [this]; exact HF8.out, trivial⟩
          case measure => simp [intOf]; omega
    · have hlt' : (Gs.length : Int) ≤ (q : Int) := by omega
      have htk : (probes part Gs.length).take q = probes part Gs.length := List.take_of_length_le (by unfold probes; simp; omega)
      have hnone : insM Gs sum slot = none := by
        unfold insM
        rw [HPT.out.1, insFrom_none, ← htk]
        exact HNB.out
      have HNONE := Lib.hid hnone
      clear htk hnone
      have h6 := H62.out
      have h6_0 := cell_of_row _ _ 0 _ _ _ h6; have h6_1 := cell_of_row _ _ 1 _ _ _ h6; have h6_f := (fun j => frozen_of_row _ _ j _ _ h6); have h6_l := lt_of_block h6; simp at h6_0 h6_1; have H_h6 := Lib.hid h6; clear h6
      go_wp2
      have m2 := heap_set12 (v0 := .slice (some ⟨B1, 0, none⟩) n cC) (v1 := .slice (some ⟨B2, 0, none⟩) n cS) H_h6.out
      have hm : Mod (fun i => i = b + 1) wr ((wr.setCell ⟨b + 1, 0, none⟩ (.slice (some ⟨B1, 0, none⟩) n cC)).setCell ⟨b + 1, 1, none⟩ (.slice (some ⟨B2, 0, none⟩) n cS)) := Mod.set2 (b + 1) 0 1 _ _
      have x0 := cell_of_row _ (b + 1) 0 _ _ _ m2; have x1 := cell_of_row _ (b + 1) 1 _ _ _ m2
      simp at x0 x1
      have hne : ∀ i, i = b + 1 → i < wr.heap.size → ∃ cs T' fz, wr.heap[i]? = some (.cells cs T' fz) ∧ T' ≠ 5 ∧ T' ≠ 43 := fun i e _ => ⟨_, _, _, e ▸ H_h6.out, by decide, by decide⟩
      refine bodyPost_ret (v := .tuple #[refI (some ⟨B1, 0, none⟩) cC (some ⟨B2, 0, none⟩) cS Gs.length, .int .i64 7]) (by unfold refI; rw [HNN.out]; simp [results, Tryz.results110, go_sem, x0, x1]) rfl ⟨HB2.out.pu.then hm (fun i hi e => by have := HB.out; omega), ?_⟩
      rw [HNONE.out]
      exact ⟨rfl, HB2.out.rf.modT hm hne⟩
end Go.Proofs.YtapplindfijngaaGreat
