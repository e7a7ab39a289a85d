/- The reference of layer 7: At, Insert, Remove, Replace. -/
import Derived.Test.YtbjiebhbmpafpaaR7b
namespace Go.Proofs.Ytbjiebhbmpafpaa
open Go.RowKit Go.Shelf
set_option maxRecDepth 100000

theorem slot_some {Gs : List Grp} (h : IxOk Gs) {x : Nat × Nat} (h1 : x.1 < Gs.length) (h2 : x.2 < 8) : (laneS Gs)[lane x]? = some (slotAt Gs x) := by
  unfold lane slotAt
  rw [laneS_at h h1 h2, List.getD_eq_getElem?_getD, List.getElem?_eq_getElem (by rw [(h.at h1).len]; exact h2)]
  rfl
theorem seenFrom_length {Gs : List Grp} (h : IxOk Gs) (tag : Nat) : ∀ L : List Nat, (∀ i ∈ L, i < Gs.length) → (seenFrom Gs tag L).length ≤ 8 * L.length
  | [], _ => by simp [seenFrom]
  | i :: L, hL => by
    have h1 := seenFrom_length h tag L (fun k hk => hL k (by simp [hk]))
    have h2 : (seenIn (grpAt Gs i) tag).length ≤ 8 := by
      rw [← seenTo_eight (h.at (hL i (by simp))) tag]
      exact seenTo_length _ _ _
    unfold seenFrom
    rw [List.length_append, List.length_map, List.length_cons]
    split
    · simp; omega
    · omega
theorem seenM_length {Gs : List Grp} (h : IxOk Gs) (sum : Nat) : (seenM Gs sum).length ≤ 8388608 := by
  have h1 := seenFrom_length h (sum % 128) (probes (sum / 128) Gs.length) (fun i hi => probes_lt h.pow.pos _ hi)
  have h2 : (probes (sum / 128) Gs.length).length = Gs.length := by unfold probes; simp
  have h3 := h.pow.le
  unfold seenM
  omega
def atPost (o : Option (Nat × Nat)) : Int := match o with | some x => (lane x : Int) | none => -1
set_option maxHeartbeats 2000000 in
theorem rAt_ok {w : World} {aC : Option Addr} {cC : Nat} {aS : Option Addr} {cS : Nat} {Gs : List Grp} (h : RefI w aC cC aS cS Gs) (sum slot : Nat) (hsum : sum < 18446744073709551616) (hsl : slot ≤ 4294967295) : Calls Try.prog 127 #[refI aC cC aS cS Gs.length, .int .u64 sum, .int .u32 slot] w fun e w' => e = .returned (.int .i64 (atPost (findM Gs sum (fun x => x == slot)))) ∧ Pure w w' := by
  have hg1 := h.ok.pow.le
  have hR := RBox.new h
  have HOK := Lib.hid h.ok
  clear h
  obtain ⟨res, hres⟩ : ∃ res, atPost (findM Gs sum (fun x => x == slot)) = res := ⟨_, rfl⟩
  rw [hres]
  have HRES := Lib.hid hres
  clear hres
  unfold refI
  go_enter Try.func127, Try.ntmps127
  go_upto_region 1 with fail
  generalize w.alloc (.cells #[.slice aC (8 * Gs.length) cC, .slice aS (8 * Gs.length) cS] 82) = W at *
  obtain ⟨b, hb⟩ : ∃ b, w.heap.size = b := ⟨_, rfl⟩
  rw [hb] at hR ⊢
  have HR := Lib.hid hR
  have hbx := hR.bx
  have hSn := rSeen_ok hR.rf sum hsum
  unfold refI at hSn
  have HSn := Lib.hid hSn
  clear hR hb hSn
  have hbx_0 := cell_of_row _ _ 0 _ _ _ hbx; have hbx_1 := cell_of_row _ _ 1 _ _ _ hbx; have hbx_f := (fun j => frozen_of_row _ _ j _ _ hbx); have hbx_l := lt_of_block hbx; simp at hbx_0 hbx_1; have H_hbx := Lib.hid hbx; clear hbx
  go_upto_region 2 with (go_at_call 48; refine Calls.mono HSn.out ?_; rintro e w2 ⟨aL, cL, rfl, hSI⟩)
  have HB2 := Lib.hid (HR.out.pure hSI.pu)
  have hrow := hSI.row
  clear hbx_0 hbx_1 hbx_f hbx_l
  clear H_hbx HR HSn hSI
  have hbx := HB2.out.bx
  obtain ⟨B1, B2, e1, e2, l1, l2, _, hCS⟩ := HB2.out.rf.cells
  subst e1 e2
  have HCS := Lib.hid hCS
  obtain ⟨n, hn⟩ : ∃ n, 8 * Gs.length = n := ⟨_, rfl⟩
  rw [hn] at hbx l1 l2 ⊢
  have HN := Lib.hid hn
  have hnn : n ≤ 8388608 := by omega
  clear hCS hn
  have hbx_0 := cell_of_row _ _ 0 _ _ _ hbx; have hbx_1 := cell_of_row _ _ 1 _ _ _ hbx; have hbx_f := (fun j => frozen_of_row _ _ j _ _ hbx); have hbx_l := lt_of_block hbx; simp at hbx_0 hbx_1; have H_hbx := Lib.hid hbx; clear hbx
  have hkl : (seenK Gs sum).length = (seenM Gs sum).length := by unfold seenK; simp
  have HROW := Lib.hid hrow
  have HKL := Lib.hid hkl
  obtain ⟨m, hm⟩ : ∃ m, (seenK Gs sum).length = m := ⟨_, rfl⟩
  have hml : m ≤ 8388608 := by have := seenM_length HOK.out sum; omega
  rw [hm] at HROW ⊢
  have HM := Lib.hid hm
  clear hrow hkl hm
  have wm : IntKind.i64.wrap (m : Int) = m := IntWalk.i64_in _ (by omega)
  go_upto_region 3 with fail
  go_loopw [8] (fun v8 wr => ∃ i, v8 = .int .i64 (i : Nat) ∧ i ≤ m ∧ (∀ x ∈ (seenM Gs sum).take i, slotAt Gs x ≠ slot) ∧ Pure w2 wr) (fun v8 _ => m - (intOf v8).toNat)
  case atStart => exact ⟨0, rfl, Nat.zero_le _, fun x hx => by simp at hx, Mod.refl _ _⟩
  case round =>
    clear hbx_0 hbx_1 hbx_f hbx_l
    obtain ⟨i, rfl, hi, hne, hpu⟩ := hrel
    have HNE := Lib.hid hne
    have HPU := Lib.hid hpu
    have hbx := hpu.heap (fun h => h) H_hbx.out
    clear hne hpu H_hbx
    have hbx_0 := cell_of_row _ _ 0 _ _ _ hbx; have hbx_1 := cell_of_row _ _ 1 _ _ _ hbx; have hbx_f := (fun j => frozen_of_row _ _ j _ _ hbx); have hbx_l := lt_of_block hbx; simp at hbx_0 hbx_1; have H_hbx := Lib.hid hbx; clear hbx
    by_cases hlt : i < m
    · have hlt' : (i : Int) < (m : Int) := by omega
      obtain ⟨x, hx⟩ : ∃ x, (seenM Gs sum)[i]? = some x := ⟨_, List.getElem?_eq_getElem (by have := HKL.out; have := HM.out; omega)⟩
      have hf := seen_full HOK.out (List.mem_of_getElem? hx)
      have hcS := HPU.out.cell (fun h => h) (HCS.out (lane x) (slotAt Gs x) (slot_some HOK.out hf.hi hf.hj))
      have hsx := slotAt_lt HOK.out x
      have hlx : lane x < n := by have := HN.out; have := hf.hi; have := hf.hj; unfold lane; omega
      obtain ⟨BL, cl, hsv, _, _, hcl, _, _⟩ := owns_at HROW.out (by omega)
      cases hsv
      have hcL := HPU.out.cell (fun h => h) (hcl i (.int .i64 (lane x : Nat)) (by unfold i64v seenK; rw [List.getElem?_map, List.getElem?_map, hx]; rfl))
      have HX := Lib.hid hx
      clear hcl hx hf
      obtain ⟨k, hk⟩ : ∃ k, lane x = k := ⟨_, rfl⟩
      rw [hk] at hcS hcL hlx
      have hkn : (k : Int) < (n : Int) := by omega
      obtain ⟨sx, hsxe⟩ : ∃ sx, slotAt Gs x = sx := ⟨_, rfl⟩
      rw [hsxe] at hcS hsx
      have HK := Lib.hid hk; have HSX := Lib.hid hsxe
      clear hk hsxe
      have wk : IntKind.i64.wrap (k : Int) = k := IntWalk.i64_in _ (by omega)
      have wi : IntKind.i64.wrap ((i : Int) + 1) = (i : Int) + 1 := IntWalk.i64_in _ (by omega)
      have q1 : wr.drew.cell? ⟨b, 1, none⟩ = _ := hbx_1
      have qS : wr.drew.cell? ⟨B2, k, none⟩ = _ := hcS
      have qL : wr.drew.cell? ⟨BL, i, none⟩ = _ := hcL
      go_upto_region 5 with fail
      go_region_held3 (fun w' => w'.cell? ⟨b, 1, none⟩ = some (.slice (some ⟨B2, 0, none⟩) n cS) ∧ w'.cell? ⟨B2, k, none⟩ = some (.int .u32 (sx : Nat)) ∧ w'.cell? ⟨BL, i, none⟩ = some (.int .i64 (k : Nat))) (first | go_keep | exact ⟨q1, qS, qL⟩) (fail)
      by_cases he : sx = slot
      · have he' : ((sx : Int) == (slot : Int)) = true := by simp [he]
        have hfm : findM Gs sum (fun x => x == slot) = some x := by
          unfold findM
          have h1 := List.take_append_drop i (seenM Gs sum)
          have h2 : (seenM Gs sum).drop i = x :: (seenM Gs sum).drop (i + 1) := by
            have hql := List.getElem?_eq_some_iff.1 HX.out
            rw [List.drop_eq_getElem_cons hql.1, hql.2]
          rw [← h1, h2, List.find?_append, List.find?_eq_none.2 (fun y hy => by have := HNE.out y hy; simpa using this)]
          simp [HSX.out, he]
        have hr := HRES.out
        rw [hfm] at hr
        have HR := Lib.hid hr
        clear hfm hr
        subst he
        go_wp2
        go_ret
        refine ⟨?_, HB2.out.pu.trans (HPU.out.drew)⟩
        rw [← HR.out]
        show _ = Ending.returned (.int .i64 (lane x : Int))
        rw [HK.out]
        rfl
      · have he' : ((sx : Int) == (slot : Int)) = false := by simp; omega
        have he2 : (sx : Int) ≠ (slot : Int) := by omega
        have hnx : ∀ y ∈ (seenM Gs sum).take (i + 1), slotAt Gs y ≠ slot := fun y hy => by
          rw [List.take_add_one, HX.out] at hy
          rcases List.mem_append.1 hy with h | h
          · exact HNE.out y h
          · have : y = x := by simpa using h
            rw [this, HSX.out]; exact he
        have HNX := Lib.hid hnx
        clear hnx
        go_wp2
        go_roundw
        case rel => exact ⟨i + 1, by go_num, hlt, HNX.out, HPU.out.drew⟩
        case measure => simp [intOf]; omega
    · have hlt' : (m : Int) ≤ (i : Int) := by omega
      have hfm : findM Gs sum (fun x => x == slot) = none := by
        unfold findM
        refine List.find?_eq_none.2 (fun y hy => ?_)
        have := HNE.out y (by rw [List.take_of_length_le (by have := HKL.out; have := HM.out; omega)]; exact hy)
        simpa using this
      have hr := HRES.out
      rw [hfm] at hr
      subst hr
      clear hfm
      go_wp2
      go_ret
      exact ⟨rfl, HB2.out.pu.trans HPU.out⟩
end Go.Proofs.Ytbjiebhbmpafpaa
