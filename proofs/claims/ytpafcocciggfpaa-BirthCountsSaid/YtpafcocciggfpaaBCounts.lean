/- law12.BirthCounts answers true. -/
import Derived.Test.YtpafcocciggfpaaKnown12
namespace Go.Proofs.Ytpafcocciggfpaa
open Go.RowKit Go.Shelf
set_option maxRecDepth 100000

/-! ### BirthCounts -/
theorem refNext_ok (n : Nat) (hn : n < 18446744073709551616) (w : World) : Calls Try.prog 23 #[.int .u64 n] w fun e w' => e = .returned (.tuple #[.int .u64 ((nxV n).1 : Nat), .int .i64 ((nxV n).2 : Nat)]) ∧ w = w' := by
  unfold nxV
  by_cases hc : n = 18446744073709551615
  · rw [if_pos hc]
    have d1 : ((n : Int) == 18446744073709551615) = true := by simp; omega
    clear hc hn
    go_enter Try.func23, Try.ntmps23
    go_wp2
    go_ret2
    exact ⟨rfl, rfl⟩
  · rw [if_neg hc]
    have d1 : ((n : Int) == 18446744073709551615) = false := by simp; omega
    have wn : IntKind.u64.wrap ((n : Int) + 1) = (n : Int) + 1 := by
      have := u64_wrap (n + 1) (by omega)
      rw [show (((n + 1 : Nat)) : Int) = (n : Int) + 1 by omega] at this
      exact this
    have hc2 : (n : Int) ≠ 18446744073709551615 := by omega
    clear hc hn
    go_enter Try.func23, Try.ntmps23
    go_wp2
    go_ret2
    exact ⟨by simp, rfl⟩
theorem nxS_lt {n : Nat} (h : n < 18446744073709551616) : nxS n < 18446744073709551616 := by unfold nxS; split <;> omega
theorem nx_cases (n : Nat) : ((nxV n).2 = 0 ∧ (nxV n).1 = nxS n) ∨ ((nxV n).2 = 7 ∧ nxS n = n) := by unfold nxV nxS; split <;> simp
set_option maxHeartbeats 2000000 in
theorem BirthCounts_true (last : Int) (h0 : 0 ≤ last) (h1 : last ≤ 18446744073709551615) (n at' : Int) {w : World} : Calls Try.prog 4 #[.int .u64 last, .int .i64 n, .int .i64 at'] w fun e w' => e = .returned (.bool true) ∧ Pure w w' := by
  obtain ⟨last, rfl⟩ := Int.eq_ofNat_of_zero_le h0
  have hl : last < 18446744073709551616 := by omega
  by_cases c1 : 0 ≤ n ∧ n ≤ 60
  · obtain ⟨n, rfl⟩ := Int.eq_ofNat_of_zero_le c1.1
    have hn : n ≤ 60 := by omega
    have d1 : decide ((n : Int) < 0) = false := decide_eq_false (by omega)
    have d2 : decide (60 < (n : Int)) = false := decide_eq_false (by omega)
    clear h0 h1 c1
    go_enter Try.func4, Try.ntmps4
    go_upto_region 8 with (go_at_call 19; refine Calls.mono (CNew_ok last _) ?_; rintro e w1 ⟨rfl, hc, hp, hlt⟩)
    obtain ⟨c, hce⟩ : ∃ c, w.heap.size = c := ⟨_, rfl⟩
    rw [hce] at hc hlt ⊢
    clear hlt
    go_loopw [8, 9] (fun v8 v9 wr => ∃ i now, v8 = .int .u64 (now : Nat) ∧ v9 = .int .i64 (i : Nat) ∧ i ≤ n ∧ now < 18446744073709551616 ∧ Ctr wr c now ∧ Pure w wr) (fun _ v9 _ => n - (intOf v9).toNat)
    case atStart => exact ⟨0, last, rfl, rfl, by omega, hl, hc, hp⟩
    case round =>
      obtain ⟨i, now, rfl, rfl, hi, hnow, hcr, hpr⟩ := hrel
      by_cases hlt : i < n
      · have hlt' : (i : Int) < (n : Int) := by omega
        have wi : IntKind.i64.wrap ((i : Int) + 1) = (i : Int) + 1 := IntWalk.i64_in _ (by omega)
        have HCL := Lib.hid (lt_of_block hcr); have HPS := Lib.hid hpr.size
        have HC := Lib.hid hcr; have HP := Lib.hid hpr
        have HREF := Lib.hid (fun W => refNext_ok now hnow W)
        have HG := Lib.hid (fun (W : World) (hW : Ctr W c now) => gives12_ok hW hnow (nxV now).1 (nxV now).2)
        have hrr : isP (nxV now) (nxV now).1 (nxV now).2 = true := by simp [isP]
        rw [hrr] at HG
        have hs := nxS_lt hnow
        obtain ⟨nv, hnv⟩ : ∃ nv, nxV now = nv := ⟨_, rfl⟩
        obtain ⟨ns, hns⟩ : ∃ ns, nxS now = ns := ⟨_, rfl⟩
        have hcs := nx_cases now
        rw [hnv, hns] at hcs
        rw [hnv] at HREF HG
        rw [hns] at HG hs
        clear hnv hns hcr hpr hrr hc hp
        obtain ⟨v1, v2⟩ := nv
        dsimp only at hcs HREF HG
        have T1 : True := trivial
        rcases hcs with ⟨rfl, rfl⟩ | ⟨rfl, rfl⟩
        · by_cases hat : (i : Int) = at'
          · have d3 : ((i : Int) == at') = true := by simp [hat]
            subst hat
            go_wp2_with (first
        | (go_at_call 20; refine Calls.mono (CCopy_ok HC.out) ?_; rintro e w2 ⟨rfl, hx, hp2, hl2⟩; replace HC := Lib.hid (HC.out.pure hp2); have HX := Lib.hid hx; replace HP := Lib.hid (HP.out.trans hp2); have hcx : c ≠ wr.heap.size := (by have := HCL.out; omega); have hwx := HPS.out; clear hx hp2)
        | (go_at_call 21; clear T1; refine Calls.mono (CLast_ok HX.out) ?_; rintro e w3 ⟨rfl, rfl⟩)
        | (go_at_call 22; refine Calls.mono (CNext_ok HX.out hnow) ?_; rintro e w4 ⟨rfl, _, hm4⟩; replace HC := Lib.hid (show Ctr _ _ _ from hm4.heap hcx HC.out); replace HP := Lib.hid (HP.out.then hm4 (fun i hi e => by omega)); clear hm4)
        | (go_at_call 23; refine Calls.mono (HREF.out _) ?_; rintro e w5 ⟨rfl, rfl⟩)
        | (go_at_call 24; refine Calls.mono (HG.out _ HC.out) ?_; rintro e w6 ⟨rfl, hc6, hm6⟩; replace HP := Lib.hid (HP.out.then hm6 (fun i hi e => by omega)); replace HC := Lib.hid hc6; clear hc6 hm6)
        | (go_at_call 21; refine Calls.mono (CLast_ok HC.out) ?_; rintro e w7 ⟨rfl, rfl⟩))
            go_roundw
            case rel => exact ⟨i + 1, v1, rfl, by go_num, hlt, hs, HC.out, HP.out⟩
            case measure => simp [intOf]; omega
          · have d3 : ((i : Int) == at') = false := by simp [hat]
            clear T1
            go_wp2_with (first
        | (go_at_call 20; refine Calls.mono (CCopy_ok HC.out) ?_; rintro e w2 ⟨rfl, hx, hp2, hl2⟩; replace HC := Lib.hid (HC.out.pure hp2); have HX := Lib.hid hx; replace HP := Lib.hid (HP.out.trans hp2); have hcx : c ≠ wr.heap.size := (by have := HCL.out; omega); have hwx := HPS.out; clear hx hp2)
        | (go_at_call 21; clear T1; refine Calls.mono (CLast_ok HX.out) ?_; rintro e w3 ⟨rfl, rfl⟩)
        | (go_at_call 22; refine Calls.mono (CNext_ok HX.out hnow) ?_; rintro e w4 ⟨rfl, _, hm4⟩; replace HC := Lib.hid (show Ctr _ _ _ from hm4.heap hcx HC.out); replace HP := Lib.hid (HP.out.then hm4 (fun i hi e => by omega)); clear hm4)
        | (go_at_call 23; refine Calls.mono (HREF.out _) ?_; rintro e w5 ⟨rfl, rfl⟩)
        | (go_at_call 24; refine Calls.mono (HG.out _ HC.out) ?_; rintro e w6 ⟨rfl, hc6, hm6⟩; replace HP := Lib.hid (HP.out.then hm6 (fun i hi e => by omega)); replace HC := Lib.hid hc6; clear hc6 hm6)
        | (go_at_call 21; refine Calls.mono (CLast_ok HC.out) ?_; rintro e w7 ⟨rfl, rfl⟩))
            go_roundw
            case rel => exact ⟨i + 1, v1, rfl, by go_num, hlt, hs, HC.out, HP.out⟩
            case measure => simp [intOf]; omega
        · by_cases hat : (i : Int) = at'
          · have d3 : ((i : Int) == at') = true := by simp [hat]
            subst hat
            go_wp2_with (first
        | (go_at_call 20; refine Calls.mono (CCopy_ok HC.out) ?_; rintro e w2 ⟨rfl, hx, hp2, hl2⟩; replace HC := Lib.hid (HC.out.pure hp2); have HX := Lib.hid hx; replace HP := Lib.hid (HP.out.trans hp2); have hcx : c ≠ wr.heap.size := (by have := HCL.out; omega); have hwx := HPS.out; clear hx hp2)
        | (go_at_call 21; clear T1; refine Calls.mono (CLast_ok HX.out) ?_; rintro e w3 ⟨rfl, rfl⟩)
        | (go_at_call 22; refine Calls.mono (CNext_ok HX.out hnow) ?_; rintro e w4 ⟨rfl, _, hm4⟩; replace HC := Lib.hid (show Ctr _ _ _ from hm4.heap hcx HC.out); replace HP := Lib.hid (HP.out.then hm4 (fun i hi e => by omega)); clear hm4)
        | (go_at_call 23; refine Calls.mono (HREF.out _) ?_; rintro e w5 ⟨rfl, rfl⟩)
        | (go_at_call 24; refine Calls.mono (HG.out _ HC.out) ?_; rintro e w6 ⟨rfl, hc6, hm6⟩; replace HP := Lib.hid (HP.out.then hm6 (fun i hi e => by omega)); replace HC := Lib.hid hc6; clear hc6 hm6)
        | (go_at_call 21; refine Calls.mono (CLast_ok HC.out) ?_; rintro e w7 ⟨rfl, rfl⟩))
            go_roundw
            case rel => exact ⟨i + 1, ns, rfl, by go_num, hlt, hs, HC.out, HP.out⟩
            case measure => simp [intOf]; omega
          · have d3 : ((i : Int) == at') = false := by simp [hat]
            clear T1
            go_wp2_with (first
        | (go_at_call 20; refine Calls.mono (CCopy_ok HC.out) ?_; rintro e w2 ⟨rfl, hx, hp2, hl2⟩; replace HC := Lib.hid (HC.out.pure hp2); have HX := Lib.hid hx; replace HP := Lib.hid (HP.out.trans hp2); have hcx : c ≠ wr.heap.size := (by have := HCL.out; omega); have hwx := HPS.out; clear hx hp2)
        | (go_at_call 21; clear T1; refine Calls.mono (CLast_ok HX.out) ?_; rintro e w3 ⟨rfl, rfl⟩)
        | (go_at_call 22; refine Calls.mono (CNext_ok HX.out hnow) ?_; rintro e w4 ⟨rfl, _, hm4⟩; replace HC := Lib.hid (show Ctr _ _ _ from hm4.heap hcx HC.out); replace HP := Lib.hid (HP.out.then hm4 (fun i hi e => by omega)); clear hm4)
        | (go_at_call 23; refine Calls.mono (HREF.out _) ?_; rintro e w5 ⟨rfl, rfl⟩)
        | (go_at_call 24; refine Calls.mono (HG.out _ HC.out) ?_; rintro e w6 ⟨rfl, hc6, hm6⟩; replace HP := Lib.hid (HP.out.then hm6 (fun i hi e => by omega)); replace HC := Lib.hid hc6; clear hc6 hm6)
        | (go_at_call 21; refine Calls.mono (CLast_ok HC.out) ?_; rintro e w7 ⟨rfl, rfl⟩))
            go_roundw
            case rel => exact ⟨i + 1, ns, rfl, by go_num, hlt, hs, HC.out, HP.out⟩
            case measure => simp [intOf]; omega
      · have hlt' : (n : Int) ≤ (i : Int) := by omega
        have HC := Lib.hid hcr; have HP := Lib.hid hpr
        clear hcr hpr hc hp
        go_wp2_with (first
          | (go_at_call 21; refine Calls.mono (CLast_ok HC.out) ?_; rintro e w3 ⟨rfl, rfl⟩)
          | (go_at_call 18; refine Calls.mono (known12_true _) ?_; rintro e w4 ⟨rfl, hp4⟩))
        go_ret
        exact ⟨rfl, HP.out.trans hp4⟩
  · have d1 : (decide (n < 0) || decide (60 < n)) = true := by simp; omega
    clear h0 h1
    by_cases d2 : n < 0
    · have d3 : decide (n < 0) = true := decide_eq_true d2
      clear d1 c1 d2
      go_enter Try.func4, Try.ntmps4
      go_wp2_with (go_at_call 18; refine Calls.mono (known12_true _) ?_; rintro e w1 ⟨rfl, hp1⟩)
      go_ret
      exact ⟨rfl, hp1⟩
    · have d3 : decide (n < 0) = false := decide_eq_false d2
      have d4 : decide (60 < n) = true := decide_eq_true (by omega)
      clear d1 c1 d2
      go_enter Try.func4, Try.ntmps4
      go_wp2_with (go_at_call 18; refine Calls.mono (known12_true _) ?_; rintro e w1 ⟨rfl, hp1⟩)
      go_ret
      exact ⟨rfl, hp1⟩
end Go.Proofs.Ytpafcocciggfpaa
