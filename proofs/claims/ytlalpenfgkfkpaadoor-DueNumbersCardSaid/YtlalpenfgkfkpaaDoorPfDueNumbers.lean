/- DueNumbers: whatever the time, the deadlines, the number and the times, the law answers true, and nothing that it was given has turned. No condition. -/
import Derived.Test.YtlalpenfgkfkpaaDoorCards
import Derived.Test.YtlalpenfgkfkpaaDoorTie
import Derived.Test.YtlalpenfgkfkpaaDoorJPfDueNumbers2
import Derived.Test.YtlalpenfgkfkpaaDoorJPfDueNumbers12
import Derived.SevenTiedAt
namespace Go.Proofs.YtlalpenfgkfkpaaDoor
open Go.ChangeShapes Go.WideShapes Go.ChangeAt Go.RowKit

set_option maxRecDepth 100000 in
theorem DueNumbers_lifted (os : Os) (started : os.Started) (H : Type) (enc : TypeId × Value → H) :
    ReturnsInHanded {} Tryd.checked os 9 .any (fun w args => (Rows.dueNumbersSpec.pre enc Tryd.prog Tryd.f9 Rows.dueNumbersRow.domain false w args ∧ laidMetH Tryd.prog Rows.dueNumbersRow.laid w) ∧ sizedMet enc Tryd.prog Tryd.f9 (OpenSpec.ofChange Rows.dueNumbersSpec) false w args)
      (Rows.dueNumbersSpec.post enc Tryd.prog Tryd.f9 false true false false) := by
  refine returnsInHanded_of_change_and (C := Tryd.checked) (X := fun w _ => laidMetH Tryd.prog Rows.dueNumbersRow.laid w) (fun _ _ _ hh h => h.of_heap hh) ownA started (by kernel_rfl) Tryd.func9
    (ChangeSpec.witness_shaped (enc := enc) (C := Tryd.checked) (os := os) (X := fun w _ => laidMetH Tryd.prog Rows.dueNumbersRow.laid w) false (World.laidAll Tryd.prog os Rows.dueNumbersRow.laid) #[.int .u64 0, .slice none 0 0, .int .u16 0, .slice none 0 0] 8 (World.laidAll_os _ _ _)
      (World.shaped_of_ZipB (by kernel_rfl) (by kernel_rfl)) (by kernel_rfl) (by kernel_rfl) (by kernel_rfl)
      (by rw [MakeChecks.laidMetH_plain _ _ _ (by kernel_rfl)]; exact laidMet_laidAll _ (by kernel_rfl) (by kernel_rfl))) ?_
  intro W base args ds gs before hval0 hW _ _ hL _
  have hval : ∀ (j : Nat) t v, Tryd.f9.params[j]? = some t → args[j]? = some v → Value.okWide Tryd.prog W .any base t v := hval0
  have hW' := hW
  obtain ⟨p, q, hA0, hV, rfl, hfz, hnd⟩ := hW
  have hA : DataW.TrodAll enc Tryd.prog W 0 (fun _ => true) true Tryd.f9.params.toList args.toList ds p := hA0
  rw [Tryd.params9] at hA hval
  obtain ⟨v0, vs0, d0, ds0, p0, q0, hargs, rfl, rfl, h0, r0⟩ := trodAll_cons hA
  obtain ⟨v1, vs1, d1, ds1, p1, q1, rfl, rfl, rfl, h1, r1⟩ := trodAll_cons r0
  obtain ⟨v2, vs2, d2, ds2, p2, q2, rfl, rfl, rfl, h2, r2⟩ := trodAll_cons r1
  obtain ⟨v3, vs3, d3, ds3, p3, q3, rfl, rfl, rfl, h3, r3⟩ := trodAll_cons r2
  obtain ⟨rfl, rfl, rfl⟩ := trodAll_nil r3
  obtain rfl : args = #[v0, v1, v2, v3] := by cases args; simp_all
  obtain ⟨rfl, rfl⟩ := trodVars_none hV
  have hTab := tabW_of_laid hL
  obtain ⟨x0, rfl, rfl, rfl, w0⟩ := open_int Tryd.underlying23 (hval 0 23 v0 rfl rfl) h0
  obtain ⟨a0, rfl⟩ : ∃ a0 : Nat, x0 = a0 := ⟨x0.toNat, by have := wf_u64 _ w0; omega⟩
  have b0 : a0 < 18446744073709551616 := by have := wf_u64 _ w0; omega
  obtain ⟨a1, c1, gs1, rfl, l1, r1d, w1⟩ := open_nats 18446744073709551616 wf_u64 Tryd.underlying24 Tryd.underlying23 (by kernel_rfl) (hval 1 24 v1 rfl rfl) h1
  obtain ⟨x2, rfl, rfl, rfl, w2⟩ := open_int Tryd.underlying92 (hval 2 92 v2 rfl rfl) h2
  simp [Lit.wf, IntKind.min, IntKind.max, IntKind.signed, IntKind.bits] at w2
  obtain ⟨a2, rfl⟩ : ∃ a2 : Nat, x2 = a2 := ⟨x2.toNat, by omega⟩
  have b2 : a2 < 65536 := by omega
  obtain ⟨a3, c3, gs3, rfl, l3, r3d, w3⟩ := open_nats 18446744073709551616 wf_u64 Tryd.underlying24 Tryd.underlying23 (by kernel_rfl) (hval 3 24 v3 rfl rfl) h3
  clear hA0 hval0
  refine (DueNumbers_true W hTab a0 b0 a1 c1 gs1 r1d w1 l1 a2 b2 a3 c3 gs3 r3d w3 l3).mono fun e W' ⟨he, hg⟩ => ?_
  subst he
  exact ⟨_, rfl, post_of_law laidA (by kernel_rfl) rfl (by kernel_rfl) Tryd.underlying4 hW' rfl hg⟩

theorem DueNumbers_said : Rows.DueNumbersSaid :=
  OpenClaim.holds_of_wide 9 Tryd.f9 rfl rfl rfl rfl rfl rfl rfl ⟨rfl, rfl, rfl, rfl, rfl⟩ rfl rfl rfl rfl rfl (by kernel_rfl) Tryd.func9 (by kernel_rfl)
    (of_decide_eq_true (by kernel_rfl)) (by unfold Func.isWrapper; first | (rw [if_pos (by decide +kernel)]; kernel_rfl) | (rw [if_neg (by decide +kernel)]; exact ⟨rfl, rfl⟩))
    (fun os started H enc _ => DueNumbers_lifted os started H enc)

theorem DueNumbers_holds : Rows.DueNumbersCardSaid :=
  Claim7.holds_tied_plain_at .later [] [.data] true Rows.dueNumbersCard.stood.harness false
    DueNumbers_said (fun _ h => by cases h) (by kernel_rfl) (fun _ h => by cases h) dueNumbers_row_tie rfl ⟨rfl, rfl⟩ (by kernel_rfl) rfl
    (fun f fn hf hfn => by
      obtain rfl : f = 9 := Option.some.inj (hf.symm.trans (by kernel_rfl))
      obtain rfl : fn = Tryd.f9 := (Option.some.inj (Tryd.func9.symm.trans hfn)).symm
      exact ⟨by kernel_rfl, fun j t ht => by
        rw [Tryd.params9] at ht
        have hm : t ∈ [23, 24, 92, 24] := by simpa using Array.mem_of_getElem? ht
        have hall : ([23, 24, 92, 24].all fun u => !Tryd.prog.wantsStandIn u) = true := by kernel_rfl
        exact (show Tryd.prog.wantsStandIn t = false by simpa using List.all_eq_true.1 hall t hm)⟩)
    (by kernel_rfl)
end Go.Proofs.YtlalpenfgkfkpaaDoor
