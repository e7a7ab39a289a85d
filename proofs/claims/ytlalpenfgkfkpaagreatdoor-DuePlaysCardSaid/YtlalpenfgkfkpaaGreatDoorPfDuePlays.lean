/- DuePlays: whatever the time and the acts, the law answers true, and nothing that it was given has turned. No condition. -/
import Derived.Test.YtlalpenfgkfkpaaGreatDoorCards
import Derived.Test.YtlalpenfgkfkpaaGreatDoorTie
import Derived.Test.YtlalpenfgkfkpaaGreatDoorJPfDuePlays2
import Derived.Test.YtlalpenfgkfkpaaGreatDoorJPfDuePlays11
import Derived.Test.YtlalpenfgkfkpaaGreatDoorJPfDuePlays13
import Derived.SevenTiedAt
namespace Go.Proofs.YtlalpenfgkfkpaaGreatDoor
open Go.ChangeShapes Go.WideShapes Go.ChangeAt Go.RowKit

set_option maxRecDepth 100000 in
theorem DuePlays_lifted (os : Os) (started : os.Started) (H : Type) (enc : TypeId × Value → H) :
    ReturnsInHanded {} Tryz.checked os 3 .any (fun w args => (Rows.duePlaysSpec.pre enc Tryz.prog Tryz.f3 Rows.duePlaysRow.domain false w args ∧ laidMetH Tryz.prog Rows.duePlaysRow.laid w) ∧ sizedMet enc Tryz.prog Tryz.f3 (OpenSpec.ofChange Rows.duePlaysSpec) false w args)
      (Rows.duePlaysSpec.post enc Tryz.prog Tryz.f3 false true false false) := by
  refine returnsInHanded_of_change_and (C := Tryz.checked) (X := fun w _ => laidMetH Tryz.prog Rows.duePlaysRow.laid w) (fun _ _ _ hh h => h.of_heap hh) ownA started (by kernel_rfl) Tryz.func3
    (ChangeSpec.witness_shaped (enc := enc) (C := Tryz.checked) (os := os) (X := fun w _ => laidMetH Tryz.prog Rows.duePlaysRow.laid w) false (World.laidAll Tryz.prog os Rows.duePlaysRow.laid) #[.int .u64 0, .slice none 0 0] 8 (World.laidAll_os _ _ _)
      (World.shaped_of_ZipB (by kernel_rfl) (by kernel_rfl)) (by kernel_rfl) (by kernel_rfl) (by kernel_rfl)
      (by rw [MakeChecks.laidMetH_plain _ _ _ (by kernel_rfl)]; exact laidMet_laidAll _ (by kernel_rfl) (by kernel_rfl))) ?_
  intro W base args ds gs before hval0 hW _ _ hL _
  have hval : ∀ (j : Nat) t v, Tryz.f3.params[j]? = some t → args[j]? = some v → Value.okWide Tryz.prog W .any base t v := hval0
  have hW' := hW
  obtain ⟨p, q, hA0, hV, rfl, hfz, hnd⟩ := hW
  have hA : DataW.TrodAll enc Tryz.prog W 0 (fun _ => true) true Tryz.f3.params.toList args.toList ds p := hA0
  rw [Tryz.params3] at hA hval
  obtain ⟨v0, vs0, d0, ds0, p0, q0, hargs, rfl, rfl, h0, r0⟩ := trodAll_cons hA
  obtain ⟨v1, vs1, d1, ds1, p1, q1, rfl, rfl, rfl, h1, r1⟩ := trodAll_cons r0
  obtain ⟨rfl, rfl, rfl⟩ := trodAll_nil r1
  obtain rfl : args = #[v0, v1] := by cases args; simp_all
  obtain ⟨rfl, rfl⟩ := trodVars_none hV
  have hTab := tabW_of_laid hL
  obtain ⟨x0, rfl, rfl, rfl, w0⟩ := open_int Tryz.underlying23 (hval 0 23 v0 rfl rfl) h0
  obtain ⟨a0, rfl⟩ : ∃ a0 : Nat, x0 = a0 := ⟨x0.toNat, by have := wf_u64 _ w0; omega⟩
  have b0 : a0 < 18446744073709551616 := by have := wf_u64 _ w0; omega
  obtain ⟨a1, c1, gs1, rfl, l1, r1d, w1⟩ := acts21_of (hval 1 24 v1 rfl rfl) h1
  clear hA0 hval0
  refine (DuePlays_true W hTab a0 b0 a1 c1 gs1 r1d w1 l1).mono fun e W' ⟨he, hg⟩ => ?_
  subst he
  exact ⟨_, rfl, post_of_law laidA (by kernel_rfl) rfl (by kernel_rfl) Tryz.underlying4 hW' rfl hg⟩

theorem DuePlays_said : Rows.DuePlaysSaid :=
  OpenClaim.holds_of_wide 3 Tryz.f3 rfl rfl rfl rfl rfl rfl rfl ⟨rfl, rfl, rfl, rfl, rfl⟩ rfl rfl rfl rfl rfl (by kernel_rfl) Tryz.func3 (by kernel_rfl)
    (of_decide_eq_true (by kernel_rfl)) (by unfold Func.isWrapper; first | (rw [if_pos (by decide +kernel)]; kernel_rfl) | (rw [if_neg (by decide +kernel)]; exact ⟨rfl, rfl⟩))
    (fun os started H enc _ => DuePlays_lifted os started H enc)

theorem DuePlays_holds : Rows.DuePlaysCardSaid :=
  Claim7.holds_tied_plain_at .later [] [.data] true Rows.duePlaysCard.stood.harness false
    DuePlays_said (fun _ h => by cases h) (by kernel_rfl) (fun _ h => by cases h) duePlays_row_tie rfl ⟨rfl, rfl⟩ (by kernel_rfl) rfl
    (fun f fn hf hfn => by
      obtain rfl : f = 3 := Option.some.inj (hf.symm.trans (by kernel_rfl))
      obtain rfl : fn = Tryz.f3 := (Option.some.inj (Tryz.func3.symm.trans hfn)).symm
      exact ⟨by kernel_rfl, fun j t ht => by
        rw [Tryz.params3] at ht
        have hm : t ∈ [23, 24] := by simpa using Array.mem_of_getElem? ht
        have hall : ([23, 24].all fun u => !Tryz.prog.wantsStandIn u) = true := by kernel_rfl
        exact (show Tryz.prog.wantsStandIn t = false by simpa using List.all_eq_true.1 hall t hm)⟩)
    (by kernel_rfl)
end Go.Proofs.YtlalpenfgkfkpaaGreatDoor
