/- DueNil: whatever the slot, the deadline and the birth, the law answers true, and nothing that it was given has turned. No condition. -/
import Derived.Test.YtlalpenfgkfkpaaDoorCards
import Derived.Test.YtlalpenfgkfkpaaDoorTie
import Derived.Test.YtlalpenfgkfkpaaDoorJPfDueNil2
import Derived.Test.YtlalpenfgkfkpaaDoorJPfDueNil10
import Derived.SevenTiedAt
namespace Go.Proofs.YtlalpenfgkfkpaaDoor
open Go.ChangeShapes Go.WideShapes Go.ChangeAt Go.RowKit

set_option maxRecDepth 100000 in
theorem DueNil_lifted (os : Os) (started : os.Started) (H : Type) (enc : TypeId × Value → H) :
    ReturnsInHanded {} Tryd.checked os 8 .any (fun w args => (Rows.dueNilSpec.pre enc Tryd.prog Tryd.f8 Rows.dueNilRow.domain false w args ∧ laidMetH Tryd.prog Rows.dueNilRow.laid w) ∧ sizedMet enc Tryd.prog Tryd.f8 (OpenSpec.ofChange Rows.dueNilSpec) false w args)
      (Rows.dueNilSpec.post enc Tryd.prog Tryd.f8 false true false false) := by
  refine returnsInHanded_of_change_and (C := Tryd.checked) (X := fun w _ => laidMetH Tryd.prog Rows.dueNilRow.laid w) (fun _ _ _ hh h => h.of_heap hh) ownA started (by kernel_rfl) Tryd.func8
    (ChangeSpec.witness_shaped (enc := enc) (C := Tryd.checked) (os := os) (X := fun w _ => laidMetH Tryd.prog Rows.dueNilRow.laid w) false (World.laidAll Tryd.prog os Rows.dueNilRow.laid) #[.int .u32 0, .int .u64 0, .int .u64 0] 8 (World.laidAll_os _ _ _)
      (World.shaped_of_ZipB (by kernel_rfl) (by kernel_rfl)) (by kernel_rfl) (by kernel_rfl) (by kernel_rfl)
      (by rw [MakeChecks.laidMetH_plain _ _ _ (by kernel_rfl)]; exact laidMet_laidAll _ (by kernel_rfl) (by kernel_rfl))) ?_
  intro W base args ds gs before hval0 hW _ _ hL _
  have hval : ∀ (j : Nat) t v, Tryd.f8.params[j]? = some t → args[j]? = some v → Value.okWide Tryd.prog W .any base t v := hval0
  have hW' := hW
  obtain ⟨p, q, hA0, hV, rfl, hfz, hnd⟩ := hW
  have hA : DataW.TrodAll enc Tryd.prog W 0 (fun _ => true) true Tryd.f8.params.toList args.toList ds p := hA0
  rw [Tryd.params8] at hA hval
  obtain ⟨v0, vs0, d0, ds0, p0, q0, hargs, rfl, rfl, h0, r0⟩ := trodAll_cons hA
  obtain ⟨v1, vs1, d1, ds1, p1, q1, rfl, rfl, rfl, h1, r1⟩ := trodAll_cons r0
  obtain ⟨v2, vs2, d2, ds2, p2, q2, rfl, rfl, rfl, h2, r2⟩ := trodAll_cons r1
  obtain ⟨rfl, rfl, rfl⟩ := trodAll_nil r2
  obtain rfl : args = #[v0, v1, v2] := by cases args; simp_all
  obtain ⟨rfl, rfl⟩ := trodVars_none hV
  have hTab := tabW_of_laid hL
  obtain ⟨x0, rfl, rfl, rfl, w0⟩ := open_int Tryd.underlying29 (hval 0 29 v0 rfl rfl) h0
  obtain ⟨a0, rfl⟩ : ∃ a0 : Nat, x0 = a0 := ⟨x0.toNat, by have := wf_u32 _ w0; omega⟩
  have b0 : a0 < 4294967296 := by have := wf_u32 _ w0; omega
  obtain ⟨x1, rfl, rfl, rfl, w1⟩ := open_int Tryd.underlying23 (hval 1 23 v1 rfl rfl) h1
  obtain ⟨a1, rfl⟩ : ∃ a1 : Nat, x1 = a1 := ⟨x1.toNat, by have := wf_u64 _ w1; omega⟩
  have b1 : a1 < 18446744073709551616 := by have := wf_u64 _ w1; omega
  obtain ⟨x2, rfl, rfl, rfl, w2⟩ := open_int Tryd.underlying22 (hval 2 22 v2 rfl rfl) h2
  obtain ⟨a2, rfl⟩ : ∃ a2 : Nat, x2 = a2 := ⟨x2.toNat, by have := wf_u64 _ w2; omega⟩
  have b2 : a2 < 18446744073709551616 := by have := wf_u64 _ w2; omega
  clear hA0 hval0
  refine (DueNil_true W hTab a0 b0 a1 b1 a2 b2).mono fun e W' ⟨he, hg⟩ => ?_
  subst he
  exact ⟨_, rfl, post_of_law laidA (by kernel_rfl) rfl (by kernel_rfl) Tryd.underlying4 hW' rfl hg⟩

theorem DueNil_said : Rows.DueNilSaid :=
  OpenClaim.holds_of_wide 8 Tryd.f8 rfl rfl rfl rfl rfl rfl rfl ⟨rfl, rfl, rfl, rfl, rfl⟩ rfl rfl rfl rfl rfl (by kernel_rfl) Tryd.func8 (by kernel_rfl)
    (of_decide_eq_true (by kernel_rfl)) (by unfold Func.isWrapper; first | (rw [if_pos (by decide +kernel)]; kernel_rfl) | (rw [if_neg (by decide +kernel)]; exact ⟨rfl, rfl⟩))
    (fun os started H enc _ => DueNil_lifted os started H enc)

theorem DueNil_holds : Rows.DueNilCardSaid :=
  Claim7.holds_tied_plain_at .later [] [.data] true Rows.dueNilCard.stood.harness false
    DueNil_said (fun _ h => by cases h) (by kernel_rfl) (fun _ h => by cases h) dueNil_row_tie rfl ⟨rfl, rfl⟩ (by kernel_rfl) rfl
    (fun f fn hf hfn => by
      obtain rfl : f = 8 := Option.some.inj (hf.symm.trans (by kernel_rfl))
      obtain rfl : fn = Tryd.f8 := (Option.some.inj (Tryd.func8.symm.trans hfn)).symm
      exact ⟨by kernel_rfl, fun j t ht => by
        rw [Tryd.params8] at ht
        have hm : t ∈ [29, 23, 22] := by simpa using Array.mem_of_getElem? ht
        have hall : ([29, 23, 22].all fun u => !Tryd.prog.wantsStandIn u) = true := by kernel_rfl
        exact (show Tryd.prog.wantsStandIn t = false by simpa using List.all_eq_true.1 hall t hm)⟩)
    (by kernel_rfl)
end Go.Proofs.YtlalpenfgkfkpaaDoor
