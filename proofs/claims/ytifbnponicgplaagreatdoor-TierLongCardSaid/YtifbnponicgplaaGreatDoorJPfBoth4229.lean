/- Lemmas and contracts of functions. No condition. -/
import Derived.Test.YtifbnponicgplaaGreatDoorJPfBoth4223
import Derived.Test.YtifbnponicgplaaGreatDoorJPfBoth4226
import Derived.Test.YtifbnponicgplaaGreatDoorJPfBoth4228
import Derived.Test.YtifbnponicgplaaGreatDoorJPfBoth4227
namespace Go.Proofs.YtifbnponicgplaaGreatDoor
open _root_.Go.Proofs.Tryz
set_option maxRecDepth 100000
set_option maxHeartbeats 20000000
set_option linter.all false
section
open Go.ChangeShapes Go.WideShapes Go.ChangeAt Go.RowKit
set_option maxRecDepth 100000 in
theorem zjB(os:Os)(started:os.Started)(H:Type)(enc:TypeId × Value→H) :
  ReturnsInHanded {} Tryz.checked os 3 .any (fun w args=>(Rows.tierLongSpec.pre enc prog f3 Rows.tierLongRow.domain false w args∧laidMetH prog Rows.tierLongRow.laid w)∧sizedMet enc prog f3 (OpenSpec.ofChange Rows.tierLongSpec) false w args)
   (Rows.tierLongSpec.post enc prog f3 false true false false):=by
 refine returnsInHanded_of_change_and (C:=Tryz.checked) (X:=fun w _=>laidMetH prog Rows.tierLongRow.laid w) (fun _ _ _ hh h=>h.of_heap hh) zbY started (by kernel_rfl) func3
  (ChangeSpec.witness_shaped (enc:=enc) (C:=Tryz.checked) (os:=os) (X:=fun w _=>laidMetH prog Rows.tierLongRow.laid w) false (World.laidAll prog os Rows.tierLongRow.laid) #[.int .i64 0] 8 (World.laidAll_os _ _ _)
   (World.shaped_of_ZipB (by kernel_rfl) (by kernel_rfl)) (by kernel_rfl) (by kernel_rfl) (by kernel_rfl)
   (by rw[MakeChecks.laidMetH_plain _ _ _ (by kernel_rfl)];exact laidMet_laidAll _ (by kernel_rfl) (by kernel_rfl))) ?_
 intro W base args ds gs before hval0 hW _ _ hL _;have hval : ∀(j:Nat) t v,f3.params[j]? = some t→args[j]? = some v→Value.okWide prog W .any base t v:=hval0;have hW':=hW;obtain⟨p,q,hA0,hV,rfl,hfz,hnd⟩:=hW;have hA:DataW.TrodAll enc prog W 0 (fun _=>true) true f3.params.toList args.toList ds p:=hA0;rw[params3]at hA hval;obtain⟨v0,vs0,d0,ds0,p0,q0,hargs,rfl,rfl,h0,r0⟩:=trodAll_cons hA;obtain⟨rfl,rfl,rfl⟩:=trodAll_nil r0;obtain rfl:args=#[v0]:=by cases args;simp_all
 obtain⟨rfl,rfl⟩:=trodVars_none hV;have hTab:=zbL hL;obtain⟨a0,rfl,rfl,rfl,w0⟩:=open_int underlying3 (hval 0 3 v0 rfl rfl) h0;clear hA0 hval0;refine(zfz W hTab a0).mono fun e W' ⟨he,hg⟩ => ?_
 exact Az7ur
end
section
open Go.ChangeShapes Go.WideShapes Go.ChangeAt Go.RowKit
theorem TierLong_said:Rows.TierLongSaid :=
 OpenClaim.holds_of_wide 3 f3 rfl rfl rfl rfl rfl rfl rfl ⟨rfl,rfl,rfl,rfl,rfl⟩ rfl rfl rfl rfl rfl (by kernel_rfl) func3 zeH
  (of_decide_eq_true (by kernel_rfl)) (by unfold Func.isWrapper;first | (rw[zj (by decide +kernel)];kernel_rfl) | (rw[zh (by decide +kernel)];exact⟨rfl,rfl⟩))
  (fun os started H enc _=>zjB os started H enc)
theorem TierLong_holds:Rows.TierLongCardSaid :=
 Claim7.holds_tied_plain_at .later [] [.data] true Rows.tierLongCard.stood.harness false
  TierLong_said (fun _ h=>by cases h) zkq (fun _ h=>by cases h) tierLong_row_tie rfl ⟨rfl,rfl⟩ zgE rfl
  (fun f fn hf hfn=>by
   obtain rfl:f=3:=vZ (hf.symm.trans zhk);obtain rfl:fn=f3:=(vZ (func3.symm.trans hfn)).symm;exact⟨ziK,fun j t ht=>by
    rw[params3]at ht;have hm:t ∈ [3]:=by simpa using Array.mem_of_getElem? ht
    exact(show prog.wantsStandIn t=false by simpa using List.all_eq_true.1 zfd t hm)⟩)
  zhb
end
end Go.Proofs.YtifbnponicgplaaGreatDoor
