/- Lemmas and contracts of functions. No condition. -/
import Derived.Test.YtifbnponicgplaaGreatDoorTie
import Derived.Test.YtifbnponicgplaaGreatDoorJPfBoth4222
import Derived.Test.YtifbnponicgplaaGreatDoorJPfBoth4225
import Derived.Test.YtifbnponicgplaaGreatDoorJPfBoth4224
namespace Go.Proofs.YtifbnponicgplaaGreatDoor
open _root_.Go.Proofs.Tryz
set_option maxRecDepth 100000
set_option maxHeartbeats 20000000
set_option linter.all false
section
open Go.ChangeShapes Go.WideShapes Go.ChangeAt Go.RowKit
theorem Az7ur {P:Prop}(h:P:=by
 subst he;exact⟨_,rfl,zdf zao (by kernel_rfl) rfl (by kernel_rfl) underlying4 hW' rfl hg⟩):P:=h
set_option maxRecDepth 100000 in
theorem zfp(os:Os)(started:os.Started)(H:Type)(enc:TypeId × Value→H) :
  ReturnsInHanded {} Tryz.checked os 4 .any (fun w args=>(Rows.tierNoneSpec.pre enc prog f4 Rows.tierNoneRow.domain false w args∧laidMetH prog Rows.tierNoneRow.laid w)∧sizedMet enc prog f4 (OpenSpec.ofChange Rows.tierNoneSpec) false w args)
   (Rows.tierNoneSpec.post enc prog f4 false true false false):=by
 refine returnsInHanded_of_change_and (C:=Tryz.checked) (X:=fun w _=>laidMetH prog Rows.tierNoneRow.laid w) (fun _ _ _ hh h=>h.of_heap hh) zbY started (by kernel_rfl) func4
  (ChangeSpec.witness_shaped (enc:=enc) (C:=Tryz.checked) (os:=os) (X:=fun w _=>laidMetH prog Rows.tierNoneRow.laid w) false (World.laidAll prog os Rows.tierNoneRow.laid) #[.agg #[.int .i64 0,.int .u64 0,.int .u64 0,.string ⟨#[]⟩,.slice none 0 0]] 8 (World.laidAll_os _ _ _)
   (World.shaped_of_ZipB (by kernel_rfl) (by kernel_rfl)) (by kernel_rfl) (by kernel_rfl) (by kernel_rfl)
   (by rw[MakeChecks.laidMetH_plain _ _ _ (by kernel_rfl)];exact laidMet_laidAll _ (by kernel_rfl) (by kernel_rfl))) ?_
 intro W base args ds gs before hval0 hW _ _ hL _;have hval : ∀(j:Nat) t v,f4.params[j]? = some t→args[j]? = some v→Value.okWide prog W .any base t v:=hval0;have hW':=hW;obtain⟨p,q,hA0,hV,rfl,hfz,hnd⟩:=hW;have hA:DataW.TrodAll enc prog W 0 (fun _=>true) true f4.params.toList args.toList ds p:=hA0;rw[params4]at hA hval;obtain⟨v0,vs0,d0,ds0,p0,q0,hargs,rfl,rfl,h0,r0⟩:=trodAll_cons hA;obtain⟨rfl,rfl,rfl⟩:=trodAll_nil r0;obtain rfl:args=#[v0]:=by cases args;simp_all
 obtain⟨rfl,rfl⟩:=trodVars_none hV;have hTab:=zbL hL;obtain⟨u0,T0,N0,key0,va0,vn0,vc0,rfl,j0,jN0,jk0,jn0⟩:=zjh (hval 0 40 v0 rfl rfl) h0;clear hA0 hval0;refine(zeV W hTab u0 T0 j0 N0 jN0 key0 jk0 va0 vn0 vc0 jn0).mono fun e W' ⟨he,hg⟩ => ?_
 exact Az7ur
end
section
open Go.ChangeShapes Go.WideShapes Go.ChangeAt Go.RowKit
theorem TierNone_said:Rows.TierNoneSaid :=
 OpenClaim.holds_of_wide 4 f4 rfl rfl rfl rfl rfl rfl rfl ⟨rfl,rfl,rfl,rfl,rfl⟩ rfl rfl rfl rfl rfl (by kernel_rfl) func4 ziv
  (of_decide_eq_true (by kernel_rfl)) (by unfold Func.isWrapper;first | (rw[zj (by decide +kernel)];kernel_rfl) | (rw[zh (by decide +kernel)];exact⟨rfl,rfl⟩))
  (fun os started H enc _=>zfp os started H enc)
theorem TierNone_holds:Rows.TierNoneCardSaid :=
 Claim7.holds_tied_plain_at .later [] [.data] true Rows.tierNoneCard.stood.harness false
  TierNone_said (fun _ h=>by cases h) zhZ (fun _ h=>by cases h) tierNone_row_tie rfl ⟨rfl,rfl⟩ zik rfl
  (fun f fn hf hfn=>by
   obtain rfl:f=4:=vZ (hf.symm.trans zkg);obtain rfl:fn=f4:=(vZ (func4.symm.trans hfn)).symm;exact⟨zk2,fun j t ht=>by
    rw[params4]at ht;have hm:t ∈ [40]:=by simpa using Array.mem_of_getElem? ht
    exact(show prog.wantsStandIn t=false by simpa using List.all_eq_true.1 zfH t hm)⟩)
  zk7
end
end Go.Proofs.YtifbnponicgplaaGreatDoor
