/- Lemmas and contracts of functions. No condition. -/
import Derived.Test.YtpplkcnknabofaaGreatDoorTie
import Derived.Test.YtpplkcnknabofaaGreatDoorJPfCacheNone49
import Derived.Test.YtpplkcnknabofaaGreatDoorJPfCacheNone5
namespace Go.Proofs.YtpplkcnknabofaaGreatDoor
open _root_.Go.Proofs.Tryz
set_option maxRecDepth 100000
set_option maxHeartbeats 20000000
set_option linter.all false
section
open Go.ChangeShapes Go.WideShapes Go.ChangeAt Go.RowKit
set_option maxRecDepth 100000 in
theorem zkb(os:Os)(started:os.Started)(H:Type)(enc:TypeId × Value→H) :
  ReturnsInHanded {} Tryz.checked os 6 .any (fun w args=>(Rows.cacheNoneSpec.pre enc prog f6 Rows.cacheNoneRow.domain false w args∧laidMetH prog Rows.cacheNoneRow.laid w)∧sizedMet enc prog f6 (OpenSpec.ofChange Rows.cacheNoneSpec) false w args)
   (Rows.cacheNoneSpec.post enc prog f6 false true false false):=by
 refine returnsInHanded_of_change_and (C:=Tryz.checked) (X:=fun w _=>laidMetH prog Rows.cacheNoneRow.laid w) (fun _ _ _ hh h=>h.of_heap hh) zgn started (by kernel_rfl) func6
  (ChangeSpec.witness_shaped (enc:=enc) (C:=Tryz.checked) (os:=os) (X:=fun w _=>laidMetH prog Rows.cacheNoneRow.laid w) false (World.laidAll prog os Rows.cacheNoneRow.laid) #[.agg #[.int .i64 0,.int .u64 0,.string ⟨#[]⟩,.slice none 0 0,.int .u64 0,.int .i64 0,.int .i64 0]] 8 (World.laidAll_os _ _ _)
   (World.shaped_of_ZipB (by kernel_rfl) (by kernel_rfl)) (by kernel_rfl) (by kernel_rfl) (by kernel_rfl)
   (by rw[MakeChecks.laidMetH_plain _ _ _ (by kernel_rfl)];exact laidMet_laidAll _ (by kernel_rfl) (by kernel_rfl))) ?_
 intro W base args ds gs before hval0 hW _ _ hL _;have hval : ∀(j:Nat) t v,f6.params[j]? = some t→args[j]? = some v→Value.okWide prog W .any base t v:=hval0;have hW':=hW;obtain⟨p,q,hA0,hV,rfl,hfz,hnd⟩:=hW;have hA:DataW.TrodAll enc prog W 0 (fun _=>true) true f6.params.toList args.toList ds p:=hA0;rw[params6]at hA hval;obtain⟨v0,vs0,d0,ds0,p0,q0,hargs,rfl,rfl,h0,r0⟩:=trodAll_cons hA;obtain⟨rfl,rfl,rfl⟩:=trodAll_nil r0;obtain rfl:args=#[v0]:=by cases args;simp_all
 obtain⟨rfl,rfl⟩:=trodVars_none hV;have hTab:=zkB hL;obtain⟨u0,T0,key0,va0,vn0,vc0,N0,ct0,by0,rfl,j0,jk0,jn0,jN0⟩:=zfp (hval 0 36 v0 rfl rfl) h0;clear hA0 hval0;refine(zma W hTab u0 T0 j0 key0 jk0 va0 vn0 vc0 jn0 N0 jN0 ct0 by0).mono fun e W' ⟨he,hg⟩ => ?_
 subst he;exact⟨_,rfl,zkW zmi (by kernel_rfl) rfl (by kernel_rfl) underlying4 hW' rfl hg⟩
end
section
open Go.ChangeShapes Go.WideShapes Go.ChangeAt Go.RowKit
theorem CacheNone_said:Rows.CacheNoneSaid :=
 OpenClaim.holds_of_wide 6 f6 rfl rfl rfl rfl rfl rfl rfl ⟨rfl,rfl,rfl,rfl,rfl⟩ rfl rfl rfl rfl rfl (by kernel_rfl) func6 zkx
  (of_decide_eq_true (by kernel_rfl)) (by unfold Func.isWrapper;first | (rw[zk (by decide +kernel)];kernel_rfl) | (rw[zh (by decide +kernel)];exact⟨rfl,rfl⟩))
  (fun os started H enc _=>zkb os started H enc)
end
end Go.Proofs.YtpplkcnknabofaaGreatDoor
