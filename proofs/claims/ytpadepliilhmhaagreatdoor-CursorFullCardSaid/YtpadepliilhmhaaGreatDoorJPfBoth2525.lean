/- Lemmas and contracts of functions. No condition. -/
import Derived.Test.YtpadepliilhmhaaGreatDoorTie
import Derived.Test.YtpadepliilhmhaaGreatDoorJPfBoth2521
import Derived.Test.YtpadepliilhmhaaGreatDoorJPfBoth2524
import Derived.Test.YtpadepliilhmhaaGreatDoorJPfBoth2523
namespace Go.Proofs.YtpadepliilhmhaaGreatDoor
open _root_.Go.Proofs.Tryz
set_option maxRecDepth 100000
set_option maxHeartbeats 20000000
set_option linter.all false
section
open Go.ChangeShapes Go.WideShapes Go.ChangeAt Go.RowKit
theorem Az9kf {P:Prop}(h:P:=by
 subst he;exact⟨_,rfl,zda ziy (by kernel_rfl) rfl (by kernel_rfl) underlying4 hW' rfl hg⟩):P:=h
set_option maxRecDepth 100000 in
theorem zhr(os:Os)(started:os.Started)(H:Type)(enc:TypeId × Value→H) :
  ReturnsInHanded {} Tryz.checked os 4 .any (fun w args=>(Rows.cursorNoneSpec.pre enc prog f4 Rows.cursorNoneRow.domain false w args∧laidMetH prog Rows.cursorNoneRow.laid w)∧sizedMet enc prog f4 (OpenSpec.ofChange Rows.cursorNoneSpec) false w args)
   (Rows.cursorNoneSpec.post enc prog f4 false true false false):=by
 refine returnsInHanded_of_change_and (C:=Tryz.checked) (X:=fun w _=>laidMetH prog Rows.cursorNoneRow.laid w) (fun _ _ _ hh h=>h.of_heap hh) zih started (by kernel_rfl) func4
  (ChangeSpec.witness_shaped (enc:=enc) (C:=Tryz.checked) (os:=os) (X:=fun w _=>laidMetH prog Rows.cursorNoneRow.laid w) false (World.laidAll prog os Rows.cursorNoneRow.laid) #[.int .u64 0,.int .i64 0,.int .u64 0] 8 (World.laidAll_os _ _ _)
   (World.shaped_of_ZipB (by kernel_rfl) (by kernel_rfl)) (by kernel_rfl) (by kernel_rfl) (by kernel_rfl)
   (by rw[MakeChecks.laidMetH_plain _ _ _ (by kernel_rfl)];exact laidMet_laidAll _ (by kernel_rfl) (by kernel_rfl))) ?_
 intro W base args ds gs before hval0 hW _ _ hL _;have hval : ∀(j:Nat) t v,f4.params[j]? = some t→args[j]? = some v→Value.okWide prog W .any base t v:=hval0;have hW':=hW;obtain⟨p,q,hA0,hV,rfl,hfz,hnd⟩:=hW;have hA:DataW.TrodAll enc prog W 0 (fun _=>true) true f4.params.toList args.toList ds p:=hA0;rw[params4]at hA hval;obtain⟨v0,vs0,d0,ds0,p0,q0,hargs,rfl,rfl,h0,r0⟩:=trodAll_cons hA;obtain⟨v1,vs1,d1,ds1,p1,q1,rfl,rfl,rfl,h1,r1⟩:=trodAll_cons r0;obtain⟨v2,vs2,d2,ds2,p2,q2,rfl,rfl,rfl,h2,r2⟩:=trodAll_cons r1;obtain⟨rfl,rfl,rfl⟩:=trodAll_nil r2;obtain rfl:args=#[v0,v1,v2]:=by cases args;simp_all
 obtain⟨rfl,rfl⟩:=trodVars_none hV;have hTab:=zje hL;obtain⟨x0,rfl,rfl,rfl,w0⟩:=open_int underlying37 (hval 0 37 v0 rfl rfl) h0;obtain⟨a0,rfl⟩ : ∃ a0:Nat,x0=a0:=⟨x0.toNat,by have:=VP _ w0;omega⟩;have b0:a0<18446744073709551616:=by have:=VP _ w0;omega
 obtain⟨a1,rfl,rfl,rfl,w1⟩:=open_int underlying3 (hval 1 3 v1 rfl rfl) h1;obtain⟨x2,rfl,rfl,rfl,w2⟩:=open_int underlying27 (hval 2 27 v2 rfl rfl) h2;obtain⟨a2,rfl⟩ : ∃ a2:Nat,x2=a2:=⟨x2.toNat,by have:=VP _ w2;omega⟩;have b2:a2<18446744073709551616:=by have:=VP _ w2;omega
 clear hA0 hval0;refine(zgA W hTab a0 b0 a1 a2 b2).mono fun e W' ⟨he,hg⟩ => ?_
 exact Az9kf
end
section
open Go.ChangeShapes Go.WideShapes Go.ChangeAt Go.RowKit
theorem CursorNone_said:Rows.CursorNoneSaid :=
 OpenClaim.holds_of_wide 4 f4 rfl rfl rfl rfl rfl rfl rfl ⟨rfl,rfl,rfl,rfl,rfl⟩ rfl rfl rfl rfl rfl (by kernel_rfl) func4 zis
  (of_decide_eq_true (by kernel_rfl)) (by unfold Func.isWrapper;first | (rw[zh (by decide +kernel)];kernel_rfl) | (rw[zf (by decide +kernel)];exact⟨rfl,rfl⟩))
  (fun os started H enc _=>zhr os started H enc)
theorem CursorNone_holds:Rows.CursorNoneCardSaid :=
 Claim7.holds_tied_plain_at .later [] [.data] true Rows.cursorNoneCard.stood.harness false
  CursorNone_said (fun _ h=>by cases h) zhQ (fun _ h=>by cases h) cursorNone_row_tie rfl ⟨rfl,rfl⟩ zdC rfl
  (fun f fn hf hfn=>by
   obtain rfl:f=4:=YA (hf.symm.trans zft);obtain rfl:fn=f4:=(YA (func4.symm.trans hfn)).symm;exact⟨zfm,fun j t ht=>by
    rw[params4]at ht;have hm:t ∈ [37,3,27]:=by simpa using Array.mem_of_getElem? ht
    exact(show prog.wantsStandIn t=false by simpa using List.all_eq_true.1 zj7 t hm)⟩)
  zdW
end
end Go.Proofs.YtpadepliilhmhaaGreatDoor
