/- Lemmas and contracts of functions. No condition. -/
import Derived.Test.YtpadepliilhmhaaGreatDoorJPfBoth2525
import Derived.Test.YtpadepliilhmhaaGreatDoorJPfBoth2527
import Derived.Test.YtpadepliilhmhaaGreatDoorJPfBoth2526
namespace Go.Proofs.YtpadepliilhmhaaGreatDoor
open _root_.Go.Proofs.Tryz
set_option maxRecDepth 100000
set_option maxHeartbeats 20000000
set_option linter.all false
section
open Go.ChangeShapes Go.WideShapes Go.ChangeAt Go.RowKit
set_option maxRecDepth 100000 in
theorem zlB(os:Os)(started:os.Started)(H:Type)(enc:TypeId × Value→H) :
  ReturnsInHanded {} Tryz.checked os 3 .any (fun w args=>(Rows.cursorFullSpec.pre enc prog f3 Rows.cursorFullRow.domain false w args∧laidMetH prog Rows.cursorFullRow.laid w)∧sizedMet enc prog f3 (OpenSpec.ofChange Rows.cursorFullSpec) false w args)
   (Rows.cursorFullSpec.post enc prog f3 false true false false):=by
 refine returnsInHanded_of_change_and (C:=Tryz.checked) (X:=fun w _=>laidMetH prog Rows.cursorFullRow.laid w) (fun _ _ _ hh h=>h.of_heap hh) zih started (by kernel_rfl) func3
  (ChangeSpec.witness_shaped (enc:=enc) (C:=Tryz.checked) (os:=os) (X:=fun w _=>laidMetH prog Rows.cursorFullRow.laid w) false (World.laidAll prog os Rows.cursorFullRow.laid) #[.int .u8 0,.int .u8 0] 8 (World.laidAll_os _ _ _)
   (World.shaped_of_ZipB (by kernel_rfl) (by kernel_rfl)) (by kernel_rfl) (by kernel_rfl) (by kernel_rfl)
   (by rw[MakeChecks.laidMetH_plain _ _ _ (by kernel_rfl)];exact laidMet_laidAll _ (by kernel_rfl) (by kernel_rfl))) ?_
 intro W base args ds gs before hval0 hW _ _ hL _;have hval : ∀(j:Nat) t v,f3.params[j]? = some t→args[j]? = some v→Value.okWide prog W .any base t v:=hval0;have hW':=hW;obtain⟨p,q,hA0,hV,rfl,hfz,hnd⟩:=hW;have hA:DataW.TrodAll enc prog W 0 (fun _=>true) true f3.params.toList args.toList ds p:=hA0;rw[params3]at hA hval;obtain⟨v0,vs0,d0,ds0,p0,q0,hargs,rfl,rfl,h0,r0⟩:=trodAll_cons hA;obtain⟨v1,vs1,d1,ds1,p1,q1,rfl,rfl,rfl,h1,r1⟩:=trodAll_cons r0;obtain⟨rfl,rfl,rfl⟩:=trodAll_nil r1;obtain rfl:args=#[v0,v1]:=by cases args;simp_all
 obtain⟨rfl,rfl⟩:=trodVars_none hV;have hTab:=zje hL;obtain⟨x0,rfl,rfl,rfl,w0⟩:=open_int underlying5 (hval 0 5 v0 rfl rfl) h0;simp[Lit.wf,IntKind.min,IntKind.max,IntKind.signed,IntKind.bits]at w0;obtain⟨a0,rfl⟩ : ∃ a0:Nat,x0=a0:=⟨x0.toNat,by omega⟩;have b0:a0<256:=by omega
 obtain⟨x1,rfl,rfl,rfl,w1⟩:=open_int underlying5 (hval 1 5 v1 rfl rfl) h1;simp[Lit.wf,IntKind.min,IntKind.max,IntKind.signed,IntKind.bits]at w1;obtain⟨a1,rfl⟩ : ∃ a1:Nat,x1=a1:=⟨x1.toNat,by omega⟩;have b1:a1<256:=by omega
 clear hA0 hval0;refine(zlD W hTab a0 b0 a1 b1).mono fun e W' ⟨he,hg⟩ => ?_
 exact Az9kf
end
section
open Go.ChangeShapes Go.WideShapes Go.ChangeAt Go.RowKit
theorem CursorFull_said:Rows.CursorFullSaid :=
 OpenClaim.holds_of_wide 3 f3 rfl rfl rfl rfl rfl rfl rfl ⟨rfl,rfl,rfl,rfl,rfl⟩ rfl rfl rfl rfl rfl (by kernel_rfl) func3 zly
  (of_decide_eq_true (by kernel_rfl)) (by unfold Func.isWrapper;first | (rw[zh (by decide +kernel)];kernel_rfl) | (rw[zf (by decide +kernel)];exact⟨rfl,rfl⟩))
  (fun os started H enc _=>zlB os started H enc)
theorem CursorFull_holds:Rows.CursorFullCardSaid :=
 Claim7.holds_tied_plain_at .later [] [.data] true Rows.cursorFullCard.stood.harness false
  CursorFull_said (fun _ h=>by cases h) zlI (fun _ h=>by cases h) cursorFull_row_tie rfl ⟨rfl,rfl⟩ zlz rfl
  (fun f fn hf hfn=>by
   obtain rfl:f=3:=YA (hf.symm.trans zlF);obtain rfl:fn=f3:=(YA (func3.symm.trans hfn)).symm;exact⟨zlG,fun j t ht=>by
    rw[params3]at ht;have hm:t ∈ [5,5]:=by simpa using Array.mem_of_getElem? ht
    exact(show prog.wantsStandIn t=false by simpa using List.all_eq_true.1 zlA t hm)⟩)
  zlH
end
end Go.Proofs.YtpadepliilhmhaaGreatDoor
