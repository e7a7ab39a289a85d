/- Lemmas and contracts of functions. No condition. -/
import Derived.Test.YtifbnponicgplaaGreatDoorRows
import Derived.Test.YtifbnponicgplaaGreatDoorJPfBoth428
import Derived.Lib.LaidU8
import Derived.LaidHandle
import Derived.LaidMore
import Derived.Lay
import Derived.Stop.Joined
import Derived.ProofKit
import Derived.OpenShut
import Derived.Below
import Derived.ChangeSame
import Derived.Carry
import Derived.ChangeSlices
import Derived.Test.YtifbnponicgplaaGreatDoorCards
import Derived.SevenTiedAt
namespace Go.Proofs.YtifbnponicgplaaGreatDoor
open _root_.Go.Proofs.Tryz
set_option maxRecDepth 100000
set_option maxHeartbeats 20000000
set_option linter.all false
section
open Go.ChangeShapes Go.WideShapes Go.ChangeAt Go.RowKit
abbrev zg4:List (String × DataW Unit):=Rows.tierNoneRow.laid
theorem zhV:(Rows.laid_math_bits_deBruijn64tab:DataW Unit)=Lib.tabData .u8 (Lib.deBruijn64tab.map fun n:Nat=>(n:Int)):=by kernel_rfl
theorem zbL{W:World}(h:laidMetH prog zg4 W):xb W:=by
 rw[MakeChecks.laidMetH_plain _ _ _ (by kernel_rfl)]at h;obtain⟨ps,⟨g,t,cs,fuel,p,q,hg,ht,hv,hd,_,_⟩,_,_⟩:=h;have e0:some g=some 0:=hg.symm.trans (by kernel_rfl);injection e0 with e0
 subst e0;have hd':DataW.trod (fun _=>()) prog W 0 (fun _=>true) false fuel t cs.toList=some (Lib.tabData .u8 (Lib.deBruijn64tab.map fun n:Nat=>(n:Int)),p):=by rw[← zhV];exact hd
 have hc:=Lib.cells_of_tab (n:=64) (e:=5) (by rw[← vZ ht];kernel_rfl) underlying5 (by kernel_rfl) (by rw[← vZ ht];kernel_rfl) hd';intro j hj;have hvc:=World.var?_cell hg hv j;rw[hvc];have:cs[j]? = cs.toList[j]?:=by simp
 rw[this,hc];simp only[List.getElem?_map,List.map_map];rw[zO hj];simp[List.getD,List.getElem?_eq_getElem hj]
theorem zhe{H:Type}{enc:TypeId × Value→H}{P:Program}{f:Func}{s:ChangeSpec}{apart fresh handsOn again:Bool}{W W':World}{args:Array Value}{v:Value}{ds gs:List (DataW H)}{before pa pv:List MemPlace}
  (hW:DataW.Whole enc P f.params.toList s.vars apart W args.toList ds gs before)
  (hres : ∀(b:Nat) (sp:Nat→Bool) (hd:Bool),DataW.TrodAll enc P W' b sp hd f.resultTypes.toList (v.resultList f.resultTypes.size) (s.fn H (ds++gs)).results [])
  (hargs : ∀ sp:Nat→Bool,(∀ p∈before,sp p.block=true)→DataW.TrodAll enc P W' 0 sp true f.params.toList args.toList (s.fn H (ds++gs)).args pa)
  (hvars : ∀ sp:Nat→Bool,(∀ p∈before,sp p.block=true)→DataW.TrodVars enc P W' sp s.vars (s.fn H (ds++gs)).vars pv)
  (hps:before=pa++pv) (hm:zb W W')
  (hok : ∀(j:Nat) (t:TypeId) (r:Value),f.resultTypes[j]? = some t→(v.resultList f.resultTypes.size)[j]? = some r→Value.okWide P W' .any 0 t r) :
  s.post enc P f apart fresh handsOn again W args v W':=by
 have hb:Below W.heap.size W W':=hm.below (fun _ _ h=>h);subst hps;have hlt : ∀ p∈pa++pv,p.block<W.heap.size:=fun p hp=>hW.lt p hp
 have hold : ∀ p∈pa++pv,(fun b=>decide (b<W.heap.size)) p.block=true:=fun p hp=>zQ (hlt p hp)
 refine⟨ds,gs,pa++pv,[],pa,pv,hW,hres _ _ _,hargs _ hold,hvars _ hold,World.keptBut_mono (fun p hp=>⟨hp,Or.inr (yI.1 hp)⟩) (hb.frame (· ∈ pa++pv)),fun _ => ?_⟩;obtain⟨_,_,_,_,_,hz,hn⟩:=hW;refine⟨hok,_,_,([]++pa)++pv,⟨[]++pa,pv,trodAll_append (hargs _ (fun _ _=>rfl)) (hres _ _ _),hvars _ (fun _ _=>rfl),rfl,fun b off hp => ?_,fun ha=>by simpa using hn ha⟩,fun p hp _=>by simpa using hp⟩;have hin:MemPlace.cell b off∈pa++pv:=by simpa using hp
 rw[hb.frozen (hlt _ hin)];exact hz b off hin
theorem zbY:ownKnob prog.godebug=none:=by kernel_rfl
theorem zao:laidOutB prog=true:=by kernel_rfl
theorem zca{H:Type}{enc:TypeId × Value→H}{P:Program}{W W':World}{sp:Nat→Bool}(hl:laidOutB P=true) : ∀(ts:List TypeId) (vs:List Value) (ds:List (DataW H)) (ps:List MemPlace),
  (ts.all fun t=>P.readableRec t&&decide (t<P.types.size))=true→DataW.TrodAll enc P W 0 (fun _=>true) true ts vs ds ps→(∀ x∈ps,W.sameAt W' x)→(∀ x∈ps,sp x.block=true)→DataW.TrodAll enc P W' 0 sp true ts vs ds ps
 | [],[],[],ps,_,h,_,_=>h
 | t::ts,v::vs,d::ds,ps,ht,h,hs,hp=>by
  obtain⟨p,q,h1,h2,rfl⟩:=h;simp only[List.all_cons,Bool.and_eq_true,decide_eq_true_eq]at ht;exact⟨p,q,WideElems.Trod_stays hl ht.1.1 ht.1.2 h1 (fun x hx=>hs x (xQ _ hx)) (fun x hx=>hp x (xQ _ hx)),
   zca hl ts vs ds q ht.2 h2 (fun x hx=>hs x (xF _ hx)) (fun x hx=>hp x (xF _ hx)),rfl⟩
 | [],_::_,_,_,_,h,_,_=>h.elim
 | [],[],_::_,_,_,h,_,_=>h.elim
 | _::_,[],_,_,_,h,_,_=>h.elim
 | _::_,_::_,[],_,_,h,_,_=>h.elim
theorem zdf{H:Type}{enc:TypeId × Value→H}{P:Program}{f:Func}{s:ChangeSpec}{fresh handsOn again:Bool}{W W':World}{args:Array Value}{ds gs:List (DataW H)}{before:List MemPlace}{tb:TypeId}
  (hl:laidOutB P=true) (hts:(f.params.toList.all fun t=>P.readableRec t&&decide (t<P.types.size))=true) (hv:s.vars=[]) (hrt:f.resultTypes=#[tb]) (htb:P.underlying tb=some .bool)
  (hW:DataW.Whole enc P f.params.toList s.vars false W args.toList ds gs before) (hspec:s.fn H (ds++[]) = {results:=[.lit (.bool true)],args:=ds}) (hm:zb W W') :
  s.post enc P f false fresh handsOn again W args (.bool true) W':=by
 have hW':=hW;obtain⟨p,q,hA,hV,rfl,hfz,hnd⟩:=hW;have hb:Below W.heap.size W W':=hm.below (fun _ _ h=>h);rw[hv]at hV;obtain⟨rfl,rfl⟩:=trodVars_none hV;have hlt : ∀ x∈p,x.block<W.heap.size:=fun x hx=>hW'.lt x (xQ _ hx)
 refine zhe (pa:=p) (pv:=[]) hW' ?_ ?_ ?_ rfl hm ?_
 ·intro b sp hd;rw[hspec,hrt];exact trodAll_cons_mk (shut_bool htb _) trodAll_mk0
 ·intro sp hsp;rw[hspec];exact zca hl _ _ _ _ hts hA (fun x hx=>hb.same (hlt x hx)) (fun x hx=>hsp x (xQ _ hx))
 ·intro sp _;rw[hv,hspec]
  rfl
 ·exact ok_one hrt rfl (okWide_bool_mk htb _)
theorem zdx(z:Int)(h:(Lit.int .u64 z).wf=true):0≤z∧z<(18446744073709551616:Nat):=by
 simp[Lit.wf,IntKind.min,IntKind.max,IntKind.signed,IntKind.bits]at h;omega
end
section
open Go
theorem Q9:Tryz.pinned.checked.prog.funcs.any Func.goes=false:=by kernel_rfl
theorem zdX{P:Program}(h:P.funcs.any Func.goes=false)(f:FuncId):P.goes f=false:=by
 have h1 : ∀ g:FuncId,(P.funcs[g]?).any Func.goes=false:=fun g=>by
  cases e:P.funcs[g]? with
  | none=>rfl
  | some fn =>
   show Func.goes fn=false
   rw[Array.any_eq_false]at h;obtain⟨hl,he⟩:=kr.1 e;have:=h g hl;rw[he]at this;simpa using this
 have h2:((P.closure f).any fun g=>(P.funcs[g]?).any Func.goes)=false:=by
  cases e:(P.closure f).any fun g=>(P.funcs[g]?).any Func.goes with
  | false=>rfl
  | true =>
   simp only[List.any_eq_true,Array.any_eq_true]at e
   first
    | (obtain⟨g,_,hg⟩:=e;rw[h1 g]at hg;cases hg)
    | (obtain⟨i,hi,hg⟩:=e;rw[h1]at hg;cases hg)
 unfold Program.goes;rw[h2,h,Bool.and_false]
 rfl
end
end Go.Proofs.YtifbnponicgplaaGreatDoor
