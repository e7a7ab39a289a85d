/- Lemmas and contracts of functions. No condition. -/
import Derived.Test.YtifbnponicgplaaGreatDoorJPfBoth422
import Derived.Test.YtifbnponicgplaaGreatDoorJPfBoth423
namespace Go.Proofs.YtifbnponicgplaaGreatDoor
open _root_.Go.Proofs.Tryz
set_option maxRecDepth 100000
set_option maxHeartbeats 20000000
set_option linter.all false
section
open Go.RowKit Go.Shelf
abbrev Grp:=List Nat × List Nat
def yO(c:Grp):List Value := .int .u64 (zC c.1)::(List.range 8).map (fun i => .int .u32 ((c.2.getD i 0:Nat):Int))
theorem qB(c:Grp):(yO c).length=9:=by simp[yO]
theorem zjZ(c:Grp){j:Nat}(hj:j<8):(yO c)[j+1]? = some (.int .u32 ((c.2.getD j 0:Nat):Int)):=by
 unfold yO;rw[XB,yz,qe hj]
 rfl
structure xX(c:Grp):Prop where
 ctl:qh c.1
 len:c.2.length=8
 lt : ∀ s∈c.2,s≤4294967295
theorem xX.slot{c:Grp}(h:xX c)(j:Nat):c.2.getD j 0≤4294967295:=by
 rw[vM]
 cases hi:c.2[j]? with
 | none=>simp
 | some s=>exact h.lt s (ym hi)
def zD(Gs:List Grp):Nat:=(Gs.map (fun c=>c.1.countP (· < 128))).sum
def yi(Gs:List Grp):Nat:=(Gs.map (fun c=>c.1.countP (· == 254))).sum
structure xw(Gs:List Grp):Prop where
 pow:Pow Gs.length
 grp : ∀ c∈Gs,xX c
def zn(Gs:List Grp)(i:Nat):Grp:=Gs.getD i ([],[])
theorem vY{Gs:List Grp}{i:Nat}(h:i<Gs.length):Gs[i]? = some (zn Gs i):=by
 unfold zn;rw[vM,zO h];rfl
theorem xw.at{Gs:List Grp}(h:xw Gs){i:Nat}(hi:i<Gs.length):xX (zn Gs i):=h.grp _ (ym (vY hi))
structure yk(w:World)(D:Nat→Prop)(p:Nat)(sv:Value)(Gs:List Grp):Prop where
 box:w.heap[p]? = some (.cells #[sv,.int .i64 (zD Gs),.int .i64 (yi Gs)] 257 (0,0))
 row:w.ownsRow 0 260 9 sv Gs.length (Gs.flatMap yO)
 dd : ∀ k,D k↔k=p∨sv.ownBlock=some k
 ok:xw Gs
theorem yk.mod{w w':World}{D S:Nat→Prop}{p:Nat}{sv:Value}{Gs:List Grp}(h:yk w D p sv Gs)(hm:Mod S w w')(hS : ∀ k,D k → ¬ S k):yk w' D p sv Gs :=
 ⟨hm.heap (hS p ((h.dd p).2 (.inl rfl))) h.box,zz h.row hm (fun g hg=>hS g ((h.dd g).2 (.inr hg))),h.dd,h.ok⟩
theorem yk.pure{w w':World}{D:Nat→Prop}{p:Nat}{sv:Value}{Gs:List Grp}(h:yk w D p sv Gs)(hm:zb w w'):yk w' D p sv Gs:=h.mod hm (fun _ _ h=>h)
theorem yk.quiet{N:Nat}{w w':World}{D:Nat→Prop}{p:Nat}{sv:Value}{Gs:List Grp}(h:yk w D p sv Gs)(hq:zB N w w'):yk w' D p sv Gs :=
 ⟨hq.cells h.box,hq.owns h.row,h.dd,h.ok⟩
theorem yk.at{w:World}{D:Nat→Prop}{p:Nat}{sv:Value}{Gs:List Grp}(h:yk w D p sv Gs) :
  ∃ B c,sv=.slice (some ⟨B,0,none⟩) Gs.length c∧Gs.length≤c∧B<w.heap.size∧D B∧(∀ j,w.frozen? ⟨B,j,none⟩=false) ∧
   ∀ i,i<Gs.length→w.cell? ⟨B,i*9,none⟩=some (.int .u64 (zC (zn Gs i).1)) ∧ ∀ j,j<8→w.cell? ⟨B,i*9+(j+1),none⟩=some (.int .u32 (((zn Gs i).2.getD j 0:Nat):Int)):=by
 obtain⟨B,c,rfl,hc,hB,hcells,hf,_⟩:=ko h.row h.ok.pow.pos;refine⟨B,c,rfl,hc,hB,(h.dd B).2 (.inr rfl),hf,fun i hi=>⟨?_,fun j hj => ?_⟩⟩
 ·have:=uO yO 9 qB 0 (by omega) Gs i;rw[vY hi]at this;exact hcells _ _ this
 ·have:=uO yO 9 qB (j+1) (by omega) Gs i;rw[vY hi]at this;exact hcells _ _ (this.trans (zjZ _ hj))
def jf(c:Grp)(tag:Nat):List Nat:=vI (zM (c.1.map (· == tag)))
def vQ(c:Grp):Bool:=c.1.any (· == 128)
def jp(Gs:List Grp)(tag:Nat):List Nat→List (Nat × Nat)
 | []=>[]
 | i::r=>(jf (zn Gs i) tag).map (fun j=>(i,j))++if vQ (zn Gs i)then[]else jp Gs tag r
def xD(Gs:List Grp)(sum:Nat):List (Nat × Nat):=jp Gs (sum%128) (xR (sum/128) Gs.length)
def zS(Gs:List Grp)(x:Nat × Nat):Nat:=(zn Gs x.1).2.getD x.2 0
def kp(f:List Nat→Nat→Bool)(xs:List Nat):Prop := ∀ a b c,xs=a++b::c→f a b=false
theorem ziY(f:List Nat→Nat→Bool):kp f []:=fun a b c h=>by simp at h
theorem zeG{f:List Nat→Nat→Bool}{xs:List Nat}{x:Nat}(h:kp f xs)(hx:f xs x=false):kp f (xs++[x]):=by
 intro a b c e;rcases List.eq_nil_or_concat c with rfl | ⟨c',y,rfl⟩
 ·have:xs=a∧x=b:=by
   have:=List.append_inj' e rfl;exact⟨this.1,by simpa using this.2⟩
  rw[← this.1,← this.2];exact hx
 ·have:xs++[x]=(a++b::c')++[y]:=by rw[e];simp
  have:=(List.append_inj' this rfl).1;exact h a b c' this
theorem UA{Gs:List Grp}{tag:Nat} : ∀(pre:List Nat) (i:Nat) (post:List Nat),(∀ k∈pre,vQ (zn Gs k)=false) →
  jp Gs tag (pre++i::post)=pre.flatMap (fun i=>(jf (zn Gs i) tag).map (fun j=>(i,j)))++((jf (zn Gs i) tag).map (fun j=>(i,j))++if vQ (zn Gs i)then[]else jp Gs tag post)
 | [],i,post,_=>rfl
 | k::pre,i,post,h=>by
  have hk:=h k (by simp);simp only[List.cons_append,jp,hk,List.flatMap_cons];rw[UA pre i post (fun k' h'=>h k' (by simp[h']))];simp
theorem zdN{Gs:List Grp}{tag:Nat} : ∀(pre:List Nat),(∀ k∈pre,vQ (zn Gs k)=false) →
  jp Gs tag pre=pre.flatMap (fun i=>(jf (zn Gs i) tag).map (fun j=>(i,j)))
 | [],_=>rfl
 | k::pre,h=>by
  have hk:=h k (by simp);simp only[jp,hk,List.flatMap_cons];rw[zdN pre (fun k' h'=>h k' (by simp[h']))];simp
end
end Go.Proofs.YtifbnponicgplaaGreatDoor
