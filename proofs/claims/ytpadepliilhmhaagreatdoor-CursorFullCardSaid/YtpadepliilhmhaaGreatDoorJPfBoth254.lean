/- Lemmas and contracts of functions. No condition. -/
import Derived.Test.YtpadepliilhmhaaGreatDoorJPfBoth252
import Derived.Test.YtpadepliilhmhaaGreatDoorJPfBoth253
namespace Go.Proofs.YtpadepliilhmhaaGreatDoor
open _root_.Go.Proofs.Tryz
set_option maxRecDepth 100000
set_option maxHeartbeats 20000000
set_option linter.all false
section
open Go.RowKit Go.Shelf
abbrev Grp:=List Nat × List Nat
def yK(c:Grp):List Value := .int .u64 (zz c.1)::(List.range 8).map (fun i => .int .u32 ((c.2.getD i 0:Nat):Int))
theorem qD(c:Grp):(yK c).length=9:=by simp[yK]
theorem zcY(c:Grp){j:Nat}(hj:j<8):(yK c)[j+1]? = some (.int .u32 ((c.2.getD j 0:Nat):Int)):=by
 unfold yK;rw[Zz,yu,jb hj]
 rfl
structure xN(c:Grp):Prop where
 ctl:jW c.1
 len:c.2.length=8
 lt : ∀ s∈c.2,s≤4294967295
theorem xN.slot{c:Grp}(h:xN c)(j:Nat):c.2.getD j 0≤4294967295:=by
 rw[vF]
 cases hi:c.2[j]? with
 | none=>simp
 | some s=>exact h.lt s (yh hi)
def zB(Gs:List Grp):Nat:=(Gs.map (fun c=>c.1.countP (· < 128))).sum
def yc(Gs:List Grp):Nat:=(Gs.map (fun c=>c.1.countP (· == 254))).sum
structure xo(Gs:List Grp):Prop where
 pow:Pow Gs.length
 grp : ∀ c∈Gs,xN c
def zk(Gs:List Grp)(i:Nat):Grp:=Gs.getD i ([],[])
theorem vK{Gs:List Grp}{i:Nat}(h:i<Gs.length):Gs[i]? = some (zk Gs i):=by
 unfold zk;rw[vF,zQ h];rfl
theorem xo.at{Gs:List Grp}(h:xo Gs){i:Nat}(hi:i<Gs.length):xN (zk Gs i):=h.grp _ (yh (vK hi))
structure yd(w:World)(D:Nat→Prop)(p:Nat)(sv:Value)(Gs:List Grp):Prop where
 box:w.heap[p]? = some (.cells #[sv,.int .i64 (zB Gs),.int .i64 (yc Gs)] 293 (0,0))
 row:w.ownsRow 0 249 9 sv Gs.length (Gs.flatMap yK)
 dd : ∀ k,D k↔k=p∨sv.ownBlock=some k
 ok:xo Gs
theorem yd.mod{w w':World}{D S:Nat→Prop}{p:Nat}{sv:Value}{Gs:List Grp}(h:yd w D p sv Gs)(hm:Mod S w w')(hS : ∀ k,D k → ¬ S k):yd w' D p sv Gs :=
 ⟨hm.heap (hS p ((h.dd p).2 (.inl rfl))) h.box,zA h.row hm (fun g hg=>hS g ((h.dd g).2 (.inr hg))),h.dd,h.ok⟩
theorem yd.pure{w w':World}{D:Nat→Prop}{p:Nat}{sv:Value}{Gs:List Grp}(h:yd w D p sv Gs)(hm:zb w w'):yd w' D p sv Gs:=h.mod hm (fun _ _ h=>h)
theorem yd.quiet{N:Nat}{w w':World}{D:Nat→Prop}{p:Nat}{sv:Value}{Gs:List Grp}(h:yd w D p sv Gs)(hq:zv N w w'):yd w' D p sv Gs :=
 ⟨hq.cells h.box,hq.owns h.row,h.dd,h.ok⟩
theorem yd.at{w:World}{D:Nat→Prop}{p:Nat}{sv:Value}{Gs:List Grp}(h:yd w D p sv Gs) :
  ∃ B c,sv=.slice (some ⟨B,0,none⟩) Gs.length c∧Gs.length≤c∧B<w.heap.size∧D B∧(∀ j,w.frozen? ⟨B,j,none⟩=false) ∧
   ∀ i,i<Gs.length→w.cell? ⟨B,i*9,none⟩=some (.int .u64 (zz (zk Gs i).1)) ∧ ∀ j,j<8→w.cell? ⟨B,i*9+(j+1),none⟩=some (.int .u32 (((zk Gs i).2.getD j 0:Nat):Int)):=by
 obtain⟨B,c,rfl,hc,hB,hcells,hf,_⟩:=kh h.row h.ok.pow.pos;refine⟨B,c,rfl,hc,hB,(h.dd B).2 (.inr rfl),hf,fun i hi=>⟨?_,fun j hj => ?_⟩⟩
 ·have:=uL yK 9 qD 0 (by omega) Gs i;rw[vK hi]at this;exact hcells _ _ this
 ·have:=uL yK 9 qD (j+1) (by omega) Gs i;rw[vK hi]at this;exact hcells _ _ (this.trans (zcY _ hj))
def k9(c:Grp)(tag:Nat):List Nat:=vx (zI (c.1.map (· == tag)))
def vE(c:Grp):Bool:=c.1.any (· == 128)
def kI(Gs:List Grp)(tag:Nat):List Nat→List (Nat × Nat)
 | []=>[]
 | i::r=>(k9 (zk Gs i) tag).map (fun j=>(i,j))++if vE (zk Gs i)then[]else kI Gs tag r
def xr(Gs:List Grp)(sum:Nat):List (Nat × Nat):=kI Gs (sum%128) (xF (sum/128) Gs.length)
def zR(Gs:List Grp)(x:Nat × Nat):Nat:=(zk Gs x.1).2.getD x.2 0
def uR(f:List Nat→Nat→Bool)(xs:List Nat):Prop := ∀ a b c,xs=a++b::c→f a b=false
theorem zj6(f:List Nat→Nat→Bool):uR f []:=fun a b c h=>by simp at h
theorem zjf{f:List Nat→Nat→Bool}{xs:List Nat}{x:Nat}(h:uR f xs)(hx:f xs x=false):uR f (xs++[x]):=by
 intro a b c e;rcases List.eq_nil_or_concat c with rfl | ⟨c',y,rfl⟩
 ·have:xs=a∧x=b:=by
   have:=List.append_inj' e rfl;exact⟨this.1,by simpa using this.2⟩
  rw[← this.1,← this.2];exact hx
 ·have:xs++[x]=(a++b::c')++[y]:=by rw[e];simp
  have:=(List.append_inj' this rfl).1;exact h a b c' this
theorem VS{Gs:List Grp}{tag:Nat} : ∀(pre:List Nat) (i:Nat) (post:List Nat),(∀ k∈pre,vE (zk Gs k)=false) →
  kI Gs tag (pre++i::post)=pre.flatMap (fun i=>(k9 (zk Gs i) tag).map (fun j=>(i,j)))++((k9 (zk Gs i) tag).map (fun j=>(i,j))++if vE (zk Gs i)then[]else kI Gs tag post)
 | [],i,post,_=>rfl
 | k::pre,i,post,h=>by
  have hk:=h k (by simp);simp only[List.cons_append,kI,hk,List.flatMap_cons];rw[VS pre i post (fun k' h'=>h k' (by simp[h']))];simp
theorem zb5{Gs:List Grp}{tag:Nat} : ∀(pre:List Nat),(∀ k∈pre,vE (zk Gs k)=false) →
  kI Gs tag pre=pre.flatMap (fun i=>(k9 (zk Gs i) tag).map (fun j=>(i,j)))
 | [],_=>rfl
 | k::pre,h=>by
  have hk:=h k (by simp);simp only[kI,hk,List.flatMap_cons];rw[zb5 pre (fun k' h'=>h k' (by simp[h']))];simp
end
end Go.Proofs.YtpadepliilhmhaaGreatDoor
