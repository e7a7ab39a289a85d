/- Lemmas and contracts of functions. No condition. -/
import Derived.Maps.OwnOps
import Derived.Maps.OwnSet
import Derived.Maps.Views
import Derived.RangeFuncNested
import Derived.RangeFuncBound
import Derived.RangeFuncCalls
import Derived.RangeFuncLeaves
import Derived.Shelf.Abstract
import Derived.Shelf.RegionOpen
import Derived.OwnWalkIn
import Derived.TacticsInMore
import Derived.LoopNIn
import Derived.LoopIn
import Derived.Test.YtdohbogbnheakaaGreatDoorJPfBoth402
import Derived.Stop.RegionWithIn
namespace Go.Proofs.YtdohbogbnheakaaGreatDoor
open _root_.Go.Proofs.Tryz
set_option maxRecDepth 100000
set_option maxHeartbeats 20000000
set_option linter.all false
section
def wd(f:Nat→Bool)(k:Nat):Nat→Nat
 | 0=>0
 | n+1=>(if f (64*k+n)then 2 ^ n else 0)+wd f k n
theorem JO(f:Nat→Bool)(k:Nat) : ∀ n,wd f k n<2 ^ n
 | 0=>by simp[wd]
 | n+1=>by
  have:=JO f k n;unfold wd;rw[Zn];split<;>omega
theorem zbj(f:Nat→Bool)(k:Nat) : ∀ n j,(wd f k n).testBit j=(decide (j<n)&&f (64*k+j))
 | 0,j=>by simp[wd]
 | n+1,j=>by
  have h1:=JO f k n;have h2:=zbj f k n j;unfold wd;by_cases hf:f (64*k+n)=true
  ·rw[zk hf];have e:=ZH 1 h1 j;rw[jW]at e;rw[e,h2];by_cases hj:j<n
   ·rw[zk hj];have:decide (j<n+1)=true:=zP (by omega);simp[hj,this]
   ·rw[zh hj];by_cases e2:j=n
    ·subst e2;simp[hf]
    ·have h3 : ¬ j<n+1:=by omega
     have h5:Nat.testBit 1 (j-n)=false:=by
      cases hm:j-n with
      | zero=>omega
      | succ m=>rw[Nat.testBit_succ];simp
     rw[h5];simp[h3]
  ·rw[zh hf,qn,h2];rw[Bool.not_eq_true]at hf;by_cases hj:j<n
   ·have:j<n+1:=by omega
    simp[hj,this]
   ·by_cases e2:j=n
    ·subst e2;simp[hf]
    ·have : ¬ j<n+1:=by omega
     simp[hj,this]
def xd(f:Nat→Bool)(k:Nat):Nat:=wd f k 64
theorem j4(f:Nat→Bool)(k j:Nat):(xd f k).testBit j=(decide (j<64)&&f (64*k+j)):=zbj f k 64 j
theorem J8(f:Nat→Bool)(k:Nat):xd f k<18446744073709551616:=JO f k 64
theorem zhD{f g:Nat→Bool}{k:Nat}(h : ∀ j,j<64→f (64*k+j)=g (64*k+j)):xd f k=xd g k:=by
 apply Zb;intro j;rw[j4,j4];by_cases hj:j<64
 ·rw[h j hj]
 ·simp[hj]
def vH(f:Nat→Bool)(b:Nat)(v:Bool):Nat→Bool:=fun x=>if x=b then v else f x
theorem zhu{f:Nat→Bool}{b:Nat}:xd f (b/64) ||| 2 ^ (b%64)=xd (vH f b true) (b/64):=by
 apply Zb;intro j;rw[Nat.testBit_or,j4,j4,Nat.testBit_two_pow];unfold vH;by_cases hj:j<64
 ·by_cases e:b%64=j
  ·have:64*(b/64)+j=b:=by omega
   simp[hj,e,this]
  ·have:64*(b/64)+j≠b:=by omega
   simp[hj,e,this]
 ·have:b%64≠j:=by omega
  simp[hj,this]
theorem zh0{f:Nat→Bool}{b:Nat}:xd f (b/64) &&& (18446744073709551615-2 ^ (b%64))=xd (vH f b false) (b/64):=by
 apply Zb;intro j;have hlt:2 ^ (b%64)<2 ^ 64:=Nat.pow_lt_pow_right (by decide) (by omega);have e1:18446744073709551615-2 ^ (b%64)=2 ^ 64-(2 ^ (b%64)+1):=by omega
 rw[Nat.testBit_and,j4,j4,e1,Nat.testBit_two_pow_sub_succ hlt,Nat.testBit_two_pow];unfold vH;by_cases hj:j<64
 ·by_cases e:b%64=j
  ·have:64*(b/64)+j=b:=by omega
   simp[hj,e,this]
  ·have:64*(b/64)+j≠b:=by omega
   simp[hj,e,this]
 ·simp[hj]
theorem zfV{f:Nat→Bool}{b k:Nat}{v:Bool}(h:k≠b/64):xd (vH f b v) k=xd f k :=
 zhD (fun j hj=>by unfold vH;rw[zh (by omega)])
theorem KV{f:Nat→Bool}{k:Nat}:xd f k=0 ↔ ∀ j,j<64→f (64*k+j)=false:=by
 constructor
 ·intro h j hj;have:=j4 f k j;rw[h]at this;simp[hj]at this;exact this
 ·intro h;apply Zb;intro j;rw[j4];by_cases hj:j<64
  ·rw[h j hj];simp
  ·simp[hj]
def uI(f:Nat→Bool)(n:Nat):Option Nat:=(List.range n).find? f
theorem zew{f:Nat→Bool}{n:Nat}(h : ∀ j,j<n→f j=false):uI f n=none:=by
 unfold uI;rw[qm];intro x hx;rw[h x (ZZ.1 hx)];decide
theorem zkn{f:Nat→Bool}{n b:Nat}(hb:b<n)(h1:f b=true)(h2 : ∀ j,j<b→f j=false):uI f n=some b:=by
 unfold uI;rw[List.find?_range_eq_some];exact⟨h1,ZZ.2 hb,fun j hj=>by rw[h2 j hj];decide⟩
structure Nd where
 pv:Nat
 nx:Nat
 ow:Nat
abbrev ndZ:Nd:=⟨0,0,0⟩
def nd(F:List Nd)(i:Nat):Nd:=(F[i]?).getD ndZ
theorem Jm{F:List Nd}{i:Nat}(h:i<F.length):F[i]? = some (nd F i):=by unfold nd;rw[zL h];rfl
theorem ZY{F:List Nd}{i:Nat}(h:i<F.length)(v:Nd)(j:Nat):nd (F.set i v) j=if j=i then v else nd F j:=by
 unfold nd;by_cases e:i=j
 ·subst e;rw[zk rfl,yv h];rfl
 ·rw[zh (fun c=>e c.symm),yy e]
def Ch(F:List Nd):Nat→List Nat→Prop
 | _,[]=>True
 | a,x::l=>(nd F a).nx=x∧(nd F x).pv=a∧Ch F x l
theorem ZO{F:List Nd} : ∀ {l1:List Nat} {a:Nat} {l2:List Nat},Ch F a (l1++l2)↔Ch F a l1∧Ch F (l1.getLastD a) l2
 | [],a,l2=>by simp[Ch]
 | x::l1,a,l2=>by
  have := @ZO F l1 x l2;simp only[List.cons_append,Ch,this,List.getLastD_cons,and_assoc]
theorem Yu{F F':List Nd} : ∀ {l:List Nat} {a:Nat},Ch F a l→(∀ i∈(a::l).dropLast,(nd F' i).nx=(nd F i).nx)→(∀ i∈l,(nd F' i).pv=(nd F i).pv)→Ch F' a l
 | [],_,_,_,_=>trivial
 | x::l,a,⟨h1,h2,h3⟩,hn,hp=>by
  refine⟨by rw[hn a (by simp),h1],by rw[hp x (by simp),h2],Yu h3 (fun i hi=>hn i ?_) (fun i hi=>hp i (yH _ hi))⟩;rw[List.dropLast_cons_of_ne_nil (by simp)];exact yH _ hi
theorem zcF{F:List Nd} : ∀ {l:List Nat} {a:Nat},Ch F a l → ∀ x∈l,(nd F (nd F x).pv).nx=x∧((nd F x).pv=a∨(nd F x).pv∈l.dropLast)
 | [],_,_,x,hx=>by cases hx
 | y::l,a,⟨h1,h2,h3⟩,x,hx=>by
  rcases zO.1 hx with rfl | hx
  ·exact⟨by rw[h2,h1],.inl h2⟩
  ·obtain⟨e1,e2⟩:=zcF h3 x hx;refine⟨e1,.inr ?_⟩;have hne:l ≠ []:=by rintro rfl;cases hx
   rw[List.dropLast_cons_of_ne_nil hne];rcases e2 with e2 | e2
   ·rw[e2];exact yE
   ·exact yH _ e2
def kw(F:List Nd)(r:Nat)(l:List Nat):Prop:=Ch F r (l++[r])
def ke(F:List Nd)(n o:Nat):List Nd :=
 ((F.set n ⟨(nd F o).pv,o,(nd F o).ow⟩).set (nd F o).pv ⟨(nd (F.set n ⟨(nd F o).pv,o,(nd F o).ow⟩) (nd F o).pv).pv,n,(nd (F.set n ⟨(nd F o).pv,o,(nd F o).ow⟩) (nd F o).pv).ow⟩).set o
  ⟨n,(nd ((F.set n ⟨(nd F o).pv,o,(nd F o).ow⟩).set (nd F o).pv ⟨(nd (F.set n ⟨(nd F o).pv,o,(nd F o).ow⟩) (nd F o).pv).pv,n,(nd (F.set n ⟨(nd F o).pv,o,(nd F o).ow⟩) (nd F o).pv).ow⟩) o).nx,
   (nd ((F.set n ⟨(nd F o).pv,o,(nd F o).ow⟩).set (nd F o).pv ⟨(nd (F.set n ⟨(nd F o).pv,o,(nd F o).ow⟩) (nd F o).pv).pv,n,(nd (F.set n ⟨(nd F o).pv,o,(nd F o).ow⟩) (nd F o).pv).ow⟩) o).ow⟩
theorem Kt(F:List Nd)(n o:Nat):(ke F n o).length=F.length:=by simp[ke]
theorem QD{F:List Nd}{n o:Nat}(hn:n<F.length)(ho:o<F.length)(hb:(nd F o).pv<F.length)(h1:(nd F o).pv≠n)(h2:o≠n)(i:Nat) :
  (nd (ke F n o) i).nx=(if i=(nd F o).pv then n else if i=n then o else(nd F i).nx)∧(nd (ke F n o) i).pv=(if i=o then n else if i=n then(nd F o).pv else(nd F i).pv)∧(nd (ke F n o) i).ow=(if i=n then(nd F o).ow else(nd F i).ow):=by
 unfold ke;generalize hbb:(nd F o).pv=b at *;generalize hw:(nd F o).ow=wo at *;have e1 : ∀ j,nd (F.set n ⟨b,o,wo⟩) j=if j=n then⟨b,o,wo⟩else nd F j:=fun j=>ZY hn _ j
 generalize hF1:F.set n ⟨b,o,wo⟩=F1 at *;have l1:F1.length=F.length:=by rw[← hF1];simp
 have e2 : ∀ j,nd (F1.set b ⟨(nd F1 b).pv,n,(nd F1 b).ow⟩) j=if j=b then⟨(nd F1 b).pv,n,(nd F1 b).ow⟩else nd F1 j:=fun j=>ZY (by omega) _ j
 generalize hF2:F1.set b ⟨(nd F1 b).pv,n,(nd F1 b).ow⟩=F2 at *;have l2:F2.length=F.length:=by rw[← hF2];simpa using l1
 rw[ZY (by omega) _ i];by_cases c1:i=o
 ·subst c1;rw[zk rfl];simp only[e2,e1,if_neg h2,if_pos];by_cases c2:i=b
  ·subst c2;simp[e1,h2]
  ·simp[c2,h2]
 ·rw[zh c1];simp only[e2,e1];by_cases c2:i=b
  ·subst c2;simp[h1,c1]
  ·by_cases c3:i=n
   ·subst c3;simp[c2,c1]
   ·simp[c2,c3,c1]
theorem QT{l:List Nat}{z:Nat}(hnd:l.Nodup)(hz:l.getLast? = some z) : ∀ i∈l.dropLast,i≠z:=by
 intro i hi e;subst e;have hne:l ≠ []:=by rintro rfl;cases hz
 have:l=l.dropLast++[i]:=by
  have h:=List.dropLast_concat_getLast hne;rw[List.getLast?_eq_some_getLast hne]at hz;injection hz with hz
  rw[hz]at h;exact h.symm
 rw[this]at hnd;rw[xD]at hnd;exact hnd.2.2 i hi i (by simp) rfl
theorem Yp(r:Nat)(l:List Nat):(r::l).getLast? = some (l.getLastD r):=by
 rw[List.getLast?_cons];rw[List.getLastD_eq_getLast?]
theorem zgV{F F':List Nd}{r n o z:Nat}{l1 l2:List Nat}(h:kw F r (l1++l2))(hnd:(r::(l1++l2)).Nodup)(hn:n∉r::(l1++l2))(ho:(l2++[r]).head? = some o)(hz:l1.getLastD r=z)
  (hx : ∀ i,(nd F' i).nx=(if i=z then n else if i=n then o else(nd F i).nx)) (hp : ∀ i,(nd F' i).pv=(if i=o then n else if i=n then z else(nd F i).pv)):kw F' r (l1++n::l2):=by
 unfold kw at *;rw[vM,ZO,hz]at h;rw[vM,ZO,hz];obtain⟨g1,g2⟩:=h;have hnz:n≠z:=by
  rintro rfl;refine hn ?_;have hm:=Ua ((Yp r l1).trans (congrArg some hz));rcases zO.1 hm with e | e
  ·rw[e];exact yE
  ·exact yH _ (xT _ e)
 have hor:o∈l2++[r]:=List.mem_of_head? ho;have hno:n≠o:=by
  rintro rfl;refine hn ?_;rcases yz.1 hor with e | e
  ·exact yH _ (xM _ e)
  ·rw[zF.1 e];exact yE
 have hnd1:(r::l1).Nodup:=by
  have:(r::l1).Sublist (r::(l1++l2)):=(List.sublist_append_left _ _).cons_cons _;exact hnd.sublist this
 have hl1 : ∀ i∈l1,i≠o∧i≠n:=fun i hi=>by
  refine⟨?_,fun e=>hn (by subst e;exact yH _ (xT _ hi))⟩;rintro rfl;rw[yO,xD]at hnd;rcases yz.1 hor with e | e
  ·exact hnd.2.2.2 i hi i e rfl
  ·rw[zF.1 e]at hi;exact hnd.1 (xT _ hi)
 refine⟨Yu g1 (fun i hi => ?_) (fun i hi => ?_),by rw[hx,zk rfl],?_,?_⟩
 ·rw[hx,zh (QT hnd1 ((Yp r l1).trans (congrArg some hz)) i hi),zh];rintro rfl;rcases zO.1 ((List.dropLast_sublist _).subset hi)with e | e
  ·exact hn (by rw[e];exact yE)
  ·exact(hl1 _ e).2 rfl
 ·rw[hp,zh (hl1 i hi).1,zh (hl1 i hi).2]
 ·rw[hp,zh hno,zk rfl]
 ·obtain⟨rest,hrest⟩ : ∃ rest,l2++[r]=o::rest:=by
   cases hl:l2++[r]with
   | nil=>simp at hl
   | cons y rest=>rw[hl]at ho;simp at ho;exact⟨rest,by rw[ho]⟩
  show Ch F' n (l2++[r])
  rw[hrest]at g2 ⊢;obtain⟨q1,q2,q3⟩:=g2;have hnd2:(o::rest).Nodup:=by
   rw[← hrest];rw[yO,xD]at hnd;rw[xD];exact⟨hnd.2.2.1,by simp,fun a ha b hb=>by rw[zF.1 hb];rintro rfl;exact hnd.1 (xM _ ha)⟩
  refine⟨by rw[hx,zh hnz,zk rfl],by rw[hp,zk rfl],Yu q3 (fun i hi => ?_) (fun i hi => ?_)⟩
  ·have hi2:i∈l2:=by
    have:(o::rest).dropLast=l2:=by rw[← hrest];simp
    rw[← this];exact hi
   have hiz:i≠z:=by
    rintro rfl;rw[yO,xD]at hnd;have hm:=Ua ((Yp r l1).trans (congrArg some hz));rcases zO.1 hm with e | e
    ·exact hnd.1 (by rw[← e];exact xM _ hi2)
    ·exact hnd.2.2.2 i e i hi2 rfl
   rw[hx,zh hiz,zh];rintro rfl;exact hn (yH _ (xM _ hi2))
  ·rw[hp,zh,zh]
   ·rintro rfl;have:i∈l2++[r]:=by rw[hrest];exact yH _ hi
    rcases yz.1 this with e | e
    ·exact hn (yH _ (xM _ e))
    ·exact hn (by rw[zF.1 e];exact yE)
   ·rintro rfl;exact(yO.1 hnd2).1 hi
def kD(F:List Nd)(n:Nat):List Nd :=
 ((F.set (nd F n).pv ⟨(nd F (nd F n).pv).pv,(nd F n).nx,(nd F (nd F n).pv).ow⟩).set (nd F n).nx
  ⟨(nd F n).pv,(nd (F.set (nd F n).pv ⟨(nd F (nd F n).pv).pv,(nd F n).nx,(nd F (nd F n).pv).ow⟩) (nd F n).nx).nx,(nd (F.set (nd F n).pv ⟨(nd F (nd F n).pv).pv,(nd F n).nx,(nd F (nd F n).pv).ow⟩) (nd F n).nx).ow⟩).set n ndZ
theorem zaL(F:List Nd)(n:Nat):(kD F n).length=F.length:=by simp[kD]
theorem zgb{F:List Nd}{n:Nat}(hn:n<F.length)(ha:(nd F n).pv<F.length)(hb:(nd F n).nx<F.length)(h1:(nd F n).pv≠n)(h2:(nd F n).nx≠n)(i:Nat) :
  (i≠n→(nd (kD F n) i).nx=(if i=(nd F n).pv then(nd F n).nx else(nd F i).nx)∧(nd (kD F n) i).pv=(if i=(nd F n).nx then(nd F n).pv else(nd F i).pv)∧(nd (kD F n) i).ow=(nd F i).ow)∧(i=n→nd (kD F n) i=ndZ):=by
 unfold kD;generalize hbb:(nd F n).pv=a at *;generalize hw:(nd F n).nx=b at *;have e1 : ∀ j,nd (F.set a ⟨(nd F a).pv,b,(nd F a).ow⟩) j=if j=a then⟨(nd F a).pv,b,(nd F a).ow⟩else nd F j:=fun j=>ZY ha _ j
 generalize hF1:F.set a ⟨(nd F a).pv,b,(nd F a).ow⟩=F1 at *;have l1:F1.length=F.length:=by rw[← hF1];simp
 have e2 : ∀ j,nd (F1.set b ⟨a,(nd F1 b).nx,(nd F1 b).ow⟩) j=if j=b then⟨a,(nd F1 b).nx,(nd F1 b).ow⟩else nd F1 j:=fun j=>ZY (by omega) _ j
 generalize hF2:F1.set b ⟨a,(nd F1 b).nx,(nd F1 b).ow⟩=F2 at *;have l2:F2.length=F.length:=by rw[← hF2];simpa using l1
 rw[ZY (by omega) _ i];refine⟨fun c => ?_,fun c=>by rw[zk c]⟩;rw[zh c];simp only[e2,e1];by_cases c1:i=b
 ·subst c1;by_cases c2:i=a
  ·subst c2;simp
  ·simp[c2]
 ·by_cases c2:i=a
  ·subst c2;simp[c1]
  ·simp[c1,c2]
theorem Aznqt {P:Prop}(h:P:=by
 rcases yz.1 this with e | e
 ·exact .inl e
 ·exact .inr (zF.1 e)):P:=h
theorem zjW{F F':List Nd}{r n:Nat}{l1 l2:List Nat}(h:kw F r (l1++n::l2))(hnd:(r::(l1++n::l2)).Nodup)
  (hx : ∀ i,i≠n→(nd F' i).nx=(if i=(nd F n).pv then(nd F n).nx else(nd F i).nx)) (hp : ∀ i,i≠n→(nd F' i).pv=(if i=(nd F n).nx then(nd F n).pv else(nd F i).pv)):kw F' r (l1++l2):=by
 unfold kw at *;rw[vM,ZO]at h;rw[vM,ZO];obtain⟨g1,g2,g3,g4⟩:=h;generalize hz:l1.getLastD r=z at *;have g4':Ch F n (l2++[r]):=g4;clear g4;obtain⟨o,rest,hrest⟩ : ∃ o rest,l2++[r]=o::rest:=by
  cases hl:l2++[r]with
  | nil=>simp at hl
  | cons y rest=>exact⟨y,rest,rfl⟩
 rw[hrest]at g4' ⊢;obtain⟨q1,q2,q3⟩:=g4';rw[g3,q1]at hx hp;rw[yO,xD,yO]at hnd;obtain⟨m1,m2,⟨m3,m4⟩,m5⟩:=hnd;have hzm:z=r∨z∈l1:=zO.1 (Ua ((Yp r l1).trans (congrArg some hz)));have hom:o∈l2∨o=r:=by
  have:o∈l2++[r]:=by rw[hrest];exact yE
  exact Aznqt
 have hrn:r≠n:=fun e=>m1 (by rw[e];simp)
 have hl1n : ∀ i∈l1,i≠n:=fun i hi e=>m5 i hi n (by simp) e
 have hzn:z≠n:=by
  rcases hzm with e | e
  ·rw[e];exact hrn
  ·exact hl1n z e
 have hl2n : ∀ i∈l2,i≠n:=fun i hi e=>m3 (by rw[← e];exact hi)
 have hon:o≠n:=by
  rcases hom with e | e
  ·exact hl2n o e
  ·rw[e];exact hrn
 have hnd1:(r::l1).Nodup:=by rw[yO];exact⟨fun e=>m1 (xT _ e),m2⟩
 refine⟨Yu g1 (fun i hi => ?_) (fun i hi => ?_),by rw[hx z hzn,zk rfl],by rw[hp o hon,zk rfl],Yu q3 (fun i hi => ?_) (fun i hi => ?_)⟩
 ·have hin:i≠n:=by
   rcases zO.1 ((List.dropLast_sublist _).subset hi)with e | e
   ·rw[e];exact hrn
   ·exact hl1n i e
  rw[hx i hin,zh (QT hnd1 ((Yp r l1).trans (congrArg some hz)) i hi)]
 ·rw[hp i (hl1n i hi),zh];rintro rfl;rcases hom with e | e
  ·exact m5 i hi i (yH _ e) rfl
  ·exact m1 (xT _ (by rw[← e];exact hi))
 ·have hi2:i∈l2:=by
   have:(o::rest).dropLast=l2:=by rw[← hrest];simp
   rw[← this];exact hi
  rw[hx i (hl2n i hi2),zh];rintro rfl;rcases hzm with e | e
  ·exact m1 (by rw[← e];exact xM _ (yH _ hi2))
  ·exact m5 i e i (yH _ hi2) rfl
 ·have hi2:i∈l2∨i=r:=by
   have:i∈l2++[r]:=by rw[hrest];exact yH _ hi
   exact Aznqt
  have hin:i≠n:=by
   rcases hi2 with e | e
   ·exact hl2n i e
   ·rw[e];exact hrn
  have hnd2:(o::rest).Nodup:=by
   rw[← hrest,xD];exact⟨m4,by simp,fun a ha b hb=>by rw[zF.1 hb];rintro rfl;exact m1 (xM _ (yH _ ha))⟩
  rw[hp i hin,zh];rintro rfl;exact(yO.1 hnd2).1 hi
structure xH(N:Nat)(Ls:List (List Nat))(F:List Nd):Prop where
 len:F.length=N+Ls.length
 ring : ∀(h:Nat) (l:List Nat),Ls[h]? = some l→kw F (N+h) l
 nodup : ∀(h:Nat) (l:List Nat),Ls[h]? = some l→l.Nodup
 own : ∀(h:Nat) (l:List Nat),Ls[h]? = some l → ∀ a∈l,a<N∧(nd F a).ow=h+1
 head : ∀ h,h<Ls.length→(nd F (N+h)).ow=h+1
 free : ∀ a,a<N→(nd F a).ow≠0 → ∃(h:Nat) (l:List Nat),Ls[h]? = some l∧a∈l∧(nd F a).ow=h+1
section
variable{N:Nat}{Ls:List (List Nat)}{F:List Nd}
theorem xH.hd_lt(h:xH N Ls F){k:Nat}(hk:k<Ls.length):N+k<F.length:=by rw[h.len];omega
theorem xH.cons_nodup(h:xH N Ls F){k:Nat}{l:List Nat}(hl:Ls[k]? = some l):((N+k)::l).Nodup:=by
 rw[yO];exact⟨fun e=>by have:=(h.own k l hl _ e).1;omega,h.nodup k l hl⟩
theorem xH.mem_lt(h:xH N Ls F){k:Nat}{l:List Nat}(hl:Ls[k]? = some l) : ∀ a∈l++[N+k],a<F.length∧(nd F a).ow=k+1:=fun a ha=>by
 have hk:=(zE.1 hl).1;rcases yz.1 ha with e | e
 ·exact⟨by have:=(h.own k l hl a e).1;rw[h.len];omega,(h.own k l hl a e).2⟩
 ·rw[zF.1 e];exact⟨h.hd_lt hk,h.head k hk⟩
theorem xH.pv(h:xH N Ls F){k:Nat}{l:List Nat}(hl:Ls[k]? = some l){a:Nat}(ha:a∈l++[N+k]):(nd F a).pv∈l++[N+k]∧(nd F (nd F a).pv).nx=a:=by
 obtain⟨e1,e2⟩:=zcF (h.ring k l hl) a ha;refine⟨?_,e1⟩;rcases e2 with e2 | e2
 ·rw[e2];simp
 ·simp at e2;exact xT _ e2
theorem xH.not_of(h:xH N Ls F){n:Nat}(hn:n<N)(hf:(nd F n).ow=0){k:Nat}{l:List Nat}(hl:Ls[k]? = some l):n∉(N+k)::l:=fun e=>by
 rcases zO.1 e with e | e
 ·omega
 ·have:=(h.own k l hl n e).2;omega
theorem kw.frame{F F':List Nd}{r:Nat}{l:List Nat}(h:kw F r l)(he : ∀ i∈r::l,nd F' i=nd F i):kw F' r l:=by
 refine Yu h (fun i hi => ?_) (fun i hi => ?_)
 ·have:i∈r::l:=by
   rw[← zbt,List.dropLast_concat]at hi;exact hi
  rw[he i this]
 ·rw[he i (by rcases yz.1 hi with e | e;exact yH _ e;rw[zF.1 e];exact yE)]
theorem qZ : ∀ {N:Nat} {l:List Nat},l.Nodup→(∀ a∈l,a<N)→l.length≤N
 | 0,l,_,h=>by
  cases l with
  | nil=>simp
  | cons a l=>exact absurd (h a (by simp)) (by omega)
 | N+1,l,hn,h=>by
  have h1:=qZ (N:=N) (l:=l.erase N) (hn.erase N) (fun a ha=>by
   have h2:=h a (List.mem_of_mem_erase ha);have h3:a≠N:=fun e=>by subst e;exact(List.Nodup.not_mem_erase hn) ha
   omega)
  have h2:=List.length_erase (a:=N) (l:=l);split at h2<;>omega
theorem xH.short(h:xH N Ls F){k:Nat}{l:List Nat}(hl:Ls[k]? = some l):l.length≤N:=qZ (h.nodup k l hl) (fun a ha=>(h.own k l hl a ha).1)
theorem xH.put(h:xH N Ls F){n:Nat}(hn:n<N)(hf:(nd F n).ow=0){k:Nat}{l1 l2:List Nat}(hl:Ls[k]? = some (l1++l2)){o:Nat}(ho:(l2++[N+k]).head? = some o) :
  xH N (Ls.set k (l1++n::l2)) (ke F n o)∧(nd F o).ow=k+1∧o<F.length∧(nd F o).pv<F.length∧(nd F o).pv≠n∧o≠n:=by
 have hk:=(zE.1 hl).1;have hom:o∈(l1++l2)++[N+k]:=by rw[vM];exact xM _ (List.mem_of_head? ho)
 obtain⟨ho1,ho2⟩:=h.mem_lt hl o hom;obtain⟨hb1,hb2⟩:=h.pv hl hom;obtain⟨hb3,hb4⟩:=h.mem_lt hl _ hb1;have hbn:(nd F o).pv≠n:=fun e=>by rw[e]at hb4;omega
 have hon:o≠n:=fun e=>by rw[e]at ho2;omega
 have hnF:n<F.length:=by rw[h.len];omega
 have E:=fun i=>QD hnF ho1 hb3 hbn hon i
 have hz:l1.getLastD (N+k)=(nd F o).pv:=by
  have hr:=h.ring k _ hl;unfold kw at hr;rw[vM,ZO]at hr;obtain⟨_,g2⟩:=hr
  cases hl2:l2++[N+k]with
  | nil=>simp at hl2
  | cons y rest =>
   rw[hl2]at g2 ho;simp at ho;subst ho;exact g2.2.1.symm
 have hnot:=h.not_of hn hf hl;refine⟨⟨by rw[Kt,xF];exact h.len,fun j l hj => ?_,fun j l hj => ?_,fun j l hj a ha => ?_,fun j hj => ?_,fun a ha haw => ?_⟩,ho2,ho1,hb3,hbn,hon⟩
 ·by_cases e:k=j
  ·subst e;rw[yv hk]at hj
   cases hj
   exact zgV (h.ring k _ hl) (h.cons_nodup hl) hnot ho hz (fun i=>(E i).1) (fun i=>(E i).2.1)
  ·rw[yy e]at hj;refine(h.ring j l hj).frame (fun i hi => ?_);have hi':i∈l++[N+j]:=by
    rcases zO.1 hi with e | e
    ·rw[e];simp
    ·exact xT _ e
   have hio:=(h.mem_lt hj i hi').2;have i1:i≠(nd F o).pv:=fun c=>by rw[c,hb4]at hio;omega
   have i2:i≠o:=fun c=>by rw[c,ho2]at hio;omega
   have i3:i≠n:=fun c=>by rw[c]at hio;omega
   obtain⟨e1,e2,e3⟩:=E i;rw[zh i1,zh i3]at e1;rw[zh i2,zh i3]at e2;rw[zh i3]at e3
   cases hh:nd (ke F n o) i;cases hh2:nd F i
   rw[hh,hh2]at e1 e2 e3;simp only at e1 e2 e3;rw[e1,e2,e3]
 ·by_cases e:k=j
  ·subst e;rw[yv hk]at hj
   cases hj
   have:=h.nodup k _ hl;rw[xD]at this ⊢;obtain⟨a1,a2,a3⟩:=this;rw[yO];refine⟨a1,⟨fun c=>hnot (yH _ (xM _ c)),a2⟩,fun x hx y hy => ?_⟩;rcases zO.1 hy with e | e
   ·rintro rfl;exact hnot (by rw[← e];exact yH _ (xT _ hx))
   ·exact a3 x hx y e
  ·rw[yy e]at hj;exact h.nodup j l hj
 ·rw[(E a).2.2];by_cases e:k=j
  ·subst e;rw[yv hk]at hj
   cases hj
   by_cases c:a=n
   ·rw[zk c,ho2];exact⟨by omega,rfl⟩
   ·rw[zh c];refine h.own k _ hl a ?_;rcases yz.1 ha with e | e
    ·exact xT _ e
    ·rcases zO.1 e with e | e
     ·exact absurd e c
     ·exact xM _ e
  ·rw[yy e]at hj;have:=h.own j l hj a ha;rw[zh (fun c=>by rw[c]at this;omega)];exact this
 ·rw[xF]at hj;rw[(E _).2.2,zh (by omega)];exact h.head j hj
 ·rw[(E a).2.2]at haw ⊢;by_cases c:a=n
  ·rw[zk c,ho2];exact⟨k,_,yv hk,by rw[c];simp,rfl⟩
  ·rw[zh c]at haw ⊢;obtain⟨j,l,hj,hm,hw⟩:=h.free a ha haw;by_cases e:k=j
   ·subst e;rw[hl]at hj
    cases hj
    refine⟨k,_,yv hk,?_,hw⟩;rcases yz.1 hm with e | e
    ·exact xT _ e
    ·exact xM _ (yH _ e)
   ·exact⟨j,l,by rw[yy e];exact hj,hm,hw⟩
theorem xH.back(h:xH N Ls F){n:Nat}(hn:n<N)(hf:(nd F n).ow=0){k:Nat}{l:List Nat}(hl:Ls[k]? = some l) :
  xH N (Ls.set k (l++[n])) (ke F n (N+k))∧(nd F (N+k)).ow=k+1∧N+k<F.length∧(nd F (N+k)).pv<F.length∧(nd F (N+k)).pv≠n∧N+k≠n :=
 h.put hn hf (l1:=l) (l2:=[]) (by rw[jb];exact hl) rfl
theorem xH.cut(h:xH N Ls F){n k:Nat}{l:List Nat}(hl:Ls[k]? = some l)(hm:n∈l) :
  xH N (Ls.set k (l.erase n)) (kD F n)∧n<N∧(nd F n).ow=k+1∧(nd F n).pv<F.length∧(nd F n).nx<F.length∧(nd F n).pv≠n∧(nd F n).nx≠n:=by
 have hk:=(zE.1 hl).1;obtain⟨hn,hw⟩:=h.own k l hl n hm;obtain⟨l1,l2,hne,hll,herase⟩:=List.exists_erase_eq hm;rw[herase];subst hll;have hnd:=h.cons_nodup hl;have hr:=h.ring k _ hl;have hr':=hr;unfold kw at hr';rw[vM,ZO]at hr';obtain⟨_,g2,g3,g4⟩:=hr';have g4':Ch F n (l2++[N+k]):=g4;obtain⟨o,rest,hrest⟩ : ∃ o rest,l2++[N+k]=o::rest:=by
  cases hl:l2++[N+k]with
  | nil=>simp at hl
  | cons y rest=>exact⟨y,rest,rfl⟩
 rw[hrest]at g4';obtain⟨q1,q2,q3⟩:=g4';have hol:o∈(l1++n::l2)++[N+k]:=by
  have:o∈l2++[N+k]:=by rw[hrest];exact yE
  rw[vM];exact xM _ (yH _ this)
 have hom:o∈l2∨o=N+k:=by
  have:o∈l2++[N+k]:=by rw[hrest];exact yE
  exact Aznqt
 obtain⟨hp1,hp2⟩:=h.pv hl (a:=n) (xT _ hm);obtain⟨hp3,hp4⟩:=h.mem_lt hl _ hp1;rw[← q1]at hol hom;obtain⟨ho3,ho4⟩:=h.mem_lt hl _ hol;have hnd2:=hnd;rw[yO,xD,yO]at hnd2;obtain⟨m1,m2,⟨m3,m4⟩,m5⟩:=hnd2;have hbn:(nd F n).nx≠n:=fun e=>by
  rw[e]at hom;rcases hom with e | e
  ·exact m3 e
  ·omega
 have han:(nd F n).pv≠n:=fun e=>by
  rw[e]at g3;have hzm:n=N+k∨n∈l1:=by
   have:=Ua ((Yp (N+k) l1).trans (congrArg some g3.symm));exact zO.1 this
  rcases hzm with e | e
  ·omega
  ·exact m5 n e n (by simp) rfl
 have hnF:n<F.length:=by rw[h.len];omega
 have E:=fun i=>zgb hnF hp3 ho3 han hbn i
 refine⟨⟨by rw[zaL,xF];exact h.len,fun j l hj => ?_,fun j l hj => ?_,fun j l hj a ha => ?_,fun j hj => ?_,fun a ha haw => ?_⟩,hn,hw,hp3,ho3,han,hbn⟩
 ·by_cases e:k=j
  ·subst e;rw[yv hk]at hj
   cases hj
   exact zjW hr hnd (fun i hi=>((E i).1 hi).1) (fun i hi=>((E i).1 hi).2.1)
  ·rw[yy e]at hj;refine(h.ring j l hj).frame (fun i hi => ?_);have hi':i∈l++[N+j]:=by
    rcases zO.1 hi with e | e
    ·rw[e];simp
    ·exact xT _ e
   have hio:=(h.mem_lt hj i hi').2;have i1:i≠(nd F n).pv:=fun c=>by rw[c,hp4]at hio;omega
   have i2:i≠(nd F n).nx:=fun c=>by rw[c,ho4]at hio;omega
   have i3:i≠n:=fun c=>by rw[c,hw]at hio;omega
   obtain⟨e1,e2,e3⟩:=(E i).1 i3;rw[zh i1]at e1;rw[zh i2]at e2
   cases hh:nd (kD F n) i;cases hh2:nd F i
   rw[hh,hh2]at e1 e2 e3;simp only at e1 e2 e3;rw[e1,e2,e3]
 ·by_cases e:k=j
  ·subst e;rw[yv hk]at hj
   cases hj
   rw[xD];exact⟨m2,m4,fun x hx y hy=>m5 x hx y (yH _ hy)⟩
  ·rw[yy e]at hj;exact h.nodup j l hj
 ·by_cases e:k=j
  ·subst e;rw[yv hk]at hj
   cases hj
   have hma:a∈l1++n::l2:=by
    rcases yz.1 ha with e | e
    ·exact xT _ e
    ·exact xM _ (yH _ e)
   have c:a≠n:=by
    rintro rfl;rcases yz.1 ha with e | e
    ·exact m5 a e a (by simp) rfl
    ·exact m3 e
   rw[((E a).1 c).2.2];exact h.own k _ hl a hma
  ·rw[yy e]at hj;have:=h.own j l hj a ha;have c:a≠n:=fun c=>by rw[c,hw]at this;omega
   rw[((E a).1 c).2.2];exact this
 ·rw[xF]at hj;rw[((E _).1 (by omega)).2.2];exact h.head j hj
 ·by_cases c:a=n
  ·rw[(E a).2 c]at haw;exact absurd rfl haw
  ·rw[((E a).1 c).2.2]at haw ⊢;obtain⟨j,l,hj,hm,hw⟩:=h.free a ha haw;by_cases e:k=j
   ·subst e;rw[hl]at hj
    cases hj
    refine⟨k,_,yv hk,?_,hw⟩;rcases yz.1 hm with e | e
    ·exact xT _ e
    ·rcases zO.1 e with e | e
     ·exact absurd e c
     ·exact xM _ e
   ·exact⟨j,l,by rw[yy e];exact hj,hm,hw⟩
end
end
section
open Go.RowKit
def ndC(n:Nd):List Value:=[.int .u32 n.pv,.int .u32 n.nx,.int .u32 n.ow]
def xi(F:List Nd):List Value:=F.flatMap ndC
def uo(Ls:List (List Nat)):List Value:=Ls.map (fun l => .int .i64 (l.length:Nat))
theorem Yy{F:List Nd}{i:Nat}(h:i<F.length){j:Nat}{u:Value}(hu:(ndC (nd F i))[j]? = some u):(xi F)[i*3+j]? = some u:=by
 have hj:j<3:=(zE.1 hu).1;unfold xi;rw[uW ndC 3 (fun _=>rfl) j hj F i,Jm h];exact hu
theorem zdf : ∀ {F:List Nd} {i j:Nat} {u:Value} {m:Nd},i<F.length→j<3→(ndC (nd F i)).set j u=ndC m→(xi F).set (i*3+j) u=xi (F.set i m)
 | [],i,j,u,m,h,_,_=>by simp at h
 | a::F,0,j,u,m,_,hj,e=>by
  have e':(ndC a).set j u=ndC m:=e
  show(ndC a++xi F).set (0*3+j) u=ndC m++xi F
  rw[Nat.zero_mul,qn,List.set_append_left _ _ (by simpa[ndC]using hj),e']
 | a::F,i+1,j,u,m,h,hj,e=>by
  have e':(ndC (nd F i)).set j u=ndC m:=e;have ih:=zdf (F:=F) (i:=i) (by simpa using h) hj e'
  show(ndC a++xi F).set ((i+1)*3+j) u=ndC a++xi (F.set i m)
  have hl:(ndC a).length=3:=rfl;rw[Xy _ _ (by rw[hl];omega),hl,show(i+1)*3+j-3=i*3+j by omega,ih]
theorem JA{Ls:List (List Nat)}{h:Nat}{l:List Nat}(hl:Ls[h]? = some l):(uo Ls)[h]? = some (.int .i64 (l.length:Nat)):=by
 unfold uo;rw[yC,hl];rfl
theorem za5(Ls:List (List Nat))(h:Nat)(l:List Nat):(uo Ls).set h (.int .i64 (l.length:Nat))=uo (Ls.set h l):=by
 unfold uo;rw[YM]
structure xf(w:World)(p gF gL cF cL N:Nat)(Ls:List (List Nat))(F:List Nd):Prop where
 box:w.heap[p]? = some (.cells #[.slice (some ⟨gF,0,none⟩) F.length cF,.int .i64 N,.slice (some ⟨gL,0,none⟩) Ls.length cL] 403 (0,0))
 fld:w.heap[gF]? = some (.cells (xi F).toArray 407 (0,0))
 len:w.heap[gL]? = some (.cells (uo Ls).toArray 3 (0,0))
 ok:xH N Ls F
 n1:1≤N
 nm:N≤4194304
 hm:Ls.length≤4096
section
variable{w w':World}{p gF gL cF cL N:Nat}{Ls:List (List Nat)}{F:List Nd}
theorem xf.frame{S:Nat→Prop}(h:xf w p gF gL cF cL N Ls F)(hm:Mod S w w')(h1 : ¬ S p)(h2 : ¬ S gF)(h3 : ¬ S gL):xf w' p gF gL cF cL N Ls F :=
 ⟨hm.heap h1 h.box,hm.heap h2 h.fld,hm.heap h3 h.len,h.ok,h.n1,h.nm,h.hm⟩
theorem xf.pure(h:xf w p gF gL cF cL N Ls F)(hm:zc w w'):xf w' p gF gL cF cL N Ls F:=h.frame hm (fun h=>h) (fun h=>h) (fun h=>h)
theorem xf.ne(h:xf w p gF gL cF cL N Ls F):p≠gF∧p≠gL∧gF≠gL:=by
 refine⟨?_,?_,?_⟩
 ·rintro rfl;have:=h.box.symm.trans h.fld;injection this with this;injection this with _ this;exact absurd this (by decide)
 ·rintro rfl;have:=h.box.symm.trans h.len;injection this with this;injection this with _ this;exact absurd this (by decide)
 ·rintro rfl;have:=h.fld.symm.trans h.len;injection this with this;injection this with _ this;exact absurd this (by decide)
theorem Az10p {P:Prop}(h:P:=by
 refine⟨?_,?_,?_⟩
 ·rw[g,vI];exact Yy hi (j:=0) rfl
 ·rw[g,vI];exact Yy hi (j:=1) rfl
 ·rw[g,vI];exact Yy hi (j:=2) rfl):P:=h
theorem xf.at_(h:xf w p gF gL cF cL N Ls F){i:Nat}(hi:i<F.length) :
  w.cell? ⟨gF,i*3,none⟩=some (.int .u32 (nd F i).pv)∧w.cell? ⟨gF,i*3+1,none⟩=some (.int .u32 (nd F i).nx)∧w.cell? ⟨gF,i*3+2,none⟩=some (.int .u32 (nd F i).ow):=by
 have g:=fun j=>zi w gF j _ _ (0,0) h.fld
 exact Az10p
theorem xf.lenAt(h:xf w p gF gL cF cL N Ls F){k:Nat}{l:List Nat}(hl:Ls[k]? = some l):w.cell? ⟨gL,k,none⟩=some (.int .i64 (l.length:Nat)):=by
 rw[zi w gL k _ _ (0,0) h.len,vI];exact JA hl
theorem xf.free(h:xf w p gF gL cF cL N Ls F):(∀ i,w.frozen? ⟨gF,i,none⟩=false)∧(∀ i,w.frozen? ⟨gL,i,none⟩=false)∧(∀ i,w.frozen? ⟨p,i,none⟩=false) :=
 ⟨fun i=>yU w gF i _ _ h.fld,fun i=>yU w gL i _ _ h.len,fun i=>yU w p i _ _ h.box⟩
end
def ym(w:World)(D:Nat→Prop)(p N:Nat)(Ls:List (List Nat)):Prop :=
 ∃ gF gL cF cL F,xf w p gF gL cF cL N Ls F ∧ ∀ k,D k↔(k=p∨k=gF∨k=gL)
section
variable{w w':World}{D S:Nat→Prop}{p N:Nat}{Ls:List (List Nat)}
theorem ym.frame(h:ym w D p N Ls)(hm:Mod S w w')(hd : ∀ k,D k → ¬ S k):ym w' D p N Ls:=by
 obtain⟨gF,gL,cF,cL,F,h1,h2⟩:=h;exact⟨gF,gL,cF,cL,F,h1.frame hm (hd p ((h2 p).2 (.inl rfl))) (hd gF ((h2 gF).2 (.inr (.inl rfl)))) (hd gL ((h2 gL).2 (.inr (.inr rfl)))),h2⟩
theorem ym.pure(h:ym w D p N Ls)(hm:zc w w'):ym w' D p N Ls:=h.frame hm (fun _ _ h=>h)
theorem ym.lt(h:ym w D p N Ls){k:Nat}(hk:D k):k<w.heap.size:=by
 obtain⟨gF,gL,cF,cL,F,h1,h2⟩:=h;rcases(h2 k).1 hk with rfl | rfl | rfl
 ·exact zm h1.box
 ·exact zm h1.fld
 ·exact zm h1.len
theorem ym.self(h:ym w D p N Ls):D p:=by obtain⟨gF,gL,cF,cL,F,h1,h2⟩:=h;exact(h2 p).2 (.inl rfl)
end
end
section
open Go.RowKit Go.Maps
structure Td where
 slot:Nat
 dl:Nat
 birth:Nat
def tdV(x:Td):Value := .agg #[.int .u32 x.slot,.int .u64 x.dl,.int .u64 x.birth]
def tdD(x:Td):DataW Unit := .agg [.lit (.int .u32 x.slot),.lit (.int .u64 x.dl),.lit (.int .u64 x.birth)]
def kF(v:Value):Option (DataW Unit × List MemPlace):=match v with
 | .agg cs=>match cs.toList with
  | [.int .u32 a,.int .u64 b,.int .u64 c]=>if 0≤a∧0≤b∧0≤c then some (.agg [.lit (.int .u32 a),.lit (.int .u64 b),.lit (.int .u64 c)],[])else none
  | _=>none
 | _=>none
theorem YS(x:Td):kF (tdV x)=some (tdD x,[]):=by
 unfold kF tdV tdD;simp
theorem Jj{v:Value}{z:DataW Unit × List MemPlace}(h:kF v=some z) : ∃ x,v=tdV x∧z=(tdD x,[]):=by
 unfold kF at h;split at h
 ·rename_i cs;split at h
  ·rename_i a b c e;split at h
   ·rename_i hp;injection h with h
    refine⟨⟨a.toNat,b.toNat,c.toNat⟩,?_,?_⟩
    ·unfold tdV;have:cs=#[.int .u32 a,.int .u64 b,.int .u64 c]:=by apply Array.ext';exact e
     rw[this];simp only[Int.toNat_of_nonneg hp.1,Int.toNat_of_nonneg hp.2.1,Int.toNat_of_nonneg hp.2.2]
    ·rw[← h];unfold tdD;simp only[Int.toNat_of_nonneg hp.1,Int.toNat_of_nonneg hp.2.1,Int.toNat_of_nonneg hp.2.2]
   ·cases h
  ·cases h
 ·cases h
theorem UK{x y:Td}(h:tdD x=tdD y):x=y:=by
 unfold tdD at h;injection h with h
 injection h with h1 h
 injection h with h2 h
 injection h with h3 h
 injection h1 with h1;injection h1 with _ h1
 injection h2 with h2;injection h2 with _ h2
 injection h3 with h3;injection h3 with _ h3
 cases x;cases y
 simp only at h1 h2 h3;rw[kH.1 h1,kH.1 h2,kH.1 h3]
def kS(s:Nat):Lit := .int .u32 s
def kB(s:Nat):Lit := .int .u64 s
theorem jz{a b:Nat}(h:kS a=kS b):a=b:=by unfold kS at h;injection h with _ h;exact kH.1 h
theorem Zz{a b:Nat}(h:kB a=kB b):a=b:=by unfold kB at h;injection h with _ h;exact kH.1 h
theorem X9(s:Nat):WideAt.IsKeyLit (kS s):=trivial
theorem Ql(s:Nat):WideAt.IsKeyLit (kB s):=trivial
theorem uH{s:Nat}(h:s≤4294967295):keyOf prog 143 (.int .u32 s)=some (kS s):=keyOf_int_mk underlying143 (by simp[Lit.wf,IntKind.min,IntKind.max,IntKind.signed,IntKind.bits];omega)
theorem qF{s:Nat}(h:s≤18446744073709551615):keyOf prog 27 (.int .u64 s)=some (kB s):=keyOf_int_mk underlying27 (by simp[Lit.wf,IntKind.min,IntKind.max,IntKind.signed,IntKind.bits];omega)
theorem x9:Keyed prog 143:=int_keyed underlying143
theorem kP:Keyed prog 27:=int_keyed underlying27
theorem Zo{H:Type}{P:Program}{k:TypeId}{R:Value→Option (DataW H × List MemPlace)}{w:World}{b n:Nat}{D:DataW H}(h:w.ownsMap P k R b n D):w.ownsMap P k R b (Maps.size D) D:=by
 obtain⟨es,clock,hb,F,_,rfl⟩:=h;exact⟨es,clock,hb,F,by simp[Maps.size,length_sorted],rfl⟩
theorem Yr{H:Type}{P:Program}{k:TypeId}{R:Value→Option (DataW H × List MemPlace)}{S:Nat→Prop}{w w':World}{b n:Nat}{D:DataW H}(h:w.ownsMap P k R b n D)(hm:Mod S w w')(hb : ¬ S b):w'.ownsMap P k R b n D:=by
 obtain⟨es,clock,h1,h2⟩:=h;exact⟨es,clock,hm.heap hb h1,h2⟩
structure yM(w:World)(b:Nat)(M:List Td)(D:DataW Unit):Prop where
 own:w.ownsMap prog 143 kF b M.length D
 at_ : ∀ x∈M,∀ zd,D.atKey (kS x.slot) zd=tdD x
 has : ∀ s,Maps.has D (kS s)=true → ∃ x∈M,x.slot=s
 size:Maps.size D=M.length
structure xI(w:World)(b:Nat)(M:List Td)(D:DataW Unit):Prop where
 own:w.ownsMap prog 27 unitElem b M.length D
 has : ∀ s,Maps.has D (kB s)=true ↔ ∃ x∈M,x.birth=s
 size:Maps.size D=M.length
section
variable{w w':World}{b:Nat}{M:List Td}{D:DataW Unit}{S:Nat→Prop}
theorem yM.mod(h:yM w b M D)(hm:Mod S w w')(hb : ¬ S b):yM w' b M D:=⟨Yr h.own hm hb,h.at_,h.has,h.size⟩
theorem xI.mod(h:xI w b M D)(hm:Mod S w w')(hb : ¬ S b):xI w' b M D:=⟨Yr h.own hm hb,h.has,h.size⟩
theorem yM.new(w:World):yM (w.alloc (.map #[] 0)) w.heap.size [] (.map []):=⟨YZ _ _ _ _,(fun _ h=>by cases h),(fun s h=>by cases h),rfl⟩
theorem xI.new(w:World):xI (w.alloc (.map #[] 0)) w.heap.size [] (.map []):=⟨YZ _ _ _ _,(fun s=>⟨(fun h=>by cases h),(fun⟨x,hx,_⟩=>by cases hx)⟩),rfl⟩
theorem yM.has_mem(h:yM w b M D){x:Td}(hx:x∈M):Maps.has D (kS x.slot)=true:=Maps.has_true_of_atKey (h.at_ x hx)
theorem Az5du {P:Prop}(h:P:=by
 cases hh:Maps.has D (kS s)with
 | false=>rfl
 | true=>obtain⟨x,hx,e⟩:=h.has s hh;exact absurd e (hs x hx)):P:=h
theorem yM.not_has(h:yM w b M D){s:Nat}(hs : ∀ x∈M,x.slot≠s):Maps.has D (kS s)=false:=by
 exact Az5du
theorem Xx(w:World):(zeroValue 236).run prog w=.ok (tdV ⟨0,0,0⟩) w:=by kernel_rfl
theorem yM.look(h:yM w b M D){x:Td}(hx:x∈M)(hs:x.slot≤4294967295):(Instr.lookup 230 (.map (some b)) (.int .u32 x.slot) true).run prog w=.ok (.tuple #[tdV x,.bool true]) w:=by
 obtain⟨v,ps,hrun,hv⟩:=h.own.look_ok x9 underlying230 (Xx w) (YS _) (uH hs);rw[h.at_ x hx]at hv;obtain⟨y,rfl,e⟩:=Jj hv;have:=UK (congrArg Prod.fst e);subst this;rw[hrun,h.has_mem hx]
theorem yM.look_no(h:yM w b M D){s:Nat}(hs:s≤4294967295)(hn : ∀ x∈M,x.slot≠s):(Instr.lookup 230 (.map (some b)) (.int .u32 s) true).run prog w=.ok (.tuple #[tdV ⟨0,0,0⟩,.bool false]) w:=by
 obtain⟨v,ps,hrun,hv⟩:=h.own.look_ok x9 underlying230 (Xx w) (YS _) (uH hs);have h0:=h.not_has hn;rw[Maps.atKey_of_not_has h0]at hv;obtain⟨y,rfl,e⟩:=Jj hv;have:=UK (congrArg Prod.fst e);subst this;rw[hrun,h0]
theorem yM.look1(h:yM w b M D){x:Td}(hx:x∈M)(hs:x.slot≤4294967295):(Instr.lookup 230 (.map (some b)) (.int .u32 x.slot) false).run prog w=.ok (tdV x) w:=by
 obtain⟨v,ps,hrun,hv⟩:=h.own.lookup x9 underlying230 (Xx w) (YS _) (uH hs);rw[h.at_ x hx]at hv;obtain⟨y,rfl,e⟩:=Jj hv;have:=UK (congrArg Prod.fst e);subst this;exact hrun
theorem xI.look(h:xI w b M D){s:Nat}(hs:s≤18446744073709551615):(Instr.lookup 298 (.map (some b)) (.int .u64 s) true).run prog w=.ok (.tuple #[.agg #[],.bool (Maps.has D (kB s))]) w:=by
 obtain⟨v,ps,hrun,hv⟩:=h.own.look_ok kP underlying298 (z := .agg #[]) (by kernel_rfl) (unitElem_mk) (qF hs);obtain⟨rfl,_⟩:=unitElem_inv hv;exact hrun
theorem Az9f5 {P:Prop}(h:P:=by
 have hm:=h.own.isMap;refine⟨ho,fun y hy zd => ?_,fun s hs => ?_,?_⟩
 ·rcases zO.1 hy with rfl | hy
  ·exact atKey_put_same hm (X9 _) _ _
  ·rw[atKey_put_other (fun e=>hn y hy (jz e))];exact h.at_ y hy zd
 ·by_cases e:s=x.slot
  ·exact⟨x,yE,e.symm⟩
  ·rw[has_put_other (fun c=>e (jz c))]at hs;obtain⟨y,hy,e2⟩:=h.has s hs;exact⟨y,yH _ hy,e2⟩
 ·rw[Zd (h.own.tidy x9),h.not_has hn,h.size];rfl):P:=h
theorem yM.put{x:Td}(h:yM w b M D)(hn : ∀ y∈M,y.slot≠x.slot)(ho:w'.ownsMap prog 143 kF b (M.length+1) (D.put (kS x.slot) (tdD x))):yM w' b (x::M) (D.put (kS x.slot) (tdD x)):=by
 exact Az9f5
theorem yM.again{x:Td}(h:yM w b M D)(hx:x∈M)(hu : ∀ y∈M,y.slot=x.slot→y=x)(ho:w'.ownsMap prog 143 kF b (M.length+1) (D.put (kS x.slot) (tdD x))):yM w' b M (D.put (kS x.slot) (tdD x)):=by
 have hm:=h.own.isMap;have hsz:Maps.size (D.put (kS x.slot) (tdD x))=M.length:=by rw[Zd (h.own.tidy x9),h.has_mem hx,h.size];rfl
 refine⟨by have:=Zo ho;rw[hsz]at this;exact this,fun y hy zd => ?_,fun s hs => ?_,hsz⟩
 ·by_cases e:y.slot=x.slot
  ·rw[hu y hy e,atKey_put_same hm (X9 _)]
  ·rw[atKey_put_other (fun c=>e (jz c))];exact h.at_ y hy zd
 ·by_cases e:s=x.slot
  ·exact⟨x,hx,e.symm⟩
  ·rw[has_put_other (fun c=>e (jz c))]at hs;exact h.has s hs
theorem Aznj3 {P:Prop}(h:P:=by
 have hsz:Maps.size (D.del (kS x.slot))=M'.length:=by
  have:=Maps.size_del (k:=kS x.slot) (h.own.tidy x9);rw[h.has_mem hx,h.size]at this;simp at this;omega
 refine⟨by have:=Zo ho;rw[hsz]at this;exact this,fun y hy zd => ?_,fun s hs => ?_,hsz⟩
 ·obtain⟨h1,h2⟩:=(hM y).1 hy;rw[atKey_del_other (fun c=>h2 (jz c))];exact h.at_ y h1 zd
 ·by_cases e:s=x.slot
  ·subst e;rw[has_del_same]at hs
   cases hs
  ·rw[has_del_other (fun c=>e (jz c))]at hs;obtain⟨y,hy,e2⟩:=h.has s hs;exact⟨y,(hM y).2 ⟨hy,fun c=>e (by rw[← e2,c])⟩,e2⟩):P:=h
theorem yM.del{x:Td}{M':List Td}(h:yM w b M D)(hx:x∈M)(hM : ∀ y,y∈M'↔y∈M∧y.slot≠x.slot)(hl:M'.length+1=M.length){n:Nat}(ho:w'.ownsMap prog 143 kF b n (D.del (kS x.slot))):yM w' b M' (D.del (kS x.slot)):=by
 exact Aznj3
theorem xI.put{x:Td}(h:xI w b M D)(hn : ∀ y∈M,y.birth≠x.birth)(ho:w'.ownsMap prog 27 unitElem b (M.length+1) (D.put (kB x.birth) (.agg []))):xI w' b (x::M) (D.put (kB x.birth) (.agg [])):=by
 have hm:=h.own.isMap;have h0:Maps.has D (kB x.birth)=false:=by
  cases hh:Maps.has D (kB x.birth)with
  | false=>rfl
  | true=>obtain⟨y,hy,e⟩:=(h.has _).1 hh;exact absurd e (hn y hy)
 refine⟨ho,fun s => ?_,?_⟩
 ·by_cases e:s=x.birth
  ·subst e;exact⟨fun _=>⟨x,yE,rfl⟩,fun _=>has_put_same hm (Ql _) _⟩
  ·rw[has_put_other (fun c=>e (Zz c)),h.has];constructor
   ·rintro⟨y,hy,e2⟩;exact⟨y,yH _ hy,e2⟩
   ·rintro⟨y,hy,e2⟩;rcases zO.1 hy with rfl | hy
    ·exact absurd e2.symm e
    ·exact⟨y,hy,e2⟩
 ·rw[Zd (h.own.tidy kP),h0,h.size];rfl
theorem xI.again{x:Td}(h:xI w b M D)(hx:x∈M)(ho:w'.ownsMap prog 27 unitElem b (M.length+1) (D.put (kB x.birth) (.agg []))):xI w' b M (D.put (kB x.birth) (.agg [])):=by
 have hm:=h.own.isMap;have h0:Maps.has D (kB x.birth)=true:=(h.has _).2 ⟨x,hx,rfl⟩;have hsz:Maps.size (D.put (kB x.birth) (.agg []))=M.length:=by rw[Zd (h.own.tidy kP),h0,h.size];rfl
 refine⟨by have:=Zo ho;rw[hsz]at this;exact this,fun s => ?_,hsz⟩;by_cases e:s=x.birth
 ·subst e;exact⟨fun _=>⟨x,hx,rfl⟩,fun _=>has_put_same hm (Ql _) _⟩
 ·rw[has_put_other (fun c=>e (Zz c)),h.has]
theorem xI.del{x:Td}{M':List Td}(h:xI w b M D)(hx:x∈M)(hM : ∀ y,y∈M'↔y∈M∧y.birth≠x.birth)(hl:M'.length+1=M.length){n:Nat}(ho:w'.ownsMap prog 27 unitElem b n (D.del (kB x.birth))):xI w' b M' (D.del (kB x.birth)):=by
 have h0:Maps.has D (kB x.birth)=true:=(h.has _).2 ⟨x,hx,rfl⟩;have hsz:Maps.size (D.del (kB x.birth))=M'.length:=by
  have:=Maps.size_del (k:=kB x.birth) (h.own.tidy kP);rw[h0,h.size]at this;simp at this;omega
 refine⟨by have:=Zo ho;rw[hsz]at this;exact this,fun s => ?_,hsz⟩;by_cases e:s=x.birth
 ·subst e;rw[has_del_same];exact⟨fun c=>(by cases c),fun⟨y,hy,e2⟩=>absurd e2 ((hM y).1 hy).2⟩
 ·rw[has_del_other (fun c=>e (Zz c)),h.has];constructor
  ·rintro⟨y,hy,e2⟩;exact⟨y,(hM y).2 ⟨hy,fun c=>e (by rw[← e2,c])⟩,e2⟩
  ·rintro⟨y,hy,e2⟩;exact⟨y,((hM y).1 hy).1,e2⟩
end
end
section
open Go.RowKit Go.Shelf
@[go_sem] theorem zlI (f : Nat) : Fence.wide.fn f = True := rfl
@[go_sem] theorem zln : Fence.wide.depth = none := rfl
@[go_sem] theorem zlS : Fence.wide.round = none := rfl
def zB(N:Nat)(A B:World):Prop:=Mod (fun k=>N≤k ∧ ∃ o,A.heap[k]? = some o∧o.isCells=false) A B
theorem zB.of_pure{N:Nat}{A B:World}(h:zc A B):zB N A B:=Mod.of_pure h
theorem zB.putObj{N:Nat}{A:World}{l:Nat}{o:Obj}(o':Obj)(hN:N≤l)(hl:A.heap[l]? = some o)(ho:o.isCells=false):zB N A (A.putObj l o') :=
 ⟨rfl,rfl,rfl,by simp,fun k _ hn=>World.putObj_heap_other (fun e=>hn (by subst e;exact⟨hN,o,hl,ho⟩))⟩
theorem zB.cells{N:Nat}{A B:World}(h:zB N A B){k:Nat}{cs:Array Value}{T:TypeId}{fz:Nat × Nat}(hc:A.heap[k]? = some (.cells cs T fz)):B.heap[k]? = some (.cells cs T fz) :=
 Mod.heap h (fun⟨_,o,ho,hn⟩=>by rw[hc]at ho;cases ho;cases hn) hc
theorem zB.cell{N:Nat}{A B:World}(h:zB N A B){a:Addr}{v:Value}(hc:A.cell? a=some v):B.cell? a=some v:=by
 refine Mod.cell h ?_ hc;rintro⟨_,o,ho,hn⟩;unfold World.cell? at hc;rw[ho]at hc
 cases o<;>simp_all [Obj.isCells]
theorem zB.owns{N:Nat}{A B:World}(h:zB N A B){T k:Nat}{v:Value}{n:Nat}{xs:List Value}(ho:A.ownsRow 0 T k v n xs):B.ownsRow 0 T k v n xs :=
 zy ho h (fun g hg hs=>by
  obtain⟨c,e⟩:=yc ho hg;obtain⟨_,o,ho,hn⟩:=hs;rw[e]at ho;cases ho;cases hn)
theorem zB.mod{N:Nat}{S:Nat→Prop}{w A B:World}(h:zB N A B)(hm:Mod S w A)(hN:w.heap.size≤N):Mod S w B :=
 hm.then h (fun i hi hk=>by have:=hk.1;omega)
def xl(N:Nat)(A B:World):Prop := ∀ k o,N≤k→A.heap[k]? = some o→o.isCells=false→B.heap[k]? = some o
theorem xl.of_mod{N:Nat}{S:Nat→Prop}{A B:World}(h:Mod S A B)(hS : ∀ k,N≤k→S k → ∀ o,A.heap[k]? = some o→o.isCells=true):xl N A B :=
 fun k o hk ho hn=>h.heap (fun hs=>by have:=hS k hk hs o ho;rw[this]at hn;cases hn) ho
def xk(It:Nat→Prop)(A B:World):Prop:=A.heap.size≤B.heap.size ∧ ∀ k,It k→k<A.heap.size→B.heap[k]? = A.heap[k]?
theorem xk.of_mod{It S:Nat→Prop}{A B:World}(h:Mod S A B)(hS : ∀ k,It k → ¬ S k):xk It A B:=⟨h.size,fun k hk hlt=>h.block k hlt (hS k hk)⟩
theorem xk.trans{It:Nat→Prop}{A B C:World}(h:xk It A B)(k:xk It B C):xk It A C:=⟨zH h.1 k.1,fun i hi hlt=>(k.2 i hi (ve hlt h.1)).trans (h.2 i hi hlt)⟩
theorem xk.of_pure{It:Nat→Prop}{A B:World}(h:zc A B):xk It A B:=xk.of_mod h (fun _ _ h=>h)
def qR(P:Program){α:Type}(gf:Nat)(lb:Array Value)(encs:α→Array Value)(It:Nat→Prop)(G:List α→α→World→Prop)(S:List α→Prop)(w:World):Prop :=
 ∀(l:Nat) (J Jx:List α→World→Prop) (W:World),zc w W→(∀ pre A B,J pre A→zc A B→J pre B)→(∀ pre A B,Jx pre A→zc A B→Jx pre B) →
  (∀ pre x W1,J pre W1→G pre x W1→YieldAt Fence.wide 0 P l (encs x) W1 fun e W' =>
   (e=.returned (.bool true)∧J (pre++[x]) W'∧xk It W1 W')∨(e=.returned (.bool false)∧Jx (pre++[x]) W')) →
  J [] W →
  CallsIn Fence.wide 0 P gf (#[.func (.yield l) #[] #[]]++lb) W fun e W'=>(∃ v,e=.returned v)∧((∃ xs,S xs∧J xs W')∨(∃ pre,Jx pre W'))
def YT{α:Type}(N:Nat)(It:Nat→Prop)(I:List α→World→Prop)(Ix:Code→List α→World→Prop)(xs:List α)(W:World):Exit→Act→World→Prop
 | .normal,_,W'=>xl N W W'∧xk It W W'∧I xs W'
 | .ret,_,W'=>xl N W W'∧Ix .ret xs W'
 | .exit id,_,W'=>xl N W W'∧Ix (.exit id) xs W'
 | .goto t,_,W'=>xl N W W'∧Ix (.goto t) xs W'
 | .panic _,_,_=>False
 | .outgrown,_,_=>False
variable{P:Program}
theorem zbh{α:Type}{g:Operand}{ps:Array Tmp}{assign body:Code}{Q:Exit→Act→World→Prop}{a:Act}{w:World}
  {gf:Nat} {lb:Array Value} (hg:a.eval g=.func (.func gf) #[] lb) (eg : ∀ args w,(callFunc gf args).run P w=.ok (.enter gf args) w)
  {encs:α→Array Value} {It:Nat→Prop} {G:List α→α→World→Prop} {S:List α→Prop} (hit:qR P gf lb encs It G S w) (hItlt : ∀ k,It k→k<w.heap.size)
  (hps : ∀ x,(encs x).size=ps.size)
  (I:List α→World→Prop) (Ix:Code→List α→World→Prop) (hI : ∀ pre A B,I pre A→zB w.heap.size A B→I pre B) (hIx : ∀ c pre A B,Ix c pre A→zB w.heap.size A B→Ix c pre B) (h0:I [] w)
  (Ax:List α→α→Act→World→Prop) (hAx : ∀ pre x a' A B,Ax pre x a' A→zB w.heap.size A B→Ax pre x a' B)
  (hassign : ∀(l:Nat) (pre:List α) (x:α) (W:World) (K:Act→World→Prop),I pre W→G pre x W→(∀ a' W',zc W W'→Ax pre x a' W'→K a' W') →
   assign.wpIn (Fence.wide.inRound l) 0 P (Exit.then K (fun _ _ _=>False)) {tmps:=(ps.zip (encs x)).foldl (fun t (p,v)=>t.setIfInBounds p v) a.tmps,defers:=[]} W)
  (hbody : ∀(l:Nat) (pre:List α) (x:α) (a':Act) (W:World),w.heap.size≤l→(∃ r,W.heap[l]? = some (.loop r))→Ax pre x a' W →
   body.wpIn (Fence.wide.inRound l) 0 P (YT w.heap.size It I Ix (pre++[x]) W) a' W)
  (hdone : ∀(D:Nat) (xs:List α) (W:World),w.heap.size≤D→S xs→I xs W→W.heap[D]? = some (.deferred (some []))→Q .normal {a with defers := {target := .collected D,args:=#[]}::a.defers} W)
  (hstop : ∀(D:Nat) (c:Code) (pre:List α) (W:World),w.heap.size≤D→Ix c pre W→W.heap[D]? = some (.deferred (some []))→c.wpIn Fence.wide 0 P Q {a with defers := {target := .collected D,args:=#[]}::a.defers} W) :
  (Code.rangeFunc g ps assign body).wpIn Fence.wide 0 P Q a w:=by
 refine wpIn_rangeFunc ?_;intro fn hfn;obtain⟨rec,hrec⟩ : ∃ rec:LoopState→Option Code→Loop,rec=fun st pe => {state:=st,pending:=pe,fn,tmps:=a.tmps,params:=ps,assign,body,defers:=w.heap.size}:=⟨_,rfl⟩
 obtain⟨W1,hW1⟩:=zf ((w.alloc (.deferred (some []))).alloc (.loop (rec .ready none)));have hL1:W1.heap[w.heap.size+1]? = some (.loop (rec .ready none)):=by rw[← hW1];exact zj (by simp)
 have hK1:W1.heap[w.heap.size]? = some (.deferred (some [])):=by rw[← hW1];exact zG (zj rfl)
 have hP1:zc w W1:=by rw[← hW1];exact((Mod.refl _ w).alloc _).alloc _
 have hI1:I [] W1:=hI _ _ _ h0 (zB.of_pure hP1);refine⟨w.heap.size+1,[{target := .collected w.heap.size,args:=#[]}],W1,{target := .fn (.func gf) lb,args:=#[.func (.yield (w.heap.size+1)) #[] #[]]},W1,gf,
  #[.func (.yield (w.heap.size+1)) #[] #[]]++lb,W1,?_,?_,fun _ _=>trivial,?_,(fun h=>by cases h),?_⟩
 ·rw[← hW1,hrec];exact run_enterLoop_outer _ _ _ _ _
 ·simp only[resolve,hg];simp[go_sem]
 ·simp[invoke,go_sem,eg]
 ·refine(hit (w.heap.size+1)
   (fun pre W=>I pre W∧W.heap[w.heap.size+1]? = some (.loop (rec .ready none))∧W.heap[w.heap.size]? = some (.deferred (some []))∧w.heap.size≤W.heap.size)
   (fun pre W => ∃ c,Ix c pre W∧W.heap[w.heap.size+1]? = some (.loop (rec .done (some c)))∧W.heap[w.heap.size]? = some (.deferred (some [])))
   W1 hP1
   (fun pre A B hs hp=>⟨hI _ _ _ hs.1 (zB.of_pure hp),hp.heap (fun h=>h) hs.2.1,hp.heap (fun h=>h) hs.2.2.1,zH hs.2.2.2 hp.size⟩)
   (fun pre A B hs hp=>by
    obtain⟨c,hc,hl,hk⟩:=hs;exact⟨c,hIx _ _ _ _ hc (zB.of_pure hp),hp.heap (fun h=>h) hl,hp.heap (fun h=>h) hk⟩)
   ?_ ⟨hI1,hL1,hK1,hP1.size⟩).mono ?_
  ·rintro pre x W ⟨hi,hl,hk,hsz⟩ hGx;have hlt:w.heap.size+1<W.heap.size:=(uX.1 hl).1;have hy:=run_yield (P:=P) (args:=encs x) hl (by rw[hrec];exact hps x);rw[hrec]at hy;refine⟨fn,_,assign,body,hy,roundIn_of_wpIn hfn (hassign _ pre x W _ hi hGx ?_)⟩;clear hy;intro a' Wa hpa hax;have hla:Wa.heap[w.heap.size+1]? = _:=hpa.heap (fun h=>h) hl;have hka:Wa.heap[w.heap.size]? = _:=hpa.heap (fun h=>h) hk;have hlta:w.heap.size+1<Wa.heap.size:=(uX.1 hla).1;refine⟨_,run_beginRound hla (by rw[hrec]),?_⟩;have hq2:zB w.heap.size Wa (Wa.putObj (w.heap.size+1) (.loop {rec .ready none with state := .busy})):=zB.putObj _ (by omega) hla rfl;have hl2:(Wa.putObj (w.heap.size+1) (.loop {rec .ready none with state := .busy})).heap[w.heap.size+1]? = some (.loop {rec .ready none with state := .busy}):=World.putObj_heap_same hlta;have hk2:(Wa.putObj (w.heap.size+1) (.loop {rec .ready none with state := .busy})).heap[w.heap.size]? = some (.deferred (some [])):=(World.putObj_heap_other (by omega)).trans hka;have ha2:=hAx _ _ _ _ _ hax hq2;have hit2:xk It W (Wa.putObj (w.heap.size+1) (.loop {rec .ready none with state := .busy})) :=
    (xk.of_pure hpa).trans ⟨by simp,fun k hk _=>World.putObj_heap_other (by have:=hItlt k hk;omega)⟩
   refine wpIn_mono (hbody _ pre x a' _ (by omega) ⟨_,hl2⟩ ha2) ?_;have fin : ∀(jump:Option Code) (W3:World),xl w.heap.size (Wa.putObj (w.heap.size+1) (.loop {rec .ready none with state := .busy})) W3 →
     (Instr.endRound (w.heap.size+1) jump).run P W3=.ok (.bool jump.isNone) (W3.putObj (w.heap.size+1) (.loop (rec (if jump.isNone then .ready else .done) jump))) ∧
     W3.heap[w.heap.size+1]? = some (.loop {rec .ready none with state := .busy}) ∧
     (W3.putObj (w.heap.size+1) (.loop (rec (if jump.isNone then .ready else .done) jump))).heap[w.heap.size+1]? = some (.loop (rec (if jump.isNone then .ready else .done) jump)) ∧
     (W3.putObj (w.heap.size+1) (.loop (rec (if jump.isNone then .ready else .done) jump))).heap[w.heap.size]? = some (.deferred (some [])):=fun jump W3 hk3=>by
    have hl3:=hk3 _ _ (by omega) hl2 rfl;have:=run_endRound (P:=P) jump hl3;rw[hrec]at this ⊢;exact⟨this,by rw[hrec]at hl3;exact hl3,World.putObj_heap_same (uX.1 hl3).1,(World.putObj_heap_other (by omega)).trans (hk3 _ _ (zI _) hk2 rfl)⟩
   rintro e a3 W3 hp
   cases e with
   | normal =>
    obtain⟨hk3,hkp3,hi3⟩:=hp;obtain⟨hr,hl3,hl4,hk4⟩:=fin none W3 hk3;have hlt3:w.heap.size+1<W3.heap.size:=(uX.1 hl3).1;exact⟨_,_,hr,.inl ⟨rfl,⟨hI _ _ _ hi3 (zB.putObj _ (by omega) hl3 rfl),hl4,hk4,by simp;omega⟩,
     (hit2.trans hkp3).trans ⟨by simp,fun k hk _=>World.putObj_heap_other (by have:=hItlt k hk;omega)⟩⟩⟩
   | ret =>
    obtain⟨hk3,hi3⟩:=hp;obtain⟨hr,hl3,hl4,hk4⟩:=fin (some .ret) W3 hk3;exact⟨_,_,hr,.inr ⟨rfl,.ret,hIx _ _ _ _ hi3 (zB.putObj _ (by omega) hl3 rfl),hl4,hk4⟩⟩
   | exit id =>
    obtain⟨hk3,hi3⟩:=hp;obtain⟨hr,hl3,hl4,hk4⟩:=fin (some (.exit id)) W3 hk3;exact⟨_,_,hr,.inr ⟨rfl,.exit id,hIx _ _ _ _ hi3 (zB.putObj _ (by omega) hl3 rfl),hl4,hk4⟩⟩
   | goto t =>
    obtain⟨hk3,hi3⟩:=hp;obtain⟨hr,hl3,hl4,hk4⟩:=fin (some (.goto t)) W3 hk3;exact⟨_,_,hr,.inr ⟨rfl,.goto t,hIx _ _ _ _ hi3 (zB.putObj _ (by omega) hl3 rfl),hl4,hk4⟩⟩
   | panic ch=>exact hp.elim
   | outgrown=>exact hp.elim
  ·rintro e W2 ⟨⟨v,rfl⟩,(⟨xs,hS,hi,hl,hk,_⟩ | ⟨pre,c,hi,hl,hk⟩)⟩
   ·exact⟨none,_,by have:=run_endLoop (P:=P) hl (by rw[hrec];simp);rw[hrec]at this;exact this,hdone _ xs _ (zI _) hS (hI _ _ _ hi (zB.putObj _ (by omega) hl rfl)) ((World.putObj_heap_other (by omega)).trans hk)⟩
   ·exact⟨some c,_,by have:=run_endLoop (P:=P) hl (by rw[hrec];simp);rw[hrec]at this;exact this,hstop _ c pre _ (zI _) (hIx _ _ _ _ hi (zB.putObj _ (by omega) hl rfl)) ((World.putObj_heap_other (by omega)).trans hk)⟩
theorem zev{F:Fence}{m0:Nat}{P:Program}(w:World){ops:Array Oper}{rest:List Oper}{o:Oper}{a:Act}{Q:Exit→Act→World→Prop}(hgd:o.guard=none)(s x:Operand)(t:TypeId)
  (ho:o.op=.call {callee := .builtin .append,args:=#[s,x],argTypes:=#[t,t]})
  (e:TypeId) (i:TypeInfo) (z:Value) (k bytes:Nat) (ht:P.underlying t=some (.slice e)) (hi:P.info? e=some i) (hz:i.zero=some z)
  (hsize:i.size=k) (hby:i.bytes=bytes) (hzs:z.cells.size=k) (hsz:0<k)
  (v:Value) (n:Nat) (xs:List Value) (hs:a.eval s=v) (hown:w.ownsRow 0 e k v n xs) (xv:Value) (ys:List Value) (m:Nat) (hxv:a.eval x=xv) (hx:zo w xv k ys) (hm:ys.length=m*k)
  (h63:n+m≤maxLen) (hbytes:(n+m)*bytes≤140737488355328)
  (h : ∀ a' c' w',w'.ownsRow 0 e k (.slice a' (n+m) c') (n+m) (xs++ys)→w.grownBy w' v.ownBlock→((Value.slice a' (n+m) c').ownBlock=v.ownBlock∨(Value.slice a' (n+m) c').ownBlock=some w.heap.size)→wpListIn F m0 P ops Q rest (a.put o.dst (.slice a' (n+m) c')) w'):wpListIn F m0 P ops Q (o::rest) a w:=by
 refine wpListIn_plain hgd fun K hK' => ?_
 obtain⟨a',c',w',hr,h2,h3,h4⟩:=zaf (P:=P) w t o.type e i z k bytes ht hi hz hsize hby hzs hsz v n xs hown xv ys m hx hm h63 hbytes;unfold Oper.wpIn;refine⟨?_,?_⟩
 ·simp[Oper.about,ho,resolve,Target.leads,Sem.run_pure]
 ·rw[Oper.semAt_plain F _ _ (by rw[ho];intro c hc';cases hc')];simp[execOp,ho,resolve,invoke,builtin,hs,hxv,hr,Result.andThen];exact hK' _ _ (h a' c' w' h2 h3 h4)
theorem jy{P:Program}{fn:Func}{R:Ending→World→Prop}{l:Nat}{tmps:Array Value}{w:World}(v:Value)(hK:w.heap[l]? = some (.deferred (some [])))(hr:(results fn tmps).run P (w.putObj l (.deferred none))=.ok v (w.putObj l (.deferred none)))
  (hR:R (.returned v) (w.putObj l (.deferred none))):bodyPostM Fence.wide 0 P fn R .ret {tmps:=tmps,defers:=[{target := .collected l,args:=#[]}]} w :=
 ⟨by simp,.inl ⟨_,_,rfl,run_takeDeferred hK,v,hr,hR⟩⟩
end
section
open Go.RowKit Go.Shelf
variable{P:Program}
theorem zB.trans{N:Nat}{A B C:World}(h:zB N A B)(k:zB N B C):zB N A C:=by
 refine Mod.trans' h k (fun _ _ h=>h) (fun i hi hs => ?_);obtain⟨hN,o,ho,hc⟩:=hs;refine⟨hN,?_⟩;have hA:A.heap[i]? = some (A.heap[i]'hi):=qY hi
 cases hx:(A.heap[i]'hi).isCells with
 | false=>exact⟨_,hA,hx⟩
 | true =>
  have:=Mod.heap h (k:=i) (o:=A.heap[i]'hi) (fun hs=>by
   obtain⟨_,o',ho',hc'⟩:=hs;rw[hA]at ho';cases ho';rw[hx]at hc';cases hc') hA
  rw[this]at ho;cases ho;rw[hx]at hc;cases hc
theorem zB.refl(N:Nat)(A:World):zB N A A:=zB.of_pure (Mod.refl _ A)
theorem XV{α:Type}{g:Operand}{ps:Array Tmp}{assign body:Code}{Q:Exit→Act→World→Prop}{a:Act}{w:World}
  {gf:Nat} {lb:Array Value} (hg:a.eval g=.func (.func gf) #[] lb) (eg : ∀ args w,(callFunc gf args).run P w=.ok (.enter gf args) w)
  {encs:α→Array Value} {It:Nat→Prop} {G:List α→α→World→Prop} {S:List α→Prop} (hit:qR P gf lb encs It G S w) (hItlt : ∀ k,It k→k<w.heap.size)
  (hps : ∀ x,(encs x).size=ps.size)
  (I:List α→World→Prop) (Ix:Code→List α→World→Prop) (hI : ∀ pre A B,I pre A→zB w.heap.size A B→I pre B) (hIx : ∀ c pre A B,Ix c pre A→zB w.heap.size A B→Ix c pre B) (h0:I [] w)
  (hround : ∀(l:Nat) (pre:List α) (x:α) (W:World) (K:Act→World→Prop),I pre W→G pre x W →
   (∀ a' W',zc W W'→(∀(l':Nat) (W2:World),w.heap.size≤l'→(∃ r,W2.heap[l']? = some (.loop r))→zB w.heap.size W' W2→body.wpIn (Fence.wide.inRound l') 0 P (YT w.heap.size It I Ix (pre++[x]) W2) a' W2)→K a' W') →
   assign.wpIn (Fence.wide.inRound l) 0 P (Exit.then K (fun _ _ _=>False)) {tmps:=(ps.zip (encs x)).foldl (fun t (p,v)=>t.setIfInBounds p v) a.tmps,defers:=[]} W)
  (hdone : ∀(D:Nat) (xs:List α) (W:World),w.heap.size≤D→S xs→I xs W→W.heap[D]? = some (.deferred (some []))→Q .normal {a with defers := {target := .collected D,args:=#[]}::a.defers} W)
  (hstop : ∀(D:Nat) (c:Code) (pre:List α) (W:World),w.heap.size≤D→Ix c pre W→W.heap[D]? = some (.deferred (some []))→c.wpIn Fence.wide 0 P Q {a with defers := {target := .collected D,args:=#[]}::a.defers} W) :
  (Code.rangeFunc g ps assign body).wpIn Fence.wide 0 P Q a w :=
 zbh hg eg hit hItlt hps I Ix hI hIx h0
  (fun pre x a' W' => ∀(l':Nat) (W2:World),w.heap.size≤l'→(∃ r,W2.heap[l']? = some (.loop r))→zB w.heap.size W' W2→body.wpIn (Fence.wide.inRound l') 0 P (YT w.heap.size It I Ix (pre++[x]) W2) a' W2)
  (fun _ _ _ _ _ h hq l' W2 hl hr hq2=>h l' W2 hl hr (hq.trans hq2)) hround (fun l _ _ _ W hl hr h=>h l W hl hr (zB.refl _ _)) hdone hstop
end
section
open Go.RowKit Go.Shelf
attribute [local go_sem] Oper.semAt_some
def Pow(g:Nat):Prop := ∃ k≤20,g=2 ^ k
theorem Pow.pos{g:Nat}(h:Pow g):0<g:=by obtain⟨k,_,rfl⟩:=h;exact Nat.pow_pos (by decide)
theorem Pow.le{g:Nat}(h:Pow g):g≤1048576:=by obtain⟨k,hk,rfl⟩:=h;exact Zt (n:=2) (by decide) hk
def atM(part g i:Nat):Nat:=(part+i*(i+1)/2)%g
def xS(part g:Nat):List Nat:=(List.range g).map (atM part g)
theorem za9(s:Nat)(W:World)(hs:s<18446744073709551616):Calls prog 290 #[.int .u64 s] W fun e w'=>e=.returned (.int .u64 (s/128:Nat))∧W=w':=by
 have h0:(0:Int)≤s:=by omega
 have h1:(s:Int)≤18446744073709551615:=by omega
 go_enter func290,ntmps290;go_wp2;go_ret;exact⟨by simp,rfl⟩
theorem zdK(s:Nat):s &&& 127=s%128:=Ul s 7
theorem zcW(s:Nat)(W:World)(hs:s<18446744073709551616):Calls prog 293 #[.int .u64 s] W fun e w'=>e=.returned (.int .u8 (s%128:Nat))∧W=w':=by
 have h0:(0:Int)≤s:=by omega
 have h1:(s:Int)≤18446744073709551615:=by omega
 have e1:bits .and .u64 (s:Int) 127=_:=Xh s 127 hs (by omega);rw[zdK]at e1;have e2:((s%128:Nat):Int)%256=((s%128:Nat):Int):=by omega
 generalize s%128=t at *;go_enter func293,ntmps293;go_wp2;go_ret;exact⟨by simp[e1,e2],rfl⟩
theorem zdq(a b:Nat)(ha:a<9223372036854775808)(hb:b<9223372036854775808):bits .and .i64 (a:Int) (b:Int)=((a &&& b:Nat):Int):=by
 have h:a &&& b<2 ^ 63:=Nat.and_lt_two_pow _ hb
 show IntKind.i64.wrap (((BitVec.ofInt 64 (a:Int) &&& BitVec.ofInt 64 (b:Int)).toNat:Nat):Int)=_
 rw[uC,uC];rw[BitVec.toNat_and,ux,ux,xY (by omega),xY (by omega)];generalize a &&& b=c at *;simp[IntKind.wrap,IntKind.signed,IntKind.bits];omega
theorem zik : ∀ k≤20,2 ^ k &&& (2 ^ k-1)=0:=by decide +kernel
theorem K6(g:Nat)(W:World)(hg:Pow g):Calls prog 236 #[.int .i64 g] W fun e w'=>e=.returned (.bool true)∧W=w':=by
 have h0:(0:Int)<g:=by have:=hg.pos;omega
 have h1:(g:Int)≤1048576:=by have:=hg.le;omega
 have e1:bits .and .i64 (g:Int) ((g:Int)-1)=0:=by
  have:=zdq g (g-1) (by omega) (by omega);rw[show((g-1:Nat):Int)=(g:Int)-1 by omega]at this;rw[this];obtain⟨k,hk,rfl⟩:=hg;rw[zik k hk]
  rfl
 go_enter func236,ntmps236;go_wp2
 all_goals go_ret
 all_goals exact⟨rfl,rfl⟩
theorem zhs(part g i p d q z:Nat)(W:World)(hi:i<1048576)(hg0:1≤g)(hg:g≤1048576)(e1:wrap64 ((i:Int)*((i:Int)+1))=(p:Int))(e2:(p:Int).tdiv 2=(d:Int))(e3:wrap64 (d:Int)=d)(e4:IntKind.u64.wrap (d:Int)=d)
  (e5:IntKind.u64.wrap ((part:Int)+d)=(q:Int)) (e6:bits .and .u64 (q:Int) ((g:Int)-1)=(z:Int)) (e7:wrap64 (z:Int)=z) :
  Calls prog 334 #[.int .u64 part,.int .i64 g,.int .i64 i] W fun e w'=>e=.returned (.int .i64 z)∧W=w':=by
 have h1:(1:Int)≤g:=by omega
 have h2:(g:Int)≤1048576:=by omega
 have h3:(i:Int)<1048576:=by omega
 go_enter func334,ntmps334;go_wp2;go_ret;refine⟨?_,rfl⟩
 show Ending.returned (.int .i64 (wrap64 (z:Int)))=_
 rw[e7]
theorem ziw(i:Nat)(hi:i<1048576):i*(i+1)<1099512676352:=by
 have:i*(i+1)≤1048575*1048576:=Nat.mul_le_mul (by omega) (by omega);omega
theorem zd5(part g i:Nat)(hg:Pow g):(part+i*(i+1)/2) &&& (g-1)=atM part g i:=by
 unfold atM;obtain⟨k,hk,rfl⟩:=hg;rw[Ul]
theorem zgQ(part g i:Nat)(W:World)(hg:Pow g)(hp:part<144115188075855872)(hi:i<g):Calls prog 334 #[.int .u64 part,.int .i64 g,.int .i64 i] W fun e w'=>e=.returned (.int .i64 (atM part g i))∧W=w':=by
 have hg1:=hg.pos;have hg2:=hg.le;have hm:=ziw i (by omega);have hd:i*(i+1)/2<1099512676352:=by omega
 have hlt:atM part g i<g:=vp _ hg1;refine zhs part g i (i*(i+1)) (i*(i+1)/2) (part+i*(i+1)/2) (atM part g i) W (by omega) hg1 hg2 ?_ ?_ (jA _ (by omega)) (kr _ (by omega)) ?_ ?_ (jA _ (by omega))
 ·have:=jA (i*(i+1)) (by omega)
  rwa [Int.natCast_mul,Int.natCast_add]at this
 ·rw[Jn (Int.natCast_nonneg _)];exact(Int.natCast_ediv _ 2).symm
 ·have:=kr (part+i*(i+1)/2) (by omega)
  rwa [Int.natCast_add]at this
 ·have e6:=Xh (part+i*(i+1)/2) (g-1) (by omega) (by omega)
  rwa [show((g-1:Nat):Int)=(g:Int)-1 by omega,zd5 part g i hg]at e6
theorem zfl(g i:Nat)(W:World)(hg:Pow g)(hi:i<g):Calls prog 332 #[.int .i64 g,.int .i64 i] W fun e w'=>e=.returned (.int .i64 0)∧W=w':=by
 have hq:=K6 g W hg;have h0:(0:Int)≤i:=by omega
 have h1:(i:Int)<g:=by omega
 have h2 : ¬ ((g:Int)≤i):=by omega
 go_enter func332,ntmps332
 go_wp2_with (go_at_call 236;go_must (refine zq hq ?_);rintro e w' ⟨rfl,rfl⟩)
 go_ret;exact⟨rfl,rfl⟩
abbrev qE(i:Nat):Array Value:=#[.int .i64 i]
def zbD(xs:List Nat)(pre:List Nat)(x:Nat)(_:World):Prop := ∃ post,xs=pre++x::post
structure ut(w:World)(B1 B2 B3 part g:Nat):Prop where
 many:w.heap[B1]? = some (.cells #[.int .i64 g] 3 (0,0))
 part:w.heap[B2]? = some (.cells #[.int .u64 part] 27 (0,0))
 grps:w.heap[B3]? = some (.cells #[.int .i64 g] 3 (0,0))
def qN(B1 B2 B3 k:Nat):Prop:=k=B1∨k=B2∨k=B3
theorem ut.keeps{w w':World}{B1 B2 B3 part g:Nat}(h:ut w B1 B2 B3 part g)(hk:xk (qN B1 B2 B3) w w'):ut w' B1 B2 B3 part g :=
 ⟨(hk.2 B1 (.inl rfl) (zm h.many)).trans h.many,(hk.2 B2 (.inr (.inl rfl)) (zm h.part)).trans h.part,(hk.2 B3 (.inr (.inr rfl)) (zm h.grps)).trans h.grps⟩
theorem zj8{α:Type}{L:List α}{n:Nat}{a:α}(h:L[n]? = some a):L.drop n=a::L.drop (n+1):=by
 obtain⟨hlt,rfl⟩:=zE.1 h;exact jQ hlt
theorem zgq{α:Type}{L:List α}{n:Nat}{a:α}(h:L[n]? = some a):L.take (n+1)=L.take n++[a]:=by
 obtain⟨hlt,rfl⟩:=zE.1 h;rw[List.take_succ_eq_append_getElem hlt]
def zbf(J:List Nat→World→Prop)(B1 B2 B3 part g:Nat)(k:Value)(wr:World):Prop :=
 ∃ n,n≤g∧k=.int .i64 n∧J ((xS part g).take n) wr∧ut wr B1 B2 B3 part g
theorem ziv(part g:Nat):(xS part g).length=g:=by simp[xS]
theorem zfB(part g i:Nat)(h:i<g):(xS part g)[i]? = some (atM part g i):=by simp[xS,h]
theorem Azci3 {P:Prop}(h:P:=by
 refine zN (results_none rfl _ _ _) rfl ?_;exact⟨⟨_,rfl⟩,.inr ⟨_,hJx'⟩⟩):P:=h
theorem zbg{w:World}{B1 B2 B3 part g:Nat}(h:ut w B1 B2 B3 part g)(hg:Pow g)(hp:part<144115188075855872) :
  qR prog 333 #[.pointer (some ⟨B1,0,none⟩),.pointer (some ⟨B2,0,none⟩),.pointer (some ⟨B3,0,none⟩)] qE (qN B1 B2 B3) (zbD (xS part g)) (fun xs=>xs=xS part g) w:=by
 intro l J Jx W hW hJ hJx hY h0;have hA:=h.keeps (xk.of_pure hW);have hB:=zi W B1 0 _ _ _ hA.many;simp at hB;have HA:=za hA;have HY:=za hY;have HJ:=za hJ;have hgl:=hg.le;have HG:=za hg;clear hA hY hJ hJx h hW hg;refine callsIn_of_wp func333 rfl trivial ?_ rfl;simp only[ntmps333,List.size_toArray,List.length_cons,List.length_nil,Nat.reduceAdd,Nat.reduceSub,Array.replicate_succ,Array.replicate_zero,List.push_toArray,List.append_toArray,List.nil_append,List.cons_append];gi_wp2
 gi_loopw [5,7] (fun i k wr=>zbf J B1 B2 B3 part g k wr)
  (fun _ k _=>g-(intOf k).toNat)
 case atStart=>exact⟨0,yi _,rfl,h0,HA.out⟩
 case round =>
  obtain⟨n,hn,rfl,hJs,hI⟩:=hrel;by_cases hlt:n<g
  ·have hn0:(0:Int)≤(n:Int):=by omega
   have hn1:(n:Int)<(g:Int):=by omega
   have hn2:n≤1048576:=by omega
   have c2:=zi wr B2 0 _ _ _ hI.part;have c3:=zi wr B3 0 _ _ _ hI.grps;simp at c2 c3;have he:=zfB part g n hlt;have hdr:=zj8 he;have htk:(xS part g).take (n+1)=(xS part g).take n++[atM part g n]:=zgq he;obtain⟨fn,tmps,assign,body,hy,hR⟩:=HY.out ((xS part g).take n) (atM part g n) wr hJs ⟨(xS part g).drop (n+1),by rw[← hdr,Y2]⟩;dsimp only[qE]at hy;have hRR:=za hR;have HI:=za hI;have HAT:=za (zgQ part g n wr HG.out hp hlt);have HT:=za htk;clear hR hI hJs he hdr htk
   gi_wp2_with (gi_at_call 334;refine(yB.2 HAT.out).mono ?_;rintro e w1 ⟨rfl,rfl⟩)
   refine hRR.out.mono ?_;rintro e W' (⟨rfl,hJ',hk⟩ | ⟨rfl,hJx'⟩)
   ·have HJ':=za hJ';have HK:=za hk;clear hJ' hk;gi_wp2;go_roundw
    case rel =>
     unfold zbf;exact⟨n+1,by omega,by go_num,by rw[HT.out];exact HJ'.out,HI.out.keeps HK.out⟩
    case measure=>simp[intOf];omega
   ·gi_wp2;exact Azci3
  ·have hend:n=g:=by omega
   have hge:(g:Int)≤(n:Int):=by omega
   have HJS:=za hJs;have HE:=za hend;clear hJs hI hend;gi_wp2
   go_end0
   refine⟨⟨_,rfl⟩,.inl ⟨xS part g,rfl,?_⟩⟩;have:=HJS.out
   rwa [HE.out,qp (by rw[ziv];exact zI _)]at this
end
section
open Go.RowKit Go.Shelf
attribute [local go_sem] Oper.semAt_some
structure qs(w:World)(B m:Nat):Prop where
 set:w.heap[B]? = some (.cells #[.int .u8 m] 5 (0,0))
theorem qs.keeps{w w':World}{B m:Nat}(h:qs w B m)(hk:xk (fun k=>k=B) w w'):qs w' B m :=
 ⟨(hk.2 B rfl (zm h.set)).trans h.set⟩
def zcE(J:List Nat→World→Prop)(m:Nat)(k:Value)(wr:World):Prop :=
 ∃(r:Nat) (pre:List Nat),r<256∧k=.int .u8 r∧J pre wr∧vF m=pre++vF r
theorem zcB{w:World}{B m:Nat}(h:qs w B m)(hm:m<256) :
  qR prog 335 #[.pointer (some ⟨B,0,none⟩)] qE (fun k=>k=B) (zbD (vF m)) (fun xs=>xs=vF m) w:=by
 intro l J Jx W hW hJ hJx hY h0;have hA:=h.keeps (xk.of_pure hW);have hB:=zi W B 0 _ _ _ hA.set;simp at hB;have HY:=za hY;have hm0:(0:Int)≤m:=by omega
 have hm1:(m:Int)≤255:=by omega
 clear hA hY hJ hJx h hW;refine callsIn_of_wp func335 rfl trivial ?_ rfl;simp only[ntmps335,List.size_toArray,List.length_cons,List.length_nil,Nat.reduceAdd,Nat.reduceSub,Array.replicate_succ,Array.replicate_zero,List.push_toArray,List.append_toArray,List.nil_append,List.cons_append];gi_wp2
 gi_loopw [3] (fun k wr=>zcE J m k wr)
  (fun k _=>(intOf k).toNat)
 case atStart=>exact⟨m,[],hm,rfl,h0,by simp⟩
 case round =>
  obtain⟨r,pre,hr,rfl,hJs,hl⟩:=hrel;by_cases hz:r=0
  ·subst hz;rw[zd4,jb]at hl;have HJS:=za hJs;have HL:=za hl;clear hJs hl;gi_wp2
   go_end0
   refine⟨⟨_,rfl⟩,.inl ⟨pre,?_,HJS.out⟩⟩;rw[HL.out]
  ·obtain⟨hs,h8,hlt⟩:=zf9 r hr hz;rw[hs]at hl;have hz2:((r:Int)==0)=false:=by simp[hz]
   have hz3:((r:Int) != 0)=true:=by simp[hz]
   have hr0:(1:Int)≤r:=by omega
   have hr1:(r:Int)≤255:=by omega
   have e1:=Jz r (r-1) hr (by omega);rw[show((r-1:Nat):Int)=(r:Int)-1 by omega]at e1;have HF:=za (zae r wr hr);generalize jq r=x at *;generalize r &&& (r-1)=q at *;obtain⟨fn,tmps,assign,body,hy,hR⟩:=HY.out pre x wr hJs ⟨vF q,hl⟩;dsimp only[qE]at hy;have hRR:=za hR;have HL:=za hl;clear hR hJs hl
   gi_wp2_with (gi_at_call 305;refine(yB.2 HF.out).mono ?_;rintro e w1 ⟨rfl,rfl⟩)
   refine hRR.out.mono ?_;rintro e W' (⟨rfl,hJ',hk⟩ | ⟨rfl,hJx'⟩)
   ·have HJ':=za hJ';clear hJ';gi_wp2;go_roundw
    case rel =>
     unfold zcE;exact⟨q,pre++[x],by omega,by go_num,HJ'.out,by rw[HL.out];simp⟩
    case measure=>simp[intOf];omega
   ·gi_wp2;exact Azci3
def zgn(w:World)(m:Nat)(e:Ending)(w':World):Prop :=
 ∃ B,e=.returned (.func (.func 335) #[] #[.pointer (some ⟨B,0,none⟩)])∧qs w' B m∧zc w w'∧w.heap.size≤B
theorem zb5(m:Nat)(w:World):Calls prog 291 #[.int .u8 m] w (zgn w m):=by
 go_enter func291,ntmps291;go_wp2;go_ret;exact⟨w.heap.size,rfl,⟨zj rfl⟩,(Mod.refl _ w).alloc _,zI _⟩
def zdg(w:World)(part g:Nat)(e:Ending)(w':World):Prop :=
 ∃ B1 B2 B3,e=.returned (.tuple #[.func (.func 333) #[] #[.pointer (some ⟨B1,0,none⟩),.pointer (some ⟨B2,0,none⟩),.pointer (some ⟨B3,0,none⟩)],.int .i64 0])∧ut w' B1 B2 B3 part g∧zc w w'∧w.heap.size≤B1∧w.heap.size≤B2∧w.heap.size≤B3
theorem ziG(part g:Nat)(w:World):zdg w part g (.returned (.tuple #[.func (.func 333) #[] #[.pointer (some ⟨w.heap.size+1+1,0,none⟩),.pointer (some ⟨w.heap.size,0,none⟩),.pointer (some ⟨w.heap.size+1,0,none⟩)],.int .i64 0]))
  (((w.alloc (.cells #[.int .u64 part] 27)).alloc (.cells #[.int .i64 g] 3)).alloc (.cells #[.int .i64 g] 3)).drew:=by
 refine⟨_,_,_,rfl,⟨?_,?_,?_⟩,?_,by omega,by omega,by omega⟩
 ·exact zj (w:=(w.alloc (.cells #[.int .u64 part] 27)).alloc (.cells #[.int .i64 g] 3)) (by simp)
 ·exact zG (w:=(w.alloc (.cells #[.int .u64 part] 27)).alloc (.cells #[.int .i64 g] 3)) (zG (zj rfl))
 ·exact zG (w:=(w.alloc (.cells #[.int .u64 part] 27)).alloc (.cells #[.int .i64 g] 3)) (zj (by simp))
 ·(repeat'(first | (with_reducible exact Mod.refl _ _) | (with_reducible refine Mod.alloc ?_ _) | (with_reducible refine Mod.drew ?_) | (with_reducible refine Mod.drewN ?_ _) | (with_reducible refine Mod.setCell ?_ ?_ _) | (refine Mod.then ?_ (by with_reducible assumption) ?_)))
theorem za4(part g:Nat)(w:World)(hg:Pow g):Calls prog 289 #[.int .u64 part,.int .i64 g] w (zdg w part g):=by
 have hq:=fun W=>zfl g 0 W hg hg.pos
 have hend:=za (ziG part g w);go_enter func289,ntmps289;go_wp2
 go_region_with (go_at_call 332;refine zq (hq _) ?_;rintro e w1 ⟨rfl,rfl⟩)
 all_goals
  go_wp2;go_ret2;exact hend.out
end
section
open Go.RowKit Go.Shelf
variable{P:Program}
theorem zjD{α:Type}{l0:Nat}{r0:Loop}{g:Operand}{ps:Array Tmp}{assign body:Code}{Q:Exit→Act→World→Prop}{a:Act}{w:World}
  (hl0:w.heap[l0]? = some (.loop r0)) {gf:Nat} {lb:Array Value} (hg:a.eval g=.func (.func gf) #[] lb) (eg : ∀ args w,(callFunc gf args).run P w=.ok (.enter gf args) w)
  {encs:α→Array Value} {It:Nat→Prop} {G:List α→α→World→Prop} {S:List α→Prop} (hit:qR P gf lb encs It G S w) (hItlt : ∀ k,It k→k<w.heap.size)
  (hps : ∀ x,(encs x).size=ps.size)
  (I:List α→World→Prop) (Ix:Code→List α→World→Prop) (hI : ∀ pre A B,I pre A→zB w.heap.size A B→I pre B) (hIx : ∀ c pre A B,Ix c pre A→zB w.heap.size A B→Ix c pre B) (h0:I [] w)
  (Ax:List α→α→Act→World→Prop) (hAx : ∀ pre x a' A B,Ax pre x a' A→zB w.heap.size A B→Ax pre x a' B)
  (hassign : ∀(l:Nat) (pre:List α) (x:α) (W:World) (K:Act→World→Prop),I pre W→G pre x W→(∀ a' W',zc W W'→Ax pre x a' W'→K a' W') →
   assign.wpIn (Fence.wide.inRound l) 0 P (Exit.then K (fun _ _ _=>False)) {tmps:=(ps.zip (encs x)).foldl (fun t (p,v)=>t.setIfInBounds p v) a.tmps,defers:=[]} W)
  (hbody : ∀(l:Nat) (pre:List α) (x:α) (a':Act) (W:World),w.heap.size≤l→(∃ r,W.heap[l]? = some (.loop r))→Ax pre x a' W →
   body.wpIn (Fence.wide.inRound l) 0 P (YT w.heap.size It I Ix (pre++[x]) W) a' W)
  (hdone : ∀(xs:List α) (W:World),S xs→I xs W→Q .normal a W)
  (hstop : ∀(c:Code) (pre:List α) (W:World),Ix c pre W→c.wpIn (Fence.wide.inRound l0) 0 P Q a W) :
  (Code.rangeFunc g ps assign body).wpIn (Fence.wide.inRound l0) 0 P Q a w:=by
 refine wpIn_rangeFunc ?_;intro fn hfn;obtain⟨rec,hrec⟩ : ∃ rec:LoopState→Option Code→Loop,rec=fun st pe => {state:=st,pending:=pe,fn,tmps:=a.tmps,params:=ps,assign,body,defers:=r0.defers}:=⟨_,rfl⟩
 obtain⟨W1,hW1⟩:=zf (w.alloc (.loop (rec .ready none)));have hL1:W1.heap[w.heap.size]? = some (.loop (rec .ready none)):=by rw[← hW1];exact zj rfl
 have hP1:zc w W1:=by rw[← hW1];exact(Mod.refl _ w).alloc _
 have hI1:I [] W1:=hI _ _ _ h0 (zB.of_pure hP1);refine⟨w.heap.size,[],W1,{target := .fn (.func gf) lb,args:=#[.func (.yield (w.heap.size)) #[] #[]]},W1,gf,
  #[.func (.yield (w.heap.size)) #[] #[]]++lb,W1,?_,?_,fun _ _=>trivial,?_,(fun h=>by cases h),?_⟩
 ·rw[← hW1,hrec];exact run_enterLoop_inner hl0 _ _ _ _ _
 ·simp only[resolve,hg];simp[go_sem]
 ·simp[invoke,go_sem,eg]
 ·refine(hit (w.heap.size)
   (fun pre W=>I pre W∧W.heap[w.heap.size]? = some (.loop (rec .ready none))∧w.heap.size≤W.heap.size)
   (fun pre W => ∃ c,Ix c pre W∧W.heap[w.heap.size]? = some (.loop (rec .done (some c))))
   W1 hP1
   (fun pre A B hs hp=>⟨hI _ _ _ hs.1 (zB.of_pure hp),hp.heap (fun h=>h) hs.2.1,zH hs.2.2 hp.size⟩)
   (fun pre A B hs hp=>by
    obtain⟨c,hc,hl⟩:=hs;exact⟨c,hIx _ _ _ _ hc (zB.of_pure hp),hp.heap (fun h=>h) hl⟩)
   ?_ ⟨hI1,hL1,hP1.size⟩).mono ?_
  ·rintro pre x W ⟨hi,hl,hsz⟩ hGx;have hlt:w.heap.size<W.heap.size:=(uX.1 hl).1;have hy:=run_yield (P:=P) (args:=encs x) hl (by rw[hrec];exact hps x);rw[hrec]at hy;refine⟨fn,_,assign,body,hy,roundIn_of_wpIn hfn (hassign _ pre x W _ hi hGx ?_)⟩;clear hy;intro a' Wa hpa hax;have hla:Wa.heap[w.heap.size]? = _:=hpa.heap (fun h=>h) hl;have hlta:w.heap.size<Wa.heap.size:=(uX.1 hla).1;refine⟨_,run_beginRound hla (by rw[hrec]),?_⟩;have hq2:zB w.heap.size Wa (Wa.putObj (w.heap.size) (.loop {rec .ready none with state := .busy})):=zB.putObj _ (by omega) hla rfl;have hl2:(Wa.putObj (w.heap.size) (.loop {rec .ready none with state := .busy})).heap[w.heap.size]? = some (.loop {rec .ready none with state := .busy}):=World.putObj_heap_same hlta;have ha2:=hAx _ _ _ _ _ hax hq2;have hit2:xk It W (Wa.putObj (w.heap.size) (.loop {rec .ready none with state := .busy})) :=
    (xk.of_pure hpa).trans ⟨by simp,fun k hk _=>World.putObj_heap_other (by have:=hItlt k hk;omega)⟩
   refine wpIn_mono (hbody _ pre x a' _ (by omega) ⟨_,hl2⟩ ha2) ?_;have fin : ∀(jump:Option Code) (W3:World),xl w.heap.size (Wa.putObj (w.heap.size) (.loop {rec .ready none with state := .busy})) W3 →
     (Instr.endRound (w.heap.size) jump).run P W3=.ok (.bool jump.isNone) (W3.putObj (w.heap.size) (.loop (rec (if jump.isNone then .ready else .done) jump))) ∧
     W3.heap[w.heap.size]? = some (.loop {rec .ready none with state := .busy}) ∧
     (W3.putObj (w.heap.size) (.loop (rec (if jump.isNone then .ready else .done) jump))).heap[w.heap.size]? = some (.loop (rec (if jump.isNone then .ready else .done) jump)):=fun jump W3 hk3=>by
    have hl3:=hk3 _ _ (by omega) hl2 rfl;have:=run_endRound (P:=P) jump hl3;rw[hrec]at this ⊢;exact⟨this,by rw[hrec]at hl3;exact hl3,World.putObj_heap_same (uX.1 hl3).1⟩
   rintro e a3 W3 hp
   cases e with
   | normal =>
    obtain⟨hk3,hkp3,hi3⟩:=hp;obtain⟨hr,hl3,hl4⟩:=fin none W3 hk3;have hlt3:w.heap.size<W3.heap.size:=(uX.1 hl3).1;exact⟨_,_,hr,.inl ⟨rfl,⟨hI _ _ _ hi3 (zB.putObj _ (by omega) hl3 rfl),hl4,by simp;omega⟩,
     (hit2.trans hkp3).trans ⟨by simp,fun k hk _=>World.putObj_heap_other (by have:=hItlt k hk;omega)⟩⟩⟩
   | ret =>
    obtain⟨hk3,hi3⟩:=hp;obtain⟨hr,hl3,hl4⟩:=fin (some .ret) W3 hk3;exact⟨_,_,hr,.inr ⟨rfl,.ret,hIx _ _ _ _ hi3 (zB.putObj _ (by omega) hl3 rfl),hl4⟩⟩
   | exit id =>
    obtain⟨hk3,hi3⟩:=hp;obtain⟨hr,hl3,hl4⟩:=fin (some (.exit id)) W3 hk3;exact⟨_,_,hr,.inr ⟨rfl,.exit id,hIx _ _ _ _ hi3 (zB.putObj _ (by omega) hl3 rfl),hl4⟩⟩
   | goto t =>
    obtain⟨hk3,hi3⟩:=hp;obtain⟨hr,hl3,hl4⟩:=fin (some (.goto t)) W3 hk3;exact⟨_,_,hr,.inr ⟨rfl,.goto t,hIx _ _ _ _ hi3 (zB.putObj _ (by omega) hl3 rfl),hl4⟩⟩
   | panic ch=>exact hp.elim
   | outgrown=>exact hp.elim
  ·rintro e W2 ⟨⟨v,rfl⟩,(⟨xs,hS,hi,hl,_⟩ | ⟨pre,c,hi,hl⟩)⟩
   ·exact⟨none,_,by have:=run_endLoop (P:=P) hl (by rw[hrec];simp);rw[hrec]at this;exact this,hdone xs _ hS (hI _ _ _ hi (zB.putObj _ (by omega) hl rfl))⟩
   ·exact⟨some c,_,by have:=run_endLoop (P:=P) hl (by rw[hrec];simp);rw[hrec]at this;exact this,hstop c pre _ (hIx _ _ _ _ hi (zB.putObj _ (by omega) hl rfl))⟩
theorem zj2{α:Type}{l0:Nat}{r0:Loop}{g:Operand}{ps:Array Tmp}{assign body:Code}{Q:Exit→Act→World→Prop}{a:Act}{w:World}
  (hl0:w.heap[l0]? = some (.loop r0)) {gf:Nat} {lb:Array Value} (hg:a.eval g=.func (.func gf) #[] lb) (eg : ∀ args w,(callFunc gf args).run P w=.ok (.enter gf args) w)
  {encs:α→Array Value} {It:Nat→Prop} {G:List α→α→World→Prop} {S:List α→Prop} (hit:qR P gf lb encs It G S w) (hItlt : ∀ k,It k→k<w.heap.size)
  (hps : ∀ x,(encs x).size=ps.size)
  (I:List α→World→Prop) (Ix:Code→List α→World→Prop) (hI : ∀ pre A B,I pre A→zB w.heap.size A B→I pre B) (hIx : ∀ c pre A B,Ix c pre A→zB w.heap.size A B→Ix c pre B) (h0:I [] w)
  (hround : ∀(l:Nat) (pre:List α) (x:α) (W:World) (K:Act→World→Prop),I pre W→G pre x W →
   (∀ a' W',zc W W'→(∀(l':Nat) (W2:World),w.heap.size≤l'→(∃ r,W2.heap[l']? = some (.loop r))→zB w.heap.size W' W2→body.wpIn (Fence.wide.inRound l') 0 P (YT w.heap.size It I Ix (pre++[x]) W2) a' W2)→K a' W') →
   assign.wpIn (Fence.wide.inRound l) 0 P (Exit.then K (fun _ _ _=>False)) {tmps:=(ps.zip (encs x)).foldl (fun t (p,v)=>t.setIfInBounds p v) a.tmps,defers:=[]} W)
  (hdone : ∀(xs:List α) (W:World),S xs→I xs W→Q .normal a W)
  (hstop : ∀(c:Code) (pre:List α) (W:World),Ix c pre W→c.wpIn (Fence.wide.inRound l0) 0 P Q a W) :
  (Code.rangeFunc g ps assign body).wpIn (Fence.wide.inRound l0) 0 P Q a w :=
 zjD hl0 hg eg hit hItlt hps I Ix hI hIx h0
  (fun pre x a' W' => ∀(l':Nat) (W2:World),w.heap.size≤l'→(∃ r,W2.heap[l']? = some (.loop r))→zB w.heap.size W' W2→body.wpIn (Fence.wide.inRound l') 0 P (YT w.heap.size It I Ix (pre++[x]) W2) a' W2)
  (fun _ _ _ _ _ h hq l' W2 hl hr hq2=>h l' W2 hl hr (hq.trans hq2)) hround (fun l _ _ _ W hl hr h=>h l W hl hr (zB.refl _ _)) hdone hstop
end
section
open Go.RowKit Go.Shelf
abbrev Grp:=List Nat × List Nat
def yR(c:Grp):List Value := .int .u64 (zC c.1)::(List.range 8).map (fun i => .int .u32 ((c.2.getD i 0:Nat):Int))
theorem qW(c:Grp):(yR c).length=9:=by simp[yR]
theorem zkM(c:Grp){j:Nat}(hj:j<8):(yR c)[j+1]? = some (.int .u32 ((c.2.getD j 0:Nat):Int)):=by
 unfold yR;rw[XT,yC,qw hj]
 rfl
structure xV(c:Grp):Prop where
 ctl:j8 c.1
 len:c.2.length=8
 lt : ∀ s∈c.2,s≤4294967295
theorem xV.slot{c:Grp}(h:xV c)(j:Nat):c.2.getD j 0≤4294967295:=by
 rw[ua]
 cases hi:c.2[j]? with
 | none=>simp
 | some s=>exact h.lt s (yl hi)
def zD(Gs:List Grp):Nat:=(Gs.map (fun c=>c.1.countP (· < 128))).sum
def yj(Gs:List Grp):Nat:=(Gs.map (fun c=>c.1.countP (· == 254))).sum
structure xz(Gs:List Grp):Prop where
 pow:Pow Gs.length
 grp : ∀ c∈Gs,xV c
def zn(Gs:List Grp)(i:Nat):Grp:=Gs.getD i ([],[])
theorem uj{Gs:List Grp}{i:Nat}(h:i<Gs.length):Gs[i]? = some (zn Gs i):=by
 unfold zn;rw[ua,zL h];rfl
theorem xz.at{Gs:List Grp}(h:xz Gs){i:Nat}(hi:i<Gs.length):xV (zn Gs i):=h.grp _ (yl (uj hi))
structure yk(w:World)(D:Nat→Prop)(p:Nat)(sv:Value)(Gs:List Grp):Prop where
 box:w.heap[p]? = some (.cells #[sv,.int .i64 (zD Gs),.int .i64 (yj Gs)] 351 (0,0))
 row:w.ownsRow 0 354 9 sv Gs.length (Gs.flatMap yR)
 dd : ∀ k,D k↔k=p∨sv.ownBlock=some k
 ok:xz Gs
theorem yk.mod{w w':World}{D S:Nat→Prop}{p:Nat}{sv:Value}{Gs:List Grp}(h:yk w D p sv Gs)(hm:Mod S w w')(hS : ∀ k,D k → ¬ S k):yk w' D p sv Gs :=
 ⟨hm.heap (hS p ((h.dd p).2 (.inl rfl))) h.box,zy h.row hm (fun g hg=>hS g ((h.dd g).2 (.inr hg))),h.dd,h.ok⟩
theorem yk.pure{w w':World}{D:Nat→Prop}{p:Nat}{sv:Value}{Gs:List Grp}(h:yk w D p sv Gs)(hm:zc w w'):yk w' D p sv Gs:=h.mod hm (fun _ _ h=>h)
theorem yk.quiet{N:Nat}{w w':World}{D:Nat→Prop}{p:Nat}{sv:Value}{Gs:List Grp}(h:yk w D p sv Gs)(hq:zB N w w'):yk w' D p sv Gs :=
 ⟨hq.cells h.box,hq.owns h.row,h.dd,h.ok⟩
theorem yk.at{w:World}{D:Nat→Prop}{p:Nat}{sv:Value}{Gs:List Grp}(h:yk w D p sv Gs) :
  ∃ B c,sv=.slice (some ⟨B,0,none⟩) Gs.length c∧Gs.length≤c∧B<w.heap.size∧D B∧(∀ j,w.frozen? ⟨B,j,none⟩=false) ∧
   ∀ i,i<Gs.length→w.cell? ⟨B,i*9,none⟩=some (.int .u64 (zC (zn Gs i).1)) ∧ ∀ j,j<8→w.cell? ⟨B,i*9+(j+1),none⟩=some (.int .u32 (((zn Gs i).2.getD j 0:Nat):Int)):=by
 obtain⟨B,c,rfl,hc,hB,hcells,hf,_⟩:=uO h.row h.ok.pow.pos;refine⟨B,c,rfl,hc,hB,(h.dd B).2 (.inr rfl),hf,fun i hi=>⟨?_,fun j hj => ?_⟩⟩
 ·have:=uW yR 9 qW 0 (by omega) Gs i;rw[uj hi]at this;exact hcells _ _ this
 ·have:=uW yR 9 qW (j+1) (by omega) Gs i;rw[uj hi]at this;exact hcells _ _ (this.trans (zkM _ hj))
def k9(c:Grp)(tag:Nat):List Nat:=vF (zJ (c.1.map (· == tag)))
def vS(c:Grp):Bool:=c.1.any (· == 128)
def jk(Gs:List Grp)(tag:Nat):List Nat→List (Nat × Nat)
 | []=>[]
 | i::r=>(k9 (zn Gs i) tag).map (fun j=>(i,j))++if vS (zn Gs i)then[]else jk Gs tag r
def xC(Gs:List Grp)(sum:Nat):List (Nat × Nat):=jk Gs (sum%128) (xS (sum/128) Gs.length)
def zT(Gs:List Grp)(x:Nat × Nat):Nat:=(zn Gs x.1).2.getD x.2 0
def ko(f:List Nat→Nat→Bool)(xs:List Nat):Prop := ∀ a b c,xs=a++b::c→f a b=false
theorem zjR(f:List Nat→Nat→Bool):ko f []:=fun a b c h=>by simp at h
theorem zjL{f:List Nat→Nat→Bool}{xs:List Nat}{x:Nat}(h:ko f xs)(hx:f xs x=false):ko f (xs++[x]):=by
 intro a b c e;rcases List.eq_nil_or_concat c with rfl | ⟨c',y,rfl⟩
 ·have:xs=a∧x=b:=by
   have:=List.append_inj' e rfl;exact⟨this.1,by simpa using this.2⟩
  rw[← this.1,← this.2];exact hx
 ·have:xs++[x]=(a++b::c')++[y]:=by rw[e];simp
  have:=(List.append_inj' this rfl).1;exact h a b c' this
theorem Ui{Gs:List Grp}{tag:Nat} : ∀(pre:List Nat) (i:Nat) (post:List Nat),(∀ k∈pre,vS (zn Gs k)=false) →
  jk Gs tag (pre++i::post)=pre.flatMap (fun i=>(k9 (zn Gs i) tag).map (fun j=>(i,j)))++((k9 (zn Gs i) tag).map (fun j=>(i,j))++if vS (zn Gs i)then[]else jk Gs tag post)
 | [],i,post,_=>rfl
 | k::pre,i,post,h=>by
  have hk:=h k (by simp);simp only[List.cons_append,jk,hk,List.flatMap_cons];rw[Ui pre i post (fun k' h'=>h k' (by simp[h']))];simp
theorem zbl{Gs:List Grp}{tag:Nat} : ∀(pre:List Nat),(∀ k∈pre,vS (zn Gs k)=false) →
  jk Gs tag pre=pre.flatMap (fun i=>(k9 (zn Gs i) tag).map (fun j=>(i,j)))
 | [],_=>rfl
 | k::pre,h=>by
  have hk:=h k (by simp);simp only[jk,hk,List.flatMap_cons];rw[zbl pre (fun k' h'=>h k' (by simp[h']))];simp
end
section
open Go.RowKit Go.Shelf
variable{P:Program}
theorem ziI{l n:Nat}{ops:Array Oper}{Q:Exit→Act→World→Prop}(hd : ∀(j:Nat) (o:Oper) c,ops[j]? = some o→o.op ≠ .defer c){i:Nat}{K:Act→World→Prop}{a:Act}{w:World}(h:wpOpIn Fence.wide n P ops Q i K a w):wpOpIn (Fence.wide.inRound l) n P ops Q i K a w:=by
 unfold wpOpIn at *
 cases ho:ops[i]? with
 | none=>rw[ho]at h;exact h
 | some o =>
  rw[ho]at h;dsimp only at h ⊢;split
  ·rename_i hw;rw[zk hw]at h;unfold Oper.wpIn at *;refine⟨h.1,?_⟩;have h2:=h.2;have e:Oper.semAt (Fence.wide.inRound l).round a.eval o=Oper.semAt Fence.wide.round a.eval o:=by
    show Oper.semAt (some l) a.eval o=Oper.semAt none a.eval o
    rw[Oper.semAt_some l _ _ (fun c=>hd i o c ho),Oper.semAt_none]
   rw[e];exact h2
  ·rename_i hw;rw[zh hw]at h;exact h
theorem zcZ{l n:Nat}{md:Region.Mode}{ops:Array Oper}{Q:Exit→Act→World→Prop}(hd : ∀(j:Nat) (o:Oper) c,ops[j]? = some o→o.op ≠ .defer c) : ∀(fuel:Nat) (listed:Array Bool) (a:Act) (w:World),
  wpAnyIn Fence.wide n P md ops Q fuel listed a w→wpAnyIn (Fence.wide.inRound l) n P md ops Q fuel listed a w
 | 0,_,_,_,h=>h
 | fuel+1,listed,_,_,h=>⟨h.1,fun i hi=>ziI hd (wpOpIn_mono (fun _ _ hk=>zcZ hd fuel _ _ _ hk) (h.2 i hi))⟩
def Kh(ops:Array Oper):Bool:=ops.all (fun o=>match o.op with | .defer _=>false | _=>true)
theorem ze9{ops:Array Oper}(h:Kh ops=true)(j:Nat)(o:Oper)(ho:ops[j]? = some o) : ∀ c,o.op ≠ .defer c:=by
 intro c e;obtain⟨hj,rfl⟩:=uX.1 ho;have:=(Array.all_eq_true.1 h) j hj;rw[e]at this
 cases this
theorem XK{l id:Nat}{ops:Array Oper}{Q:Exit→Act→World→Prop}{a:Act}{w:World}(hm:P.follows .mixedOrders=true)(hd:Kh ops=true)
  (h:wpAnyIn Fence.wide 0 P .any ops Q ops.size (Array.replicate ops.size false) a w.drew):(Code.region id ops true).wpIn (Fence.wide.inRound l) 0 P Q a w :=
 wpIn_region_any hm (zcZ (fun j o c ho=>ze9 hd j o ho c) _ _ _ _ h)
end
section
open Go.RowKit Go.Shelf
variable{P:Program}
theorem zfw{ops:Array Oper}{Q:Exit→Act→World→Prop}(hL : ¬ LetsOut Q){i:Nat}{K:Act→World→Prop}{a:Act}{w:World}(h:wpOp P ops Q i K a w):wpOpIn Fence.wide 0 P ops Q i K a w:=by
 unfold wpOp at h;unfold wpOpIn
 cases ho:ops[i]? with
 | none=>rw[ho]at h;exact h
 | some o =>
  rw[ho]at h;dsimp only at h ⊢;split
  ·rename_i hw;rw[zk hw]at h;rcases h with h | h
   ·unfold Oper.wpIn;refine⟨fun f _=>trivial,?_⟩;rw[show Fence.wide.round=none from rfl,Oper.semAt_none];unfold Oper.wp at h;generalize(execOp a.eval o).run P w=r at h ⊢
    cases r with
    | ok x w' =>
     cases x<;>simp only[Oper.upon,Oper.uponIn]at h ⊢
     all_goals first | exact h | exact h.elim | exact⟨fun hc=>(by cases hc),yB.2 h⟩ | exact⟨fun hc=>(by cases hc),fun c cs _=>let ⟨v,w',r,s⟩:=h c cs;⟨v,w',r,stepsIn_wide.2 s⟩⟩
    | halt x w' =>
     cases x<;>simp only[Oper.upon,Oper.uponIn]at h ⊢
     all_goals first | exact h | exact h.elim
   ·exact absurd h.2 hL
  ·rename_i hw;rw[zh hw]at h;exact⟨fun f _=>trivial,h⟩
theorem zcp{md:Region.Mode}{ops:Array Oper}{Q:Exit→Act→World→Prop}(hL : ¬ LetsOut Q) : ∀(fuel:Nat) (listed:Array Bool) (a:Act) (w:World),
  wpAny P md ops Q fuel listed a w→wpAnyIn Fence.wide 0 P md ops Q fuel listed a w
 | 0,_,_,_,h=>h
 | fuel+1,listed,_,_,h=>⟨h.1,fun i hi=>zfw hL (wpOp_mono (fun _ _ hk=>zcp hL fuel _ _ _ hk) (h.2 i hi))⟩
theorem Ud{l id:Nat}{ops:Array Oper}{Q:Exit→Act→World→Prop}{a:Act}{w:World}(S:World→Prop)(hm:P.follows .mixedOrders=true)(hd:Kh ops=true)(hL : ¬ LetsOut Q)(hS:S w.drew)
  (h:S w.drew→wpAnyH P .any ops Q S ops.size (Array.replicate ops.size false) a w.drew):(Code.region id ops true).wpIn (Fence.wide.inRound l) 0 P Q a w :=
 XK hm hd (zcp hL _ _ _ _ (wpAny_of_held _ _ _ _ (h hS)))
def zbb(ls:List Nat):List Deferred:=ls.map (fun l => {target := .collected l,args:=#[]})
theorem Q9{fn:Func}{R:Ending→World→Prop}{tmps:Array Value}{N:Nat}{v:Value} : ∀ {ls:List Nat} {W:World} (_ : ∀ l∈ls,W.heap[l]? = some (.deferred (some []))) (_:ls.Nodup) (_ : ∀ l∈ls,N≤l)
  (_ : ∀ W',(results fn tmps).run P W'=.ok v W') (_ : ∀ W',zB N W W'→R (.returned v) W'),bodyPostM Fence.wide 0 P fn R .ret {tmps:=tmps,defers:=zbb ls} W
 | [],W,_,_,_,hr,hR=>⟨v,hr W,hR W (zB.refl _ _)⟩
 | l::ls,W,hm,hn,hN,hr,hR=>by
  have hk:=hm l (by simp);refine⟨by simp,.inl ⟨_,_,rfl,run_takeDeferred hk,?_⟩⟩;have hq:zB N W (W.putObj l (.deferred none)):=zB.putObj (.deferred none) (hN l (by simp)) hk rfl;refine Q9 (ls:=ls) (fun l' hl' => ?_) (yO.1 hn).2 (fun l' hl'=>hN l' (by simp[hl'])) hr (fun W' hW'=>hR W' (hq.trans hW'));have hne:l'≠l:=fun e=>(yO.1 hn).1 (e ▸ hl')
  exact(World.putObj_heap_other hne).trans (hm l' (by simp[hl']))
end
section
def Zu:Nat→Nat→Nat→Nat
 | 0,_,_=>0
 | k+1,now,dl=>if dl/256=now/256 then 0 else Zu k (now/256) (dl/256)+1
def lvl(now dl:Nat):Nat:=Zu 8 now dl
def bkt(now dl:Nat):Nat:=dl/256 ^ lvl now dl%256
theorem Va(a k:Nat):a/256/256 ^ k=a/256 ^ (k+1):=by rw[Zy,Zn,Nat.mul_comm]
theorem zax : ∀(f now dl:Nat),now<256 ^ f→dl<256 ^ f→0<f→Zu f now dl<f∧dl/256 ^ (Zu f now dl+1)=now/256 ^ (Zu f now dl+1) ∧ ∀ k,k<Zu f now dl→dl/256 ^ (k+1)≠now/256 ^ (k+1)
 | 0,_,_,_,_,h=>by omega
 | f+1,now,dl,hn,hd,_=>by
  unfold Zu;split
  ·rename_i h;exact⟨by omega,by simpa using h,fun k hk=>by omega⟩
  ·rename_i h;have hn':now/256<256 ^ f:=by rw[Nat.div_lt_iff_lt_mul (by decide),← Zn];exact hn
   have hd':dl/256<256 ^ f:=by rw[Nat.div_lt_iff_lt_mul (by decide),← Zn];exact hd
   have hf:0<f:=by
    rcases Nat.eq_zero_or_pos f with rfl | h0
    ·rw[Nat.pow_zero]at hn' hd';omega
    ·exact h0
   obtain⟨i1,i2,i3⟩:=zax f (now/256) (dl/256) hn' hd' hf;refine⟨by omega,?_,fun k hk => ?_⟩
   ·rw[Va,Va]at i2;exact i2
   ·cases k with
    | zero=>simpa using h
    | succ k =>
     have:=i3 k (by omega);rw[Va,Va]at this;exact this
section
variable{now dl tt:Nat}
theorem kh(hn:now<18446744073709551616)(hd:dl<18446744073709551616):lvl now dl<8∧dl/256 ^ (lvl now dl+1)=now/256 ^ (lvl now dl+1) ∧ ∀ k,k<lvl now dl→dl/256 ^ (k+1)≠now/256 ^ (k+1) :=
 zax 8 now dl hn hd (by decide)
theorem Uf{a b i j:Nat}(h:a/256 ^ i=b/256 ^ i)(hij:i≤j):a/256 ^ j=b/256 ^ j:=by
 obtain⟨d,rfl⟩:=Nat.exists_eq_add_of_le hij;rw[Nat.pow_add,← Zy,← Zy,h]
theorem zcK(hn:now<18446744073709551616)(hd:dl<18446744073709551616){k:Nat}(h1:dl/256 ^ (k+1)=now/256 ^ (k+1))(h2 : ∀ j,j<k→dl/256 ^ (j+1)≠now/256 ^ (j+1)):lvl now dl=k:=by
 obtain⟨a1,a2,a3⟩:=kh hn hd;rcases qV (lvl now dl) k with h | h | h
 ·exact absurd a2 (h2 _ h)
 ·exact h
 ·exact absurd h1 (a3 k h)
theorem zaS(hn:now<18446744073709551616)(hd:dl<18446744073709551616)(h:now<dl):now/256 ^ lvl now dl<dl/256 ^ lvl now dl:=by
 obtain⟨a1,a2,a3⟩:=kh hn hd;have hle:now/256 ^ lvl now dl≤dl/256 ^ lvl now dl:=Nat.div_le_div_right (Zk h);have hne:now/256 ^ lvl now dl≠dl/256 ^ lvl now dl:=by
  cases hl:lvl now dl with
  | zero=>simp;omega
  | succ k=>exact fun e=>a3 k (by omega) e.symm
 omega
theorem Y6:bkt now dl<256:=vp _ (by decide)
def UM(now tt dl:Nat):Prop:=lvl now dl<lvl now tt∨lvl now dl=lvl now tt∧bkt now dl≤bkt now tt
theorem Qk{a b m:Nat}(h:a/m<b/m):a<b:=by
 apply Nat.lt_of_not_le;intro hba;have:=Nat.div_le_div_right (c:=m) hba;omega
theorem zlb(hn:now<18446744073709551616)(ht:tt<18446744073709551616)(hd:dl<18446744073709551616)(h1:now<dl)(h2:now<tt)(h : ¬ UM now tt dl):tt<dl∧lvl tt dl=lvl now dl∧bkt tt dl=bkt now dl:=by
 obtain⟨a1,a2,a3⟩:=kh hn hd;obtain⟨b1,b2,b3⟩:=kh hn ht;have hdf:=zaS hn hd h1;unfold UM at h;rw[not_or]at h;obtain⟨h3,h4⟩:=h;have key:tt/256 ^ lvl now dl<dl/256 ^ lvl now dl:=by
  rcases Nat.lt_or_ge (lvl now tt) (lvl now dl)with c | c
  ·rw[Uf b2 (show lvl now tt+1≤lvl now dl by omega)];exact hdf
  ·have e:lvl now dl=lvl now tt:=by omega
   have h5:bkt now tt<bkt now dl:=by
    apply Nat.lt_of_not_le;exact fun hh=>h4 ⟨e,hh⟩
   unfold bkt at h5;rw[← e]at h5 b2;have e2:dl/256 ^ (lvl now dl+1)=tt/256 ^ (lvl now dl+1):=a2.trans b2.symm;rw[Zn,← Zy,← Zy]at e2;omega
 have e3:lvl tt dl=lvl now dl:=by
  refine zcK ht hd ?_ (fun j hj e => ?_)
  ·rw[a2];rcases Nat.lt_or_ge (lvl now tt) (lvl now dl)with c | c
   ·exact(Uf b2 (show lvl now tt+1≤lvl now dl+1 by omega)).symm
   ·have e:lvl now dl=lvl now tt:=by omega
    rw[e];exact b2.symm
  ·have:=Uf e (show j+1≤lvl now dl by omega);omega
 exact⟨Qk key,e3,by unfold bkt;rw[e3]⟩
theorem Q0(a b k:Nat):(a ^^^ b)/2 ^ k=(a/2 ^ k) ^^^ (b/2 ^ k):=by
 rw[← Nat.shiftRight_eq_div_pow,← Nat.shiftRight_eq_div_pow,← Nat.shiftRight_eq_div_pow,Nat.shiftRight_xor_distrib]
theorem UO{a b:Nat}:a ^^^ b=0↔a=b:=by
 constructor
 ·intro h;apply Zb;intro i;have:=congrArg (fun n=>n.testBit i) h;simp[Nat.testBit_xor]at this;exact this
 ·rintro rfl;exact Nat.xor_self a
theorem zfL(hn:now<18446744073709551616)(hd:dl<18446744073709551616)(h:dl≠now){n:Nat}(h1:dl ^^^ now<2 ^ n)(h2:2 ^ (n-1)≤dl ^^^ now)(h0:0<n):(n-1)/8=lvl now dl:=by
 symm
 have p : ∀ k,(256:Nat) ^ k=2 ^ (8*k):=fun k=>by rw[Nat.pow_mul]
 refine zcK hn hd ?_ (fun j hj e => ?_)
 ·rw[p,← UO,← Q0];apply Nat.div_eq_of_lt;exact ve h1 (Zt (by decide) (by omega))
 ·rw[p,← UO,← Q0]at e;have h3:dl ^^^ now<2 ^ (8*(j+1)):=by
   rcases Nat.div_eq_zero_iff.1 e with e | e
   ·have:=Nat.pow_pos (n:=8*(j+1)) (show 0<2 by decide);omega
   ·exact e
  have:2 ^ (8*(j+1))≤2 ^ (n-1):=Zt (by decide) (by omega);omega
end
end
end Go.Proofs.YtdohbogbnheakaaGreatDoor
