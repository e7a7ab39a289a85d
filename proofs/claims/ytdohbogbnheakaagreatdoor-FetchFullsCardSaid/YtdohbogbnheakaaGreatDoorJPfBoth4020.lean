/- Lemmas and contracts of functions. No condition. -/
import Derived.Test.YtdohbogbnheakaaGreatDoorJPfBoth4019
import Derived.Defers
namespace Go.Proofs.YtdohbogbnheakaaGreatDoor
open _root_.Go.Proofs.Tryz
set_option maxRecDepth 100000
set_option maxHeartbeats 20000000
set_option linter.all false
section
open Go.RowKit Go.Shelf
structure Bst where
 cfg:Cfg
 now:Nat
 births:Nat
 E:List CE
 A:List Wt
 B:List Wt
 evs:List Ev
def zu(L:List (Option CE)):List CE:=L.filterMap id
def yP(L:List (Option CE))(sl:Nat):Nat:=match L[sl]? with
 | some (some x)=>x.birth
 | _=>0
def xw(L:List (Option CE))(y:Wt):Wt:=⟨yP L y.slot,y.cost⟩
def zK(s:CaS):Bst:=⟨s.cfg,s.now,s.births,zu s.L,s.A.map (xw s.L),s.B.map (xw s.L),s.evs⟩
def uS(L:List (Option CE)):Prop:=(zu L).Pairwise (fun x y=>x.birth<y.birth)
section
variable{L:List (Option CE)}{x y:CE}{i j:Nat}
theorem ug(h:L[i]? = some (some x)):yP L i=x.birth:=by unfold yP;rw[h]
theorem xX:x∈zu L ↔ ∃ i:Nat,L[i]? = some (some x):=by
 unfold zu;rw[List.mem_filterMap];constructor
 ·rintro⟨o,ho,e⟩;obtain⟨i,hi⟩:=ur ho;exact⟨i,by rw[hi,show o=some x from e]⟩
 ·rintro⟨i,hi⟩;exact⟨some x,yl hi,rfl⟩
theorem XI(A B:List (Option CE)):zu (A++B)=zu A++zu B:=List.filterMap_append
theorem zhq(L:List (Option CE)):(zu L).length=zZ (zS L):=by
 induction L with
 | nil=>rfl
 | cons o L ih =>
  cases o with
  | none =>
   have e1:zu (none::L)=zu L:=rfl;have e2:zZ (zS (none::L))=zZ (zS L):=by unfold zZ zS;simp
   rw[e1,e2,ih]
  | some x =>
   have e1:zu (some x::L)=x::zu L:=rfl;have e2:zZ (zS (some x::L))=zZ (zS L)+1:=by unfold zZ zS;simp
   rw[e1,e2,kz,ih]
theorem zgN{α:Type}{L:List α}{i:Nat}{x:α}(h:L[i]? = some x):L=L.take i++x::L.drop (i+1):=by
 obtain⟨h1,h2⟩:=zE.1 h;subst h2;rw[← jQ h1,Y2]
theorem Ue(h:L[i]? = some (some x)):zu L=zu (L.take i)++x::zu (L.drop (i+1)):=by
 have e:=congrArg zu (zgN h);rw[XI]at e;exact e
theorem uS.lt(h:uS L)(hij:i<j)(hi:L[i]? = some (some x))(hj:L[j]? = some (some y)):x.birth<y.birth:=by
 have hy:y∈zu (L.drop (i+1)):=xX.2 ⟨j-(i+1),by rw[List.getElem?_drop,show i+1+(j-(i+1))=j by omega];exact hj⟩;unfold uS at h;rw[Ue hi]at h;exact(kp.1 (qd.1 h).2.1).1 y hy
theorem uS.uniq(h:uS L)(hi:L[i]? = some (some x))(hj:L[j]? = some (some y))(e:x.birth=y.birth):i=j:=by
 rcases qV i j with c | c | c
 ·have:=h.lt c hi hj;omega
 ·exact c
 ·have:=h.lt c hj hi;omega
theorem QU{α:Type}{L:List α}{i:Nat}(hi:i<L.length)(a:α):L.set i a=L.take i++a::L.drop (i+1):=by
 rw[List.set_eq_take_append_cons_drop,zk hi]
theorem uS.filter(h:uS L)(hi:L[i]? = some (some x)):(zu L).filter (fun y=>decide (y.birth≠x.birth))=zu (L.take i)++zu (L.drop (i+1)):=by
 have h':=h;unfold uS at h';rw[Ue hi]at h' ⊢;obtain⟨_,h2,h3⟩:=qd.1 h';obtain⟨h4,_⟩:=kp.1 h2;rw[YI,je,zh (by simp)]
 congr 1
 ·exact ju.2 (fun y hy=>by have:=h3 y hy x yE;simp;omega)
 ·exact ju.2 (fun y hy=>by have:=h4 y hy;simp;omega)
theorem zgp(h:uS L)(hi:L[i]? = some (some x)):zu (L.set i none)=(zu L).filter (fun y=>decide (y.birth≠x.birth)):=by
 rw[h.filter hi,QU (zE.1 hi).1,XI]
 rfl
theorem zeV(h:uS L)(hi:L[i]? = some (some x))(z:CE):zu (L.set i (some z))=(zu L).map (fun y=>if y.birth=x.birth then z else y):=by
 have h':=h;unfold uS at h';rw[Ue hi]at h';rw[QU (zE.1 hi).1,XI,Ue hi];obtain⟨_,h2,h3⟩:=qd.1 h';obtain⟨h4,_⟩:=kp.1 h2;rw[vh,qG,zk rfl];have e1:(zu (L.take i)).map (fun y=>if y.birth=x.birth then z else y)=zu (L.take i):=by
  conv=>rhs;rw[← List.map_id (zu (L.take i))]
  exact uu (fun y hy=>by have:=h3 y hy x yE;rw[zh (by omega)];rfl)
 have e2:(zu (L.drop (i+1))).map (fun y=>if y.birth=x.birth then z else y)=zu (L.drop (i+1)):=by
  conv=>rhs;rw[← List.map_id (zu (L.drop (i+1)))]
  exact uu (fun y hy=>by have:=h4 y hy;rw[zh (by omega)];rfl)
 rw[e1,e2]
 rfl
theorem Qs : ∀ {E:List CE},E.Pairwise (fun x y=>x.birth<y.birth)→x∈E→E.find? (fun y=>y.birth==x.birth)=some x
 | [],_,h=>by cases h
 | z::E,h,hx=>by
  obtain⟨h1,h2⟩:=kp.1 h;rcases zO.1 hx with rfl | hx
  ·simp[List.find?_cons]
  ·have:=h1 x hx;rw[List.find?_cons,show(z.birth==x.birth)=false from uY.2 (by omega)];exact Qs h2 hx
theorem JM(h:i≠j)(o:Option CE):yP (L.set i o) j=yP L j:=by unfold yP;rw[yy h]
theorem KX(h:uS L)(hx:L[i]? = some (some x)) : ∀ {A:List Wt},(∀ y∈A,∃ z,L[y.slot]? = some (some z))→(zx A i).map (xw (L.set i none))=zx (A.map (xw L)) x.birth
 | [],_=>rfl
 | y::A,hA=>by
  have ih:=KX h hx (A:=A) (fun y hy=>hA y (yH _ hy));obtain⟨z,hz⟩:=hA y yE;unfold zx at ih ⊢;rw[qG,je,je];by_cases c:y.slot=i
  ·have hb:(xw L y).slot=x.birth:=by unfold xw;rw[c];exact ug hx
   rw[zh (by simpa using c),zh (by simpa using hb)];exact ih
  ·have hb:(xw L y).slot≠x.birth:=fun e=>by
    have e2:(xw L y).slot=z.birth:=ug hz;exact c (h.uniq hz hx (by rw[← e2,e]))
   rw[zk (by simpa using c),zk (by simpa using hb),qG,ih]
   congr 1
   unfold xw;rw[JM (fun e=>c e.symm)]
end
def vB(k:Nat)(t:Bst)(n:Nat):Bst:=match t.E.find? (fun x=>x.birth==n)with
 | some x => {t with E:=t.E.filter (fun y=>decide (y.birth≠n)),A:=zx t.A n,B:=zx t.B n,evs:=t.evs++[⟨k,x,t.now⟩]}
 | none=>t
structure CaI(P:Nat→Prop)(s:CaS):Prop where
 cfg:s.cfg.ok
 lim:s.lim=s.cfg.part
 mc:s.cfg.count=s.mc
 mb:s.cfg.bytes=s.mb
 U:s.U=Bu.of s.A s.B
 nd:(zA (s.A++s.B)).Nodup
 ab : ∀ y:Wt,y∈s.A++s.B ↔ ∃ x,s.L[y.slot]? = some (some x)∧y.cost=x.cost
 due:yJ s.now s.M
 md : ∀ t:Td,t∈s.M ↔ ∃ x,s.L[t.slot]? = some (some x)∧t.dl=x.dl∧t.birth=x.birth ∧ ¬ P t.slot
 ok : ∀ x∈zu s.L,x.Ok∧x.birth≤s.births
 inc:uS s.L
 keys:(zu s.L).Pairwise (fun x y=>x.key≠y.key)
 evo : ∀ v∈s.evs,v.Ok∧v.tm≤s.now∧v.e.birth≤s.births
 evt:s.evs.Pairwise (fun v u=>v.tm≤u.tm)
 now64:s.now≤18446744073709551615
 b64:s.births≤18446744073709551615
 len:s.L.length≤s.births∧s.births≤16
section
variable{P:Nat→Prop}{s:CaS}{k sl:Nat}{x:CE}
theorem zka{now:Nat}{M:List Td}(h:yJ now M){s:Nat}(hs:s<4194304):yJ now (vz M s) ∧ ∀ y,y∈vz M s↔y∈M∧y.slot≠s:=by
 unfold vz;rcases V6 M s with⟨_,hh,x,e1,rfl,_,e3,e4⟩ | ⟨hno,er,e1,e2⟩
 ·rw[e1];dsimp only;rw[zk rfl];obtain⟨h1,h2,_,_⟩:=h.out e4 (Yg h.ord);exact⟨h1,h2⟩
 ·rw[e1];dsimp only;rw[zh e2];refine⟨h,fun y=>⟨fun hy=>⟨hy,fun e => ?_⟩,fun hy=>hy.1⟩⟩;rcases hno with c | c
  ·exact c hs
  ·rw[uL.2 ⟨y,hy,e⟩]at c;cases c
theorem YU{L:List (Option CE)}{i j:Nat}{z:CE}:(L.set i none)[j]? = some (some z)↔L[j]? = some (some z)∧j≠i:=by
 rw[Xr];by_cases c:i=j
 ·subst c;rw[zk rfl];by_cases c2:i<L.length
  ·rw[zk c2];exact⟨fun e=>(by injection e with e;cases e),fun e=>absurd rfl e.2⟩
  ·rw[zh c2];exact⟨fun e=>(by cases e),fun e=>absurd rfl e.2⟩
 ·rw[zh c];exact⟨fun e=>⟨e,fun q=>c q.symm⟩,fun e=>e.1⟩
theorem CaI.sl_lt(h:CaI P s)(hx:s.L[sl]? = some (some x)):sl<4194304:=by have:=(zE.1 hx).1;have:=h.len;omega
theorem CaI.sg(h:CaI P s):SgL s.A s.B:=⟨h.nd,fun y hy=>by
 obtain⟨x,hx,e⟩:=(h.ab y).1 hy;have h1:=(h.ok x (xX.2 ⟨_,hx⟩)).1;refine⟨h.sl_lt hx,?_⟩;rw[e];unfold CE.cost;have:=h1.k1;have:=h1.v1;omega⟩
theorem zbW(hx:s.L[sl]? = some (some x)):xg k s sl=lvS s k x ⟨sl,x.cost⟩:=by unfold xg;rw[hx]
theorem CaI.lv(h:CaI P s)(hx:s.L[sl]? = some (some x))(hev:Ev.Ok ⟨k,x,s.now⟩):CaI P (xg k s sl)∧zK (xg k s sl)=vB k (zK s) x.birth:=by
 rw[zbW hx];have hsl:=h.sl_lt hx;have hxm:x∈zu s.L:=xX.2 ⟨sl,hx⟩;have hlive:=zgp h.inc hx;obtain⟨hd1,hd2⟩:=zka h.due hsl;have hy:(⟨sl,x.cost⟩:Wt)∈s.A++s.B:=(h.ab ⟨sl,x.cost⟩).2 ⟨x,hx,rfl⟩;have hU:=(Bu.of_rem h.sg hy).2;have hsub : ∀ z,z∈zu (s.L.set sl none)→z∈zu s.L:=fun z hz=>by rw[hlive]at hz;exact(qT.1 hz).1
 refine⟨⟨h.cfg,h.lim,h.mc,h.mb,?_,?_,fun y => ?_,hd1,fun t => ?_,fun z hz=>h.ok z (hsub z hz),?_,?_,fun v hv => ?_,?_,h.now64,h.b64,?_⟩,?_⟩
 ·show s.U.rem (gOf s.B sl) x.cost=_
  rw[h.U];exact hU
 ·show(zA (zx s.A sl++zx s.B sl)).Nodup
  rw[← qu];exact h.nd.sublist (List.Sublist.map _ jL)
 ·show y∈zx s.A sl++zx s.B sl ↔ ∃ z,(s.L.set sl none)[y.slot]? = some (some z)∧y.cost=z.cost
  rw[← qu,j5,h.ab];constructor
  ·rintro⟨⟨z,h1,h2⟩,h3⟩;exact⟨z,YU.2 ⟨h1,h3⟩,h2⟩
  ·rintro⟨z,h1,h2⟩;obtain⟨h3,h4⟩:=YU.1 h1;exact⟨⟨z,h3,h2⟩,h4⟩
 ·show t∈vz s.M sl ↔ ∃ z,(s.L.set sl none)[t.slot]? = some (some z)∧t.dl=z.dl∧t.birth=z.birth ∧ ¬ P t.slot
  rw[hd2,h.md];constructor
  ·rintro⟨⟨z,h1,h2⟩,h3⟩;exact⟨z,YU.2 ⟨h1,h3⟩,h2⟩
  ·rintro⟨z,h1,h2⟩;obtain⟨h3,h4⟩:=YU.1 h1;exact⟨⟨z,h3,h2⟩,h4⟩
 ·show(zu (s.L.set sl none)).Pairwise _
  rw[hlive];exact h.inc.sublist jL
 ·show(zu (s.L.set sl none)).Pairwise _
  rw[hlive];exact h.keys.sublist jL
 ·rcases yz.1 hv with hv | hv
  ·exact h.evo v hv
  ·rw[zF.1 hv];exact⟨hev,zI _,(h.ok x hxm).2⟩
 ·show(s.evs++[_]).Pairwise _
  rw[qd];refine⟨h.evt,by simp,fun v hv u hu => ?_⟩;rw[zF.1 hu];exact(h.evo v hv).2.1
 ·show(s.L.set sl none).length≤s.births∧_
  rw[xF];exact h.len
 ·have hf:=Qs h.inc hxm;have e1:=KX h.inc hx (A:=s.A) (fun y hy=>by obtain⟨z,hz,_⟩:=(h.ab y).1 (xT _ hy);exact⟨z,hz⟩);have e2:=KX h.inc hx (A:=s.B) (fun y hy=>by obtain⟨z,hz,_⟩:=(h.ab y).1 (xM _ hy);exact⟨z,hz⟩);unfold vB zK lvS;dsimp only;rw[hf,hlive,e1,e2]
theorem QP:(xg k s sl).now=s.now∧(xg k s sl).cfg=s.cfg∧(xg k s sl).births=s.births∧(xg k s sl).mc=s.mc∧(xg k s sl).mb=s.mb∧(xg k s sl).lim=s.lim∧(xg k s sl).L.length=s.L.length:=by
 unfold xg;split
 ·exact⟨rfl,rfl,rfl,rfl,rfl,rfl,xF⟩
 ·exact⟨rfl,rfl,rfl,rfl,rfl,rfl,rfl⟩
theorem zfj(hx:s.L[sl]? = some (some x)):(xg k s sl).L=s.L.set sl none∧(xg k s sl).evs.length=s.evs.length+1:=by
 rw[zbW hx];exact⟨rfl,by show(s.evs++[_]).length=_;rw[zV];rfl⟩
theorem CaI.leaves : ∀ {l:List Nat} {s:CaS},CaI P s→(∀ sl∈l,∃ x,s.L[sl]? = some (some x)∧Ev.Ok ⟨k,x,s.now⟩)→l.Nodup→s.evs.length+l.length≤1048576 →
  vL k s l∧CaI P (xq k s l)∧zK (xq k s l)=(l.map (yP s.L)).foldl (vB k) (zK s)∧(∀ j z,(xq k s l).L[j]? = some (some z)↔s.L[j]? = some (some z)∧j∉l)
 | [],s,h,_,_,_=>⟨trivial,h,rfl,fun j z=>⟨fun e=>⟨e,by simp⟩,fun e=>e.1⟩⟩
 | sl::l,s,h,hl,hnd,hn=>by
  obtain⟨x,hx,hev⟩:=hl sl yE;obtain⟨hn1,hn2⟩:=yO.1 hnd;obtain⟨h1,h2⟩:=h.lv hx hev;obtain⟨h3,h4⟩:=zfj (k:=k) hx;have hfr:=QP (k:=k) (s:=s) (sl:=sl);have hne : ∀ q∈l,q≠sl:=fun q hq e=>hn1 (e ▸ hq)
  obtain⟨k1,k2,k3,k4⟩:=CaI.leaves (l:=l) h1 (fun q hq=>by
   obtain⟨z,hz,hev2⟩:=hl q (yH _ hq);exact⟨z,by rw[h3];exact YU.2 ⟨hz,hne q hq⟩,by rw[hfr.1];exact hev2⟩) hn2 (by simp at hn;omega)
  refine⟨⟨⟨x,hx,(h.ab ⟨sl,x.cost⟩).2 ⟨x,hx,rfl⟩,hev,by simp at hn;omega,h.U⟩,k1⟩,k2,?_,fun j z => ?_⟩
  ·have e1:l.map (yP (xg k s sl).L)=l.map (yP s.L):=uu (fun q hq=>by rw[h3];exact JM (fun e=>hne q hq e.symm) _);rw[qG,List.foldl_cons,ug hx,← h2,← e1];exact k3
  ·have e2:xq k s (sl::l)=xq k (xg k s sl) l:=rfl;rw[e2,k4,h3,YU,zO,not_or];exact⟨fun e=>⟨e.1.1,e.1.2,e.2⟩,fun e=>⟨⟨e.1,e.2.1⟩,e.2.2⟩⟩
end
def td0(x:CE):Td:=⟨0,x.dl,x.birth⟩
def YX(t:Td):Td:=⟨0,t.dl,t.birth⟩
def YN(E:List CE):List Td:=E.foldr (fun x M=>xQ M (td0 x)) []
def Qb(E:List CE)(tt:Nat):List Nat:=(ue tt (YN E)).map Td.birth
def yW(t:Bst)(tt:Nat):Bst:=(Qb t.E (max t.now tt)).foldl (vB 1) {t with now:=max t.now tt}
theorem Vt : ∀ E:List CE,(YN E).Perm (E.map td0)
 | []=>List.Perm.refl _
 | x::E=>qz.trans ((Vt E).cons _)
theorem Jt : ∀ {E:List CE},E.Pairwise (fun x y=>x.birth<y.birth)→(YN E).Pairwise bef
 | [],_=>List.Pairwise.nil
 | x::E,h=>by
  obtain⟨h1,h2⟩:=kp.1 h;refine Xg (Jt h2) (fun y hy e => ?_);obtain⟨z,hz,rfl⟩:=zz.1 ((Vt E).mem_iff.1 hy);have:=h1 z hz;have e2:z.birth=x.birth:=e;omega
theorem zfg{R:Td→Td→Prop}(hR : ∀ a b,R a b→R b a→False){A B:List Td}(h1:A.Pairwise R)(h2:B.Pairwise R)(hm : ∀ x,x∈A↔x∈B):A.Perm B:=by
 have n1:A.Nodup:=h1.imp (fun {a b} k e=>by subst e;exact hR _ _ k k);have n2:B.Nodup:=h2.imp (fun {a b} k e=>by subst e;exact hR _ _ k k);exact(List.perm_ext_iff_of_nodup n1 n2).2 hm
theorem zeF{L:List (Option CE)}{M:List Td}(hs:M.Pairwise bef)(hm : ∀ t:Td,t∈M ↔ ∃ x,L[t.slot]? = some (some x)∧t.dl=x.dl∧t.birth=x.birth)(hi:uS L):M.map YX=YN (zu L):=by
 have h1:(M.map YX).Pairwise bef:=by
  rw[uQ];exact hs.imp (fun {a b} h=>h)
 refine Z6 h1 (Jt hi) (zfg (R:=bef) (fun a b=>Xi) h1 (Jt hi) (fun t => ?_));rw[(Vt _).mem_iff,zz,zz];constructor
 ·rintro⟨y,hy,rfl⟩;obtain⟨x,hx,e1,e2⟩:=(hm y).1 hy;exact⟨x,xX.2 ⟨_,hx⟩,by unfold td0 YX;rw[e1,e2]⟩
 ·rintro⟨x,hx,rfl⟩;obtain⟨i,hi2⟩:=xX.1 hx;exact⟨⟨i,x.dl,x.birth⟩,(hm _).2 ⟨x,hi2,rfl,rfl⟩,rfl⟩
theorem zgm(tt:Nat)(M:List Td):ue tt (M.map YX)=(ue tt M).map YX:=by
 unfold ue;rw[List.takeWhile_map]
 rfl
section
variable{s:CaS}{t:Nat}
abbrev NoP:Nat→Prop:=fun _=>False
theorem CaI.md0(h:CaI NoP s)(t:Td):t∈s.M ↔ ∃ x,s.L[t.slot]? = some (some x)∧t.dl=x.dl∧t.birth=x.birth:=by
 rw[h.md];exact⟨fun⟨x,a,b,c,_⟩=>⟨x,a,b,c⟩,fun⟨x,a,b,c⟩=>⟨x,a,b,c,fun e=>e⟩⟩
theorem CaI.sortM(h:CaI NoP s):s.M.map YX=YN (zu s.L):=zeF h.due.ord h.md0 h.inc
theorem CaI.lenM(h:CaI NoP s):s.M.length=(zu s.L).length:=by
 have e:=congrArg List.length h.sortM;rw[yn,(Vt _).length_eq,yn]at e;exact e
theorem CaI.fresh(h:CaI NoP s){x:CE}(hx:x∈zu s.L):s.now<x.dl∨x.dl=18446744073709551615:=by
 obtain⟨i,hi⟩:=xX.1 hx;exact(h.due.rng ⟨i,x.dl,x.birth⟩ ((h.md0 _).2 ⟨x,hi,rfl,rfl⟩)).2.1
theorem CaI.tm(h:CaI NoP s)(ht:t≤18446744073709551615):CaI (fun q=>q∈xa s t) (tmS s t)∧(xa s t).Nodup∧(∀ sl∈xa s t,∃ x,s.L[sl]? = some (some x)∧Ev.Ok ⟨1,x,max s.now t⟩)∧(xa s t).map (yP s.L)=Qb (zu s.L) (max s.now t)∧(xa s t).length≤(zu s.L).length:=by
 have h64:=h.now64;have hmx:max s.now t≤18446744073709551615:=by omega
 have hd:=(h.due.exp (tt:=max s.now t) (by omega) hmx).2.2.2;obtain⟨e1,e2⟩:=zda hmx h.due.ord;have hin : ∀ y∈ue (max s.now t) s.M,y∈s.M∧kZ (max s.now t) y=true:=fun y hy=>by rw[e1]at hy;exact qT.1 hy
 refine⟨⟨h.cfg,h.lim,h.mc,h.mb,h.U,h.nd,h.ab,hd,fun y => ?_,h.ok,h.inc,h.keys,fun v hv => ?_,h.evt,hmx,h.b64,h.len⟩,?_,fun sl hsl => ?_,?_,?_⟩
 ·show y∈jd (max s.now t) s.M ↔ ∃ x,s.L[y.slot]? = some (some x)∧y.dl=x.dl∧y.birth=x.birth ∧ ¬ y.slot∈xa s t
  rw[e2,qT];constructor
  ·rintro⟨hy,hp⟩;obtain⟨x,a,b,c⟩:=(h.md0 y).1 hy;refine⟨x,a,b,c,fun hc => ?_⟩;obtain⟨z,hz,ez⟩:=zz.1 hc;obtain⟨k1,k2⟩:=hin z hz;rw[h.due.slots z k1 y hy ez]at k2;rw[k2]at hp
   cases hp
  ·rintro⟨x,a,b,c,d⟩;have hy:=(h.md0 y).2 ⟨x,a,b,c⟩;refine⟨hy,?_⟩
   cases hp:kZ (max s.now t) y with
   | false=>rfl
   | true=>exact absurd (zz.2 ⟨y,by rw[e1];exact qT.2 ⟨hy,hp⟩,rfl⟩) d
 ·obtain⟨a,b,c⟩:=h.evo v hv;exact⟨a,by show v.tm≤max s.now t;omega,c⟩
 ·show((ue (max s.now t) s.M).map Td.slot).Nodup
  refine uQ.2 ?_;have hp:(ue (max s.now t) s.M).Pairwise bef:=h.due.ord.sublist (Um _);refine hp.imp_of_mem (fun {a b} ha hb hab e => ?_);have:=h.due.slots a (hin a ha).1 b (hin b hb).1 e;subst this;exact Xi hab hab
 ·obtain⟨y,hy,rfl⟩:=zz.1 hsl;obtain⟨k1,k2⟩:=hin y hy;obtain⟨x,a,b,c⟩:=(h.md0 y).1 k1;refine⟨x,a,⟨zI _,by show(1:Nat)≤5;omega⟩,(h.ok x (xX.2 ⟨_,a⟩)).1,hmx,?_⟩;unfold kZ at k2;unfold jG;rw[b]at k2;simp at k2 ⊢;omega
 ·unfold Qb;rw[← h.sortM,zgm];unfold xa;rw[jP,jP];refine uu (fun y hy => ?_);obtain⟨x,a,b,c⟩:=(h.md0 y).1 (hin y hy).1
  show yP s.L y.slot=y.birth
  rw[ug a,c]
 ·unfold xa;rw[yn,← h.lenM];exact(Um _).length_le
theorem CaI.exp(h:CaI NoP s)(ht:t≤18446744073709551615)(hn:s.evs.length+(zu s.L).length≤1048576) :
  vL 1 (tmS s t) (xa s t)∧CaI NoP (zl s t)∧zK (zl s t)=yW (zK s) t:=by
 obtain⟨h1,h2,h3,h4,h5⟩:=h.tm ht;obtain⟨k1,k2,k3,k4⟩:=h1.leaves (k:=1) (l:=xa s t) h3 h2 (by show s.evs.length+_≤_;omega);refine⟨k1,⟨k2.cfg,k2.lim,k2.mc,k2.mb,k2.U,k2.nd,k2.ab,k2.due,fun y => ?_,k2.ok,k2.inc,k2.keys,k2.evo,k2.evt,k2.now64,k2.b64,k2.len⟩,?_⟩
 ·show y∈(xq 1 (tmS s t) (xa s t)).M ↔ ∃ x,(xq 1 (tmS s t) (xa s t)).L[y.slot]? = some (some x)∧y.dl=x.dl∧y.birth=x.birth ∧ ¬ False
  rw[k2.md];constructor
  ·rintro⟨x,a,b,c,d⟩;exact⟨x,a,b,c,fun e=>e⟩
  ·rintro⟨x,a,b,c,d⟩;exact⟨x,a,b,c,((k4 _ _).1 a).2⟩
 ·show zK (xq 1 (tmS s t) (xa s t))=_
  rw[k3]
  show((xa s t).map (yP s.L)).foldl (vB 1) _=_
  rw[h4]
  rfl
end
section
variable{s:CaS}
theorem CaI.packok(h:CaI NoP s):QJ s:=⟨by
 have:=h.len;unfold XQ;have e:decide (16<(s.L.length:Int))=false:=zR (by omega);rw[e];simp⟩
theorem CaI.pk(h:CaI NoP s):CaI NoP (pkS s)∧zK (pkS s)=zK s∧(pkS s).L.length≤2*(zu s.L).length+16:=⟨h,rfl,by have:=h.len;show s.L.length≤_;omega⟩
end
def vO(t:Bst)(keep:Nat):Bst:=(ud t.cfg.count.toNat t.cfg.bytes.toNat keep (t.A++t.B)).foldl (vB 2) t
theorem zai{f:Nat→Nat}{cn by_:Nat} : ∀ {zs:List Wt} {n c:Nat},vt cn by_ (zs.map (fun y=>(⟨f y.slot,y.cost⟩:Wt))) n c=(vt cn by_ zs n c).map f
 | [],_,_=>rfl
 | z::zs,n,c=>by
  rw[qG,vt,vt];split
  ·rw[qG,zai]
  ·rfl
theorem zhf{f:Nat→Nat}{cn by_ keep keepN:Nat}{zs:List Wt}(hk : ∀ y∈zs,f y.slot=keepN↔y.slot=keep):ud cn by_ keepN (zs.map (fun y=>(⟨f y.slot,y.cost⟩:Wt)))=(ud cn by_ keep zs).map f:=by
 unfold ud;have e1:kT keepN (zs.map (fun y=>(⟨f y.slot,y.cost⟩:Wt)))=(kT keep zs).map (fun y=>(⟨f y.slot,y.cost⟩:Wt)):=by
  unfold kT;rw[List.filter_map]
  congr 1
  refine XS (fun y hy => ?_)
  show(!vu keepN ⟨f y.slot,y.cost⟩)=(!vu keep y)
  unfold vu;have:=hk y hy;by_cases c:y.slot=keep
  ·rw[zP (show(⟨f y.slot,y.cost⟩:Wt).slot=keepN from this.2 c),zP c]
  ·rw[zR (show ¬ (⟨f y.slot,y.cost⟩:Wt).slot=keepN from fun e=>c (this.1 e)),zR c]
 have e2:zw (zs.map (fun y=>(⟨f y.slot,y.cost⟩:Wt)))=zw zs:=by unfold zw;simp[Function.comp_def]
 rw[e1,e2,yn,zai]
theorem JD{cn by_:Nat} : ∀ {zs:List Wt} {n c:Nat},(vt cn by_ zs n c).Sublist (zA zs)
 | [],_,_=>by simp[vt,zA]
 | z::zs,n,c=>by
  rw[vt];split
  ·exact(JD (zs:=zs)).cons_cons _
  ·exact List.nil_sublist _
theorem zjQ{cn by_ keep:Nat}{zs:List Wt}:(ud cn by_ keep zs).Sublist (zA zs)∧keep∉ud cn by_ keep zs:=by
 unfold ud;refine⟨JD.trans (List.Sublist.map _ jL),fun h => ?_⟩;obtain⟨y,hy,e⟩:=zz.1 (JD.subset h);have:=(qT.1 hy).2;unfold vu at this;simp[e]at this
section
variable{s:CaS}{keep keepN:Nat}
theorem CaI.lenAB(h:CaI NoP s):(s.A++s.B).length=(zu s.L).length:=by
 have h1:((s.A++s.B).map (fun y=>yP s.L y.slot)).Nodup:=by
  have hnd:=h.nd;unfold zA at hnd;refine uQ.2 ((uQ.1 hnd).imp_of_mem (fun {a b} ha hb hab e=>hab ?_));obtain⟨x,hx,_⟩:=(h.ab a).1 ha;obtain⟨y,hy,_⟩:=(h.ab b).1 hb;exact h.inc.uniq hx hy (by rw[← ug hx,← ug hy];exact e)
 have h2:((zu s.L).map CE.birth).Nodup:=uQ.2 (h.inc.imp (fun {a b} hab e=>by omega));have hp:((s.A++s.B).map (fun y=>yP s.L y.slot)).Perm ((zu s.L).map CE.birth):=(List.perm_ext_iff_of_nodup h1 h2).2 (fun n=>by
  rw[zz,zz];constructor
  ·rintro⟨y,hy,rfl⟩;obtain⟨x,hx,_⟩:=(h.ab y).1 hy;exact⟨x,xX.2 ⟨_,hx⟩,(ug hx).symm⟩
  ·rintro⟨x,hx,rfl⟩;obtain⟨i,hi⟩:=xX.1 hx;exact⟨⟨i,x.cost⟩,(h.ab _).2 ⟨x,hi,rfl⟩,ug hi⟩)
 have:=hp.length_eq;rw[yn,yn]at this;exact this
theorem CaI.ev(h:CaI NoP s)(hk : ∀ y∈s.A++s.B,yP s.L y.slot=keepN↔y.slot=keep)(hn:s.evs.length+(zu s.L).length≤1048576∨(s.evs.length+(zu s.L).length≤1048577 ∧ ∃ c,(⟨keep,c⟩:Wt)∈s.A++s.B)) :
  vL 2 s (ul s keep)∧CaI NoP (evS s keep)∧zK (evS s keep)=vO (zK s) keepN ∧ ∀ z,s.L[keep]? = some (some z)→z∈zu (evS s keep).L:=by
 obtain⟨hs1,hs2⟩:=zjQ (cn:=s.mc) (by_:=s.mb) (keep:=keep) (zs:=s.A++s.B);have hnd:(ul s keep).Nodup:=h.nd.sublist hs1;have hlen:s.evs.length+(ul s keep).length≤1048576:=by
  have h1:=hs1.length_le;have h2:(zA (s.A++s.B)).length=(zu s.L).length:=by unfold zA;rw[yn,h.lenAB]
  rw[h2]at h1;have e:ul s keep=ud s.mc s.mb keep (s.A++s.B):=rfl;rcases hn with hn | ⟨hn,c,hc⟩
  ·rw[e];omega
  ·have h3:(ud s.mc s.mb keep (s.A++s.B)).length<(zA (s.A++s.B)).length:=by
    refine Nat.lt_of_le_of_ne hs1.length_le (fun e2 => ?_);have e3:=hs1.eq_of_length e2;exact hs2 (by rw[e3];exact zz.2 ⟨_,hc,rfl⟩)
   rw[e];omega
 obtain⟨k1,k2,k3,k4⟩:=h.leaves (k:=2) (l:=ul s keep) (fun sl hsl=>by
  obtain⟨y,hy,rfl⟩:=zz.1 (hs1.subset hsl);obtain⟨x,hx,_⟩:=(h.ab y).1 hy;have hm:=xX.2 ⟨_,hx⟩;have hf:=h.fresh hm;refine⟨x,hx,⟨by show(1:Nat)≤2;omega,by show(2:Nat)≤5;omega⟩,(h.ok x hm).1,h.now64,?_⟩
  show jG x.dl s.now=false
  unfold jG;rcases hf with hf | hf
  ·simp;omega
  ·simp[hf]) hnd hlen
 refine⟨k1,k2,?_,fun z hz=>xX.2 ⟨keep,(k4 keep z).2 ⟨hz,hs2⟩⟩⟩
 show zK (xq 2 s (ul s keep))=_
 rw[k3];unfold vO;have e1:(zK s).A++(zK s).B=(s.A++s.B).map (fun y=>(⟨yP s.L y.slot,y.cost⟩:Wt)):=by
  rw[vh];rfl
 rw[e1];have c1:(zK s).cfg.count.toNat=s.mc:=by show s.cfg.count.toNat=_;rw[h.mc];rfl
 have c2:(zK s).cfg.bytes.toNat=s.mb:=by show s.cfg.bytes.toNat=_;rw[h.mb];rfl
 rw[c1,c2,zhf (f:=yP s.L) hk]
 rfl
theorem CaI.run(h:CaI NoP s)(hk : ∀ y∈s.A++s.B,yP s.L y.slot=keepN↔y.slot=keep)(hn:s.evs.length+(zu s.L).length≤1048576∨(s.evs.length+(zu s.L).length≤1048577 ∧ ∃ c,(⟨keep,c⟩:Wt)∈s.A++s.B)) :
  uh s keep∧CaI NoP (pkS (evS s keep))∧zK (pkS (evS s keep))=vO (zK s) keepN∧(pkS (evS s keep)).L.length≤2*(zu (pkS (evS s keep)).L).length+16 ∧ ∀ z,s.L[keep]? = some (some z)→z∈zu (pkS (evS s keep)).L:=by
 obtain⟨h1,h2,h3,h9⟩:=h.ev hk hn;obtain⟨h4,h5,h6⟩:=h2.pk;have h7:zu (pkS (evS s keep)).L=zu (evS s keep).L:=congrArg Bst.E h5;refine⟨⟨h1,h.U,?_,h.mc,h.mb,h2.packok⟩,h4,h5.trans h3,by rw[h7];exact h6,by rw[h7];exact h9⟩;rw[h.lenAB];omega
end
def Bst.sum(t:Bst):Nat:=t.evs.length+t.E.length
def qx(E:List CE):Prop:=E.Pairwise (fun x y=>x.birth<y.birth)
theorem zb2{x:CE} : ∀ {E:List CE},qx E→x∈E→(E.filter (fun y=>decide (y.birth≠x.birth))).length+1=E.length
 | [],_,h=>by cases h
 | z::E,h,hx=>by
  obtain⟨h1,h2⟩:=kp.1 h;rcases zO.1 hx with rfl | hx
  ·rw[je,zh (by simp)];have e:E.filter (fun y=>decide (y.birth≠x.birth))=E:=ju.2 (fun y hy=>by have:=h1 y hy;simp;omega);rw[e]
   rfl
  ·have:=h1 x hx;rw[je,zk (by simp;omega),kz,kz,zb2 h2 hx]
theorem QY{k:Nat}{t:Bst}{n:Nat}(h:qx t.E):(vB k t n).sum=t.sum∧qx (vB k t n).E∧(vB k t n).E.length≤t.E.length∧(vB k t n).now=t.now∧(vB k t n).cfg=t.cfg∧(vB k t n).births=t.births:=by
 unfold vB
 cases hf:t.E.find? (fun x=>x.birth==n)with
 | none=>exact⟨rfl,h,zI _,rfl,rfl,rfl⟩
 | some x =>
  have hx:=Zx hf;have hb:x.birth=n:=by simpa using Vv hf
  subst hb;have h1:=zb2 h hx;refine⟨?_,h.sublist jL,List.length_filter_le _ _,rfl,rfl,rfl⟩;unfold Bst.sum;dsimp only;rw[zV,List.length_singleton];omega
theorem KL{k:Nat} : ∀ {l:List Nat} {t:Bst},qx t.E→(l.foldl (vB k) t).sum=t.sum∧qx (l.foldl (vB k) t).E∧(l.foldl (vB k) t).E.length≤t.E.length∧(l.foldl (vB k) t).now=t.now∧(l.foldl (vB k) t).cfg=t.cfg∧(l.foldl (vB k) t).births=t.births
 | [],t,h=>⟨rfl,h,zI _,rfl,rfl,rfl⟩
 | n::l,t,h=>by
  obtain⟨h1,h2,h3,h4,h5,h6⟩:=QY (k:=k) (n:=n) h;obtain⟨k1,k2,k3,k4,k5,k6⟩:=KL (k:=k) (l:=l) h2;exact⟨k1.trans h1,k2,zH k3 h3,k4.trans h4,k5.trans h5,k6.trans h6⟩
theorem ze2{lim:Int}{f:Nat→Nat}(B:List Wt):jg lim (B.map (fun y=>(⟨f y.slot,y.cost⟩:Wt)))=jg lim B:=by
 unfold jg zw;simp[Function.comp_def]
theorem VZ{lim:Int}{f:Nat→Nat} : ∀ {B A:List Wt},(dem lim (A.map (fun y=>(⟨f y.slot,y.cost⟩:Wt))) (B.map (fun y=>(⟨f y.slot,y.cost⟩:Wt)))).1=(dem lim A B).1.map (fun y=>⟨f y.slot,y.cost⟩)∧(dem lim (A.map (fun y=>(⟨f y.slot,y.cost⟩:Wt))) (B.map (fun y=>(⟨f y.slot,y.cost⟩:Wt)))).2.1=(dem lim A B).2.1.map (fun y=>⟨f y.slot,y.cost⟩)
 | [],A=>⟨rfl,rfl⟩
 | b::B,A=>by
  have hn:=ze2 (lim:=lim) (f:=f) (b::B)
  cases h:jg lim (b::B)with
  | false =>
   rw[h]at hn;rw[VF h,VF hn];exact⟨rfl,rfl⟩
  | true =>
   rw[h]at hn;have e:(b::B).map (fun y=>(⟨f y.slot,y.cost⟩:Wt))=⟨f b.slot,b.cost⟩::B.map (fun y=>(⟨f y.slot,y.cost⟩:Wt)):=rfl;rw[e]at hn ⊢;rw[VJ h,VJ hn];have ih:=VZ (lim:=lim) (f:=f) (B:=B) (A:=A++[b]);rw[vh]at ih;exact ih
theorem Jg(lim:Int)(A B:List Wt):(dem lim A B).1++(dem lim A B).2.1=A++B:=by
 obtain⟨ys,B2,e1,e2⟩:=Jo lim B A;rw[e2,e1];simp
theorem zat(lim:Int)(A B:List Wt)(x:Wt):((xo lim A B x).1++(xo lim A B x).2.1).Perm (zx (A++B) x.slot++[x]):=by
 unfold xo;split
 ·rw[Jg,qu,vM,vM];exact(List.perm_append_comm).append_left _
 ·rw[Jg,qu,vM]
def qv(t:Bst)(n c:Nat):Bst := {t with A:=(xo t.cfg.part t.A t.B ⟨n,c⟩).1,B:=(xo t.cfg.part t.A t.B ⟨n,c⟩).2.1}
theorem QX{f:Nat→Nat}{sl:Nat}{A:List Wt}(h : ∀ y∈A,f y.slot=f sl↔y.slot=sl):zx (A.map (fun y=>(⟨f y.slot,y.cost⟩:Wt))) (f sl)=(zx A sl).map (fun y=>⟨f y.slot,y.cost⟩):=by
 unfold zx;rw[List.filter_map]
 congr 1
 refine XS (fun y hy => ?_);have:=h y hy
 show decide (f y.slot≠f sl)=decide (y.slot≠sl)
 exact decide_eq_decide.2 (not_congr this)
theorem Qo{lim:Int}{f:Nat→Nat}{sl c:Nat}{A B:List Wt}(h : ∀ y∈A++B,f y.slot=f sl↔y.slot=sl) :
  (xo lim (A.map (fun y=>(⟨f y.slot,y.cost⟩:Wt))) (B.map (fun y=>(⟨f y.slot,y.cost⟩:Wt))) ⟨f sl,c⟩).1=(xo lim A B ⟨sl,c⟩).1.map (fun y=>⟨f y.slot,y.cost⟩)∧(xo lim (A.map (fun y=>(⟨f y.slot,y.cost⟩:Wt))) (B.map (fun y=>(⟨f y.slot,y.cost⟩:Wt))) ⟨f sl,c⟩).2.1=(xo lim A B ⟨sl,c⟩).2.1.map (fun y=>⟨f y.slot,y.cost⟩):=by
 have e1:=QX (A:=A) (f:=f) (sl:=sl) (fun y hy=>h y (xT _ hy));have e2:=QX (A:=B) (f:=f) (sl:=sl) (fun y hy=>h y (xM _ hy));unfold xo;dsimp only;rw[e1,e2];by_cases e:lim = -1
 ·rw[zk e,zk e];have e3:=VZ (lim:=lim) (f:=f) (A:=zx A sl++[⟨sl,c⟩]) (B:=zx B sl);rw[vh]at e3;exact e3
 ·rw[zh e,zh e];have e3:=VZ (lim:=lim) (f:=f) (A:=zx A sl) (B:=zx B sl++[⟨sl,c⟩]);rw[vh]at e3;exact e3
theorem zbm{now:Nat}{M:List Td}{s dl b:Nat}(h:yJ now M)(hb:qy M s b=false)(hs:s<4194304)(h0:0<b)(h1:b≤18446744073709551615)(hd:now<dl∨dl=18446744073709551615)(hd1:dl≤18446744073709551615) :
  kI now M s dl b=0∧yJ now (kN now M s dl b) ∧ ∀ y,y∈kN now M s dl b↔(y∈M∧y.slot≠s)∨y=⟨s,dl,b⟩:=by
 have hr:kI now M s dl b=0:=by
  unfold kI;rw[zk ⟨hs,by omega⟩,zh (by omega),hb]
  rfl
 have hno : ∀ y∈M,y.slot≠s→y.birth≠b:=fun y hy h1 h2=>by
  have:=Xf.2 ⟨y,hy,.inr ⟨h1,h2⟩⟩;rw[hb]at this
  cases this
 obtain⟨N,hN,hD,hm⟩ : ∃ N,jT M s=N∧yJ now N ∧ ∀ y,y∈N↔y∈M∧y.slot≠s:=by
  refine⟨jT M s,rfl,?_⟩;unfold jT
  cases hh:xL M s with
  | false =>
   rw[zh (by decide)];exact⟨h,fun y=>⟨fun hy=>⟨hy,fun e=>by rw[uL.2 ⟨y,hy,e⟩]at hh;cases hh⟩,fun hy=>hy.1⟩⟩
  | true =>
   rw[zk rfl];obtain⟨x,k1,k2,k3,k4⟩:=V4 (Ub.2 hh);subst k2;obtain⟨h1,h2,_,_⟩:=h.out k4 (Yg h.ord);exact⟨h1,h2⟩
 refine⟨hr,?_,fun y => ?_⟩
 ·unfold kN;rw[zk hr,hN];exact hD.put (fun y hy=>((hm y).1 hy).2) (fun y hy=>hno y ((hm y).1 hy).1 ((hm y).1 hy).2) ⟨hs,hd,hd1,h0,h1⟩
 ·unfold kN;rw[zk hr,hN,ZT,hm];exact⟨fun e=>e.elim .inr .inl,fun e=>e.elim .inr .inl⟩
section
variable{s:CaS}{sl:Nat}{x z:CE}
theorem CaI.evOk(h:CaI NoP s){k:Nat}(hk:2≤k∧k≤5)(hx:x∈zu s.L):Ev.Ok ⟨k,x,s.now⟩:=by
 refine⟨⟨by show 1≤k;omega,by show k≤5;omega⟩,(h.ok x hx).1,h.now64,?_⟩;have hf:=h.fresh hx
 show jG x.dl s.now=(k==1)
 rw[uY.2 (show k≠1 by omega)];unfold jG;rcases hf with hf | hf
 ·simp;omega
 ·simp[hf]
theorem CaI.tell(h:CaI NoP s){v:Ev}(hv:v.Ok)(ht:v.tm=s.now)(hb:v.e.birth≤s.births):CaI NoP {s with evs:=s.evs++[v]}:=by
 refine⟨h.cfg,h.lim,h.mc,h.mb,h.U,h.nd,h.ab,h.due,h.md,h.ok,h.inc,h.keys,fun u hu => ?_,?_,h.now64,h.b64,h.len⟩
 ·rcases yz.1 hu with hu | hu
  ·exact h.evo u hu
  ·rw[zF.1 hu];exact⟨hv,by show v.tm≤s.now;omega,hb⟩
 ·show(s.evs++[v]).Pairwise _
  rw[qd];refine⟨h.evt,by simp,fun u hu q hq => ?_⟩;rw[zF.1 hq,ht];exact(h.evo u hu).2.1
theorem YP{L:List (Option CE)}{i j:Nat}{z q:CE}(hi:i<L.length):(L.set i (some z))[j]? = some (some q)↔(j≠i∧L[j]? = some (some q))∨(j=i∧q=z):=by
 rw[Xr];by_cases c:i=j
 ·subst c;rw[zk rfl,zk hi];exact⟨fun e => .inr ⟨rfl,by injection e with e;injection e with e;exact e.symm⟩,fun e=>e.elim (fun e=>absurd rfl e.1) (fun e=>by rw[e.2])⟩
 ·rw[zh c];exact⟨fun e => .inl ⟨fun q=>c q.symm,e⟩,fun e=>e.elim (fun e=>e.2) (fun e=>absurd e.1.symm c)⟩
theorem CaI.notBusy(h:CaI NoP s)(hx:s.L[sl]? = some (some x)):qy s.M sl x.birth=false:=by
 cases hb:qy s.M sl x.birth with
 | false=>rfl
 | true =>
  obtain⟨y,hy,e⟩:=Xf.1 hb;obtain⟨q,h1,h2,h3⟩:=(h.md0 y).1 hy;rcases e with⟨e1,e2⟩ | ⟨e1,e2⟩
  ·rw[e1,hx]at h1;injection h1 with h1;injection h1 with h1
   subst h1;exact absurd h3 e2
  ·exact absurd (h.inc.uniq h1 hx (by rw[← h3,e2])) e1
def Xz(s:CaS)(sl:Nat)(z:CE):CaS:=vZ {s with L:=s.L.set sl (some z),M:=kN s.now s.M sl z.dl z.birth} ⟨sl,z.cost⟩
def ZG(t:Bst)(z:CE):Bst:=qv {t with E:=t.E.map (fun y=>if y.birth=z.birth then z else y)} z.birth z.cost
theorem CaI.bornIff(h:CaI NoP s)(hx:s.L[sl]? = some (some x)) : ∀ y∈s.A++s.B,yP s.L y.slot=yP s.L sl↔y.slot=sl:=fun y hy=>by
 obtain⟨q,hq,_⟩:=(h.ab y).1 hy;rw[ug hq,ug hx];exact⟨fun e=>h.inc.uniq hq hx e,fun e=>by rw[e,hx]at hq;injection hq with hq;injection hq with hq;rw[hq]⟩
theorem Az32v {P:Prop}(h:P:=by
 unfold zA;rw[vh,xD];refine⟨h.nd.sublist (List.Sublist.map _ jL),by simp,fun a ha b hb' e => ?_⟩;obtain⟨y,hy,rfl⟩:=zz.1 ha;have hb2:b=sl:=by simpa using hb'
 exact(j5.1 hy).2 (by rw[e,hb2])):P:=h
theorem CaI.hit(h:CaI NoP s)(hx:s.L[sl]? = some (some x))(hb:z.birth=x.birth)(hk:z.key=x.key)(hz:z.Ok)(hd:s.now<z.dl∨z.dl=18446744073709551615) :
  CaI NoP (Xz s sl z)∧zK (Xz s sl z)=ZG (zK s) z∧kI s.now s.M sl z.dl z.birth=0:=by
 have hsl:=h.sl_lt hx;have hi:=(zE.1 hx).1;have hxm:x∈zu s.L:=xX.2 ⟨sl,hx⟩;have hlive:=zeV h.inc hx z;obtain⟨hr,hd1,hd2⟩:=zbm (dl:=z.dl) h.due (h.notBusy hx) hsl (by rw[← hb];exact hz.b0) (by rw[← hb];exact hz.b1) hd hz.d1;rw[← hb]at hr hd1 hd2;have hp:=zat s.lim s.A s.B ⟨sl,z.cost⟩;have hnd:(zA (zx (s.A++s.B) sl++[⟨sl,z.cost⟩])).Nodup:=by
  exact Az32v
 have hbm : ∀ y∈zu (s.L.set sl (some z)),y=z∨(y∈zu s.L∧y.birth≠x.birth):=fun y hy=>by
  rw[hlive]at hy;obtain⟨q,hq,e⟩:=zz.1 hy;by_cases c:q.birth=x.birth
  ·rw[zk c]at e;exact .inl e.symm
  ·rw[zh c]at e;subst e;exact .inr ⟨hq,c⟩
 have hbirths:(zu (s.L.set sl (some z))).map CE.birth=(zu s.L).map CE.birth:=by
  rw[hlive,jP];refine uu (fun y hy => ?_)
  show CE.birth (if y.birth=x.birth then z else y)=y.birth
  by_cases c:y.birth=x.birth
  ·rw[zk c,hb,c]
  ·rw[zh c]
 have hkeys:(zu (s.L.set sl (some z))).map CE.key=(zu s.L).map CE.key:=by
  rw[hlive,jP];refine uu (fun y hy => ?_)
  show CE.key (if y.birth=x.birth then z else y)=y.key
  by_cases c:y.birth=x.birth
  ·rw[zk c,hk];obtain⟨j,hj⟩:=xX.1 hy;have:=h.inc.uniq hj hx c;subst this;rw[hx]at hj;injection hj with hj;injection hj with hj
   rw[hj]
  ·rw[zh c]
 have hba : ∀ j,yP (s.L.set sl (some z)) j=yP s.L j:=fun j=>by
  by_cases c:sl=j
  ·subst c;rw[ug hx,ug (x:=z) (by rw[yv hi]),hb]
  ·exact JM c _
 have hbw:xw (s.L.set sl (some z))=(fun y=>(⟨yP s.L y.slot,y.cost⟩:Wt)):=by
  funext y
  unfold xw;rw[hba]
 refine⟨⟨h.cfg,h.lim,h.mc,h.mb,rfl,?_,fun y => ?_,hd1,fun t => ?_,fun y hy => ?_,?_,?_,h.evo,h.evt,h.now64,h.b64,?_⟩,?_,hr⟩
 ·show(zA ((xo s.lim s.A s.B ⟨sl,z.cost⟩).1++(xo s.lim s.A s.B ⟨sl,z.cost⟩).2.1)).Nodup
  exact((hp.map Wt.slot).nodup_iff).2 hnd
 ·show y∈(xo s.lim s.A s.B ⟨sl,z.cost⟩).1++(xo s.lim s.A s.B ⟨sl,z.cost⟩).2.1 ↔ ∃ q,(s.L.set sl (some z))[y.slot]? = some (some q)∧y.cost=q.cost
  rw[hp.mem_iff,yz,j5,h.ab,zF];constructor
  ·rintro(⟨⟨q,h1,h2⟩,h3⟩ | rfl)
   ·exact⟨q,(YP hi).2 (.inl ⟨h3,h1⟩),h2⟩
   ·exact⟨z,(YP hi).2 (.inr ⟨rfl,rfl⟩),rfl⟩
  ·rintro⟨q,h1,h2⟩;rcases(YP hi).1 h1 with⟨h3,h4⟩ | ⟨h3,rfl⟩
   ·exact .inl ⟨⟨q,h4,h2⟩,h3⟩
   ·refine .inr ?_
    cases y
    simp at h2 h3;rw[h2,h3]
 ·show t∈kN s.now s.M sl z.dl z.birth ↔ ∃ q,(s.L.set sl (some z))[t.slot]? = some (some q)∧t.dl=q.dl∧t.birth=q.birth ∧ ¬ False
  rw[hd2,h.md0];constructor
  ·rintro(⟨⟨q,h1,h2,h3⟩,h4⟩ | rfl)
   ·exact⟨q,(YP hi).2 (.inl ⟨h4,h1⟩),h2,h3,fun e=>e⟩
   ·exact⟨z,(YP hi).2 (.inr ⟨rfl,rfl⟩),rfl,rfl,fun e=>e⟩
  ·rintro⟨q,h1,h2,h3,_⟩;rcases(YP hi).1 h1 with⟨h4,h5⟩ | ⟨h4,rfl⟩
   ·exact .inl ⟨⟨q,h5,h2,h3⟩,h4⟩
   ·refine .inr ?_
    cases t
    simp at h2 h3 h4;rw[h2,h3,h4]
 ·rcases hbm y hy with rfl | ⟨k1,_⟩
  ·exact⟨hz,by rw[hb];exact(h.ok x hxm).2⟩
  ·exact h.ok y k1
 ·show(zu (s.L.set sl (some z))).Pairwise _
  have h1:=h.inc;unfold uS at h1;rw[← uQ (R:=fun a b:Nat=>a<b) (f:=CE.birth),hbirths,uQ];exact h1
 ·show(zu (s.L.set sl (some z))).Pairwise _
  have h1:=h.keys;rw[← uQ (R:=fun a b:ByteArray=>a≠b) (f:=CE.key),hkeys,uQ];exact h1
 ·show(s.L.set sl (some z)).length≤s.births∧_
  rw[xF];exact h.len
 ·obtain⟨u1,u2⟩:=Qo (lim:=s.lim) (f:=yP s.L) (sl:=sl) (c:=z.cost) (h.bornIff hx);rw[ug hx,← hb]at u1 u2;unfold Xz vZ ZG qv zK;dsimp only;rw[hbw,hlive,← hb,← h.lim];have ea:s.A.map (xw s.L)=s.A.map (fun y=>(⟨yP s.L y.slot,y.cost⟩:Wt)):=rfl;have eb:s.B.map (xw s.L)=s.B.map (fun y=>(⟨yP s.L y.slot,y.cost⟩:Wt)):=rfl;rw[ea,eb,u1,u2]
theorem Azatb {P:Prop}(h:P:=by
 have eb:s.B.map (xw s.L)=s.B.map (fun y=>(⟨yP s.L y.slot,y.cost⟩:Wt)):=rfl;rw[ea,eb,u1,u2]
 rfl):P:=h
theorem CaI.use(h:CaI NoP s)(hx:s.L[sl]? = some (some x)):CaI NoP (vZ s ⟨sl,x.cost⟩)∧zK (vZ s ⟨sl,x.cost⟩)=qv (zK s) x.birth x.cost:=by
 have hp:=zat s.lim s.A s.B ⟨sl,x.cost⟩;have hmem : ∀ y,y∈(xo s.lim s.A s.B ⟨sl,x.cost⟩).1++(xo s.lim s.A s.B ⟨sl,x.cost⟩).2.1↔y∈s.A++s.B:=fun y=>by
  rw[hp.mem_iff,yz,j5,zF];constructor
  ·rintro(⟨h1,_⟩ | rfl)
   ·exact h1
   ·exact(h.ab ⟨sl,x.cost⟩).2 ⟨x,hx,rfl⟩
  ·intro hy;by_cases c:y.slot=sl
   ·refine .inr ?_;obtain⟨q,h1,h2⟩:=(h.ab y).1 hy;rw[c,hx]at h1;injection h1 with h1;injection h1 with h1
    cases y
    simp at c h2;rw[c,h2,h1]
   ·exact .inl ⟨hy,c⟩
 have hnd:(zA (zx (s.A++s.B) sl++[⟨sl,x.cost⟩])).Nodup:=by
  exact Az32v
 refine⟨⟨h.cfg,h.lim,h.mc,h.mb,rfl,?_,fun y=>(hmem y).trans (h.ab y),h.due,h.md,h.ok,h.inc,h.keys,h.evo,h.evt,h.now64,h.b64,h.len⟩,?_⟩
 ·show(zA ((xo s.lim s.A s.B ⟨sl,x.cost⟩).1++(xo s.lim s.A s.B ⟨sl,x.cost⟩).2.1)).Nodup
  exact((hp.map Wt.slot).nodup_iff).2 hnd
 ·obtain⟨u1,u2⟩:=Qo (lim:=s.lim) (f:=yP s.L) (sl:=sl) (c:=x.cost) (h.bornIff hx);rw[ug hx]at u1 u2;unfold vZ qv zK;dsimp only;rw[← h.lim];have ea:s.A.map (xw s.L)=s.A.map (fun y=>(⟨yP s.L y.slot,y.cost⟩:Wt)):=rfl;exact Azatb
def jo(s:CaS)(z:CE):CaS := {s with births:=z.birth,L:=s.L++[some z],M:=kN s.now s.M s.L.length z.dl z.birth,A:=s.A++[⟨s.L.length,z.cost⟩],U:=Bu.of (s.A++[⟨s.L.length,z.cost⟩]) s.B}
def Kp(t:Bst)(z:CE):Bst := {t with births:=z.birth,E:=t.E++[z],A:=t.A++[⟨z.birth,z.cost⟩]}
theorem CaI.new(h:CaI NoP s)(hb:z.birth=s.births+1)(hz:z.Ok)(hk : ∀ x∈zu s.L,x.key≠z.key)(hd:s.now<z.dl∨z.dl=18446744073709551615)(hl:s.births<16) :
  CaI NoP (jo s z)∧zK (jo s z)=Kp (zK s) z∧kI s.now s.M s.L.length z.dl z.birth=0:=by
 have hnb:qy s.M s.L.length z.birth=false:=by
  cases hb':qy s.M s.L.length z.birth with
  | false=>rfl
  | true =>
   obtain⟨y,hy,e⟩:=Xf.1 hb';obtain⟨q,h1,h2,h3⟩:=(h.md0 y).1 hy;rcases e with⟨e1,e2⟩ | ⟨e1,e2⟩
   ·rw[e1,xK (zI _)]at h1;cases h1
   ·have:=(h.ok q (xX.2 ⟨_,h1⟩)).2;omega
 obtain⟨hr,hd1,hd2⟩:=zbm (dl:=z.dl) h.due hnb (by have:=h.len;omega) hz.b0 hz.b1 hd hz.d1;have hget : ∀(j:Nat) (q:CE),(s.L++[some z])[j]? = some (some q)↔s.L[j]? = some (some q)∨(j=s.L.length∧q=z):=fun j q=>by
  rcases qV j s.L.length with c | c | c
  ·rw[us c];exact⟨.inl,fun e=>e.elim (fun e=>e) (fun e=>by omega)⟩
  ·subst c;rw[jh (zI _),YJ,xK (zI _)];simp;exact⟨fun e=>e.symm,fun e=>e.symm⟩
  ·rw[xK (by simp;omega),xK (by omega)];simp;omega
 have hlive:zu (s.L++[some z])=zu s.L++[z]:=XI _ _;have hlt : ∀ y∈s.A++s.B,y.slot<s.L.length:=fun y hy=>by obtain⟨q,h1,_⟩:=(h.ab y).1 hy;exact(zE.1 h1).1
 have hbw : ∀ y∈s.A++s.B,xw (s.L++[some z]) y=xw s.L y:=fun y hy=>by
  unfold xw yP;rw[us (hlt y hy)]
 refine⟨⟨h.cfg,h.lim,h.mc,h.mb,rfl,?_,fun y => ?_,hd1,fun t => ?_,fun y hy => ?_,?_,?_,fun v hv => ?_,h.evt,h.now64,hz.b1,?_⟩,?_,hr⟩
 ·show(zA ((s.A++[⟨s.L.length,z.cost⟩])++s.B)).Nodup
  have hp:((s.A++[(⟨s.L.length,z.cost⟩:Wt)])++s.B).Perm ((s.A++s.B)++[⟨s.L.length,z.cost⟩]):=by
   rw[vM,vM];exact(List.perm_append_comm).append_left _
  refine((hp.map Wt.slot).nodup_iff).2 ?_;rw[vh,xD];refine⟨h.nd,by simp,fun a ha b hb' e => ?_⟩;obtain⟨y,hy,rfl⟩:=zz.1 ha;have hb2:b=s.L.length:=by simpa using hb'
  have:=hlt y hy;omega
 ·show y∈(s.A++[⟨s.L.length,z.cost⟩])++s.B ↔ ∃ q,(s.L++[some z])[y.slot]? = some (some q)∧y.cost=q.cost
  have e1:y∈(s.A++[(⟨s.L.length,z.cost⟩:Wt)])++s.B↔y∈s.A++s.B∨y=⟨s.L.length,z.cost⟩:=by
   simp only[List.mem_append,List.mem_singleton];constructor
   ·rintro((a | a) | a)
    ·exact .inl (.inl a)
    ·exact .inr a
    ·exact .inl (.inr a)
   ·rintro((a | a) | a)
    ·exact .inl (.inl a)
    ·exact .inr a
    ·exact .inl (.inr a)
  rw[e1,h.ab];constructor
  ·rintro(⟨q,h1,h2⟩ | rfl)
   ·exact⟨q,(hget _ _).2 (.inl h1),h2⟩
   ·exact⟨z,(hget _ _).2 (.inr ⟨rfl,rfl⟩),rfl⟩
  ·rintro⟨q,h1,h2⟩;rcases(hget _ _).1 h1 with h3 | ⟨h3,rfl⟩
   ·exact .inl ⟨q,h3,h2⟩
   ·refine .inr ?_
    cases y
    simp at h2 h3;rw[h2,h3]
 ·show t∈kN s.now s.M s.L.length z.dl z.birth ↔ ∃ q,(s.L++[some z])[t.slot]? = some (some q)∧t.dl=q.dl∧t.birth=q.birth ∧ ¬ False
  rw[hd2,h.md0];constructor
  ·rintro(⟨⟨q,h1,h2,h3⟩,h4⟩ | rfl)
   ·exact⟨q,(hget _ _).2 (.inl h1),h2,h3,fun e=>e⟩
   ·exact⟨z,(hget _ _).2 (.inr ⟨rfl,rfl⟩),rfl,rfl,fun e=>e⟩
  ·rintro⟨q,h1,h2,h3,_⟩;rcases(hget _ _).1 h1 with h4 | ⟨h4,rfl⟩
   ·exact .inl ⟨⟨q,h4,h2,h3⟩,fun e=>by have:=(zE.1 h4).1;omega⟩
   ·refine .inr ?_
    cases t
    simp at h2 h3 h4;rw[h2,h3,h4]
 ·have hy':y∈zu (s.L++[some z]):=hy;rw[hlive]at hy';rcases yz.1 hy' with k1 | k1
  ·obtain⟨k2,k3⟩:=h.ok y k1;exact⟨k2,by show y.birth≤z.birth;omega⟩
  ·rw[zF.1 k1];exact⟨hz,zI _⟩
 ·show(zu (s.L++[some z])).Pairwise _
  rw[hlive,qd];refine⟨h.inc,by simp,fun a ha b hb' => ?_⟩;rw[zF.1 hb'];have:=(h.ok a ha).2;omega
 ·show(zu (s.L++[some z])).Pairwise _
  rw[hlive,qd];refine⟨h.keys,by simp,fun a ha b hb' => ?_⟩;rw[zF.1 hb'];exact hk a ha
 ·obtain⟨a,b,c⟩:=h.evo v hv;exact⟨a,b,by show v.e.birth≤z.birth;omega⟩
 ·show(s.L++[some z]).length≤z.birth∧z.birth≤16
  have:=h.len;rw[zV]
  show _+1≤_∧_
  omega
 ·unfold jo Kp zK;dsimp only;rw[hlive,vh];have e1:s.A.map (xw (s.L++[some z]))=s.A.map (xw s.L):=uu (fun y hy=>hbw y (xT _ hy));have e2:s.B.map (xw (s.L++[some z]))=s.B.map (xw s.L):=uu (fun y hy=>hbw y (xM _ hy));have e3:[(⟨s.L.length,z.cost⟩:Wt)].map (xw (s.L++[some z]))=[⟨z.birth,z.cost⟩]:=by
   show[xw (s.L++[some z]) ⟨s.L.length,z.cost⟩]=_
   unfold xw;rw[ug (x:=z) (by simp)]
  rw[e1,e2,e3]
def KK(s:CaS)(c:Cfg)(mc mb:Nat):CaS := {s with cfg:=c,lim:=c.part,mc:=mc,mb:=mb,A:=(dem c.part s.A s.B).1,B:=(dem c.part s.A s.B).2.1,U:=Bu.of (dem c.part s.A s.B).1 (dem c.part s.A s.B).2.1}
def zbz(t:Bst)(c:Cfg):Bst := {t with cfg:=c,A:=(dem c.part t.A t.B).1,B:=(dem c.part t.A t.B).2.1}
theorem CaI.res(h:CaI NoP s){c:Cfg}{mc mb:Nat}(hc:c.ok)(h1:c.count=mc)(h2:c.bytes=mb):CaI NoP (KK s c mc mb)∧zK (KK s c mc mb)=zbz (zK s) c:=by
 have e:=Jg c.part s.A s.B;refine⟨⟨hc,rfl,h1,h2,rfl,?_,fun y => ?_,h.due,h.md,h.ok,h.inc,h.keys,h.evo,h.evt,h.now64,h.b64,h.len⟩,?_⟩
 ·show(zA ((dem c.part s.A s.B).1++(dem c.part s.A s.B).2.1)).Nodup
  rw[e];exact h.nd
 ·show y∈(dem c.part s.A s.B).1++(dem c.part s.A s.B).2.1↔_
  rw[e];exact h.ab y
 ·obtain⟨u1,u2⟩:=VZ (lim:=c.part) (f:=yP s.L) (A:=s.A) (B:=s.B);unfold KK zbz zK;dsimp only;have ea:s.A.map (xw s.L)=s.A.map (fun y=>(⟨yP s.L y.slot,y.cost⟩:Wt)):=rfl;exact Azatb
end
def zM(Fo:Nat→Prop)(w:World)(D:Nat→Prop)(p:Nat)(t:Bst):Prop :=
 ∃ b s,zr Fo w b s∧CaI NoP s∧b.p=p∧b.D=D∧zK s=t∧s.L.length≤2*(zu s.L).length+16∧s.evs.length≤1048576∧s.evs.length+(zu s.L).length≤1048577
def vD(Fo:Nat→Prop)(w:World)(D:Nat→Prop)(p:Nat)(t:Bst)(w':World):Prop := ∃ D',zM Fo w' D' p t∧Mod D w w'∧yo D D' w
def vj(t:Bst):Int:=if 1048576<t.evs.length+t.E.length then 7 else 0
def um(t:Bst)(key:ByteArray):Option CE:=t.E.find? (fun x=>decide (x.key=key))
def jm(t:Bst)(tt:Nat):Bst:=vO (yW t tt) 0
section
variable{Fo:Nat→Prop}{w w':World}{b:CaB}{s:CaS}{D:Nat→Prop}{p:Nat}{t:Bst}
theorem zM.pure(h:zM Fo w D p t)(hp:zc w w'):zM Fo w' D p t:=by
 obtain⟨b,s,h1,h2⟩:=h;exact⟨b,s,h1.pure hp,h2⟩
theorem zM.lt(h:zM Fo w D p t){k:Nat}(hk:D k):k<w.heap.size:=by
 obtain⟨b,s,h1,h2,_,e,_⟩:=h;subst e;exact h1.lt hk
theorem zM.beside{S:Nat→Prop}(h:zM Fo w D p t)(hm:Mod S w w')(hd : ∀ k,D k → ¬ S k)(hS : ∀ k,k<w.heap.size→S k→Fo k ∨ ∀ cs fz,w.heap[k]? ≠ some (.cells cs 5 fz))(h0 : ¬ S 0):zM Fo w' D p t:=by
 obtain⟨b,s,h1,h2,h3,e,h4⟩:=h;subst e;exact⟨b,s,h1.beside hm hd hS h0,h2,h3,rfl,h4⟩
theorem vD.trans{w1 w2:World}{D1:Nat→Prop}{t2:Bst}(hm:Mod D w w1)(hg:yo D D1 w)(h:vD Fo w1 D1 p t2 w2):vD Fo w D p t2 w2:=by
 obtain⟨D2,h1,h2,h3⟩:=h;refine⟨D2,h1,Mod.trans' hm h2 (fun _ _ e=>e) (fun i hi e=>(hg i e).elim (fun e=>e) (fun e=>by omega)),fun k hk => ?_⟩;rcases h3 k hk with e | e
 ·exact hg k e
 ·exact .inr (zH hm.size e)
theorem CaI.noKey(h:CaI NoP s)(c:Nat)(hc:4194304≤c) : ∀ y∈s.A++s.B,yP s.L y.slot=0↔y.slot=c:=fun y hy=>by
 obtain⟨x,hx,_⟩:=(h.ab y).1 hy;rw[ug hx];have h1:=(h.ok x (xX.2 ⟨_,hx⟩)).1.b0;have h2:=h.sl_lt hx;exact⟨fun e=>by omega,fun e=>by omega⟩
theorem CaI.find_some(h:CaI NoP s){key:ByteArray}{x:CE}(hf:um (zK s) key=some x) : ∃ sl,yV (zS s.L) key=some sl∧s.L[sl]? = some (some x)∧x.key=key:=by
 unfold um at hf;have hx:x∈zu s.L:=Zx hf;have hk:x.key=key:=by simpa using Vv hf
 obtain⟨i,hi⟩:=xX.1 hx
 cases hfk:yV (zS s.L) key with
 | none =>
  unfold yV at hfk;have h1:=UE.1 hfk (some x.ent) (yl (XA hi));rw[Kl.2 ⟨x.ent,rfl,hk⟩]at h1
  cases h1
 | some sl =>
  obtain⟨e,he,hke⟩:=VA hfk;unfold zS at he;rw[yC]at he
  cases ho:s.L[sl]? with
  | none=>rw[ho]at he;cases he
  | some o =>
   rw[ho]at he
   cases o with
   | none=>simp at he
   | some z =>
    have hz:z.ent=e:=by simpa using he
    have hzk:z.key=key:=by rw[← hke,← hz]
    have hzm:z∈zu s.L:=xX.2 ⟨sl,ho⟩;have hxz:z=x:=by
     have hkeys:=h.keys;rcases List.getElem_of_mem hzm with⟨i1,l1,e1⟩
     rcases List.getElem_of_mem hx with⟨i2,l2,e2⟩
     have hp:=VU.1 hkeys;rcases qV i1 i2 with c | c | c
     ·exact absurd (by rw[e1,e2,hzk,hk]) (hp i1 i2 l1 l2 c)
     ·subst c;rw[← e1,e2]
     ·exact absurd (by rw[e1,e2,hzk,hk]) (hp i2 i1 l2 l1 c)
    exact⟨sl,rfl,by rw[← hxz];exact ho,hk⟩
theorem CaI.find_none(_:CaI NoP s){key:ByteArray}(hf:um (zK s) key=none):yV (zS s.L) key=none ∧ ∀ x∈zu s.L,x.key≠key:=by
 unfold um at hf;have hn : ∀ x∈zu s.L,x.key≠key:=fun x hx e=>by
  have:=qm.1 hf x hx;simp[e]at this
 refine⟨?_,hn⟩
 cases hfk:yV (zS s.L) key with
 | none=>rfl
 | some sl =>
  obtain⟨e,he,hke⟩:=VA hfk;unfold zS at he;rw[yC]at he
  cases ho:s.L[sl]? with
  | none=>rw[ho]at he;cases he
  | some o =>
   rw[ho]at he
   cases o with
   | none=>simp at he
   | some z =>
    have hz:z.ent=e:=by simpa using he
    exact absurd (by rw[← hke,← hz]) (hn z (xX.2 ⟨sl,ho⟩))
theorem qi(s:CaS):ub s=vj (zK s):=by
 unfold ub vj zK;dsimp only;rw[← zhq]
theorem jN(h:vj (zK s)=0):s.evs.length+(zu s.L).length≤1048576:=by
 unfold vj at h;split at h
 ·cases h
 ·rename_i c;show(zK s).evs.length+(zK s).E.length≤_;omega
theorem Xa(hi:qx t.E)(tt:Nat):(yW t tt).sum=t.sum∧qx (yW t tt).E∧(yW t tt).E.length≤t.E.length∧(yW t tt).now=max t.now tt∧(yW t tt).cfg=t.cfg∧(yW t tt).births=t.births :=
 KL (t := {t with now:=max t.now tt}) hi
theorem zb9(hi:qx t.E)(k:Nat):(vO t k).sum=t.sum∧qx (vO t k).E∧(vO t k).E.length≤t.E.length∧(vO t k).now=t.now∧(vO t k).cfg=t.cfg∧(vO t k).births=t.births:=KL hi
theorem CaI.exp_sum(h:CaI NoP s){tt:Nat}(ht:tt≤18446744073709551615)(hr:vj (zK s)=0):(zl s tt).evs.length+(zu (zl s tt).L).length≤1048576∧(zu (zl s tt).L).length≤(zu s.L).length:=by
 have h1:=jN hr;obtain⟨_,_,h2⟩:=h.exp ht h1;obtain⟨h3,_,h4,_⟩:=Xa (t:=zK s) h.inc tt;rw[← h2]at h3 h4;exact⟨by show(zK (zl s tt)).sum≤_;rw[h3];exact h1,h4⟩
theorem CaI.fin(h:CaI NoP s)(hn:s.evs.length+(zu s.L).length≤1048576){t2:Bst}(ht:zK s=t2) :
  uh s yF∧CaI NoP (pkS (evS s yF))∧zK (pkS (evS s yF))=vO t2 0∧(pkS (evS s yF)).L.length≤2*(zu (pkS (evS s yF)).L).length+16∧(pkS (evS s yF)).evs.length≤1048576∧(pkS (evS s yF)).evs.length+(zu (pkS (evS s yF)).L).length≤1048577:=by
 subst ht;obtain⟨h1,h2,h3,h4,_⟩:=h.run (keep:=yF) (keepN:=0) (h.noKey yF (by decide)) (.inl hn);obtain⟨k1,_,_⟩:=zb9 (t:=zK s) h.inc 0;rw[← h3]at k1;have k2:(pkS (evS s yF)).evs.length+(zu (pkS (evS s yF)).L).length=s.evs.length+(zu s.L).length:=k1;exact⟨h1,h2,h3,h4,by omega,by omega⟩
theorem zM.of{b':CaB}{s':CaS}{t':Bst}(hC:zr Fo w' b' s')(hT:zv w w' b b')(hi:CaI NoP s'∧zK s'=t'∧s'.L.length≤2*(zu s'.L).length+16∧s'.evs.length≤1048576∧s'.evs.length+(zu s'.L).length≤1048577):vD Fo w b.D b.p t' w' :=
 ⟨b'.D,⟨b',s',hC,hi.1,hT.p,rfl,hi.2⟩,hT.mod,hT.grew⟩
theorem zM.adv(h:zM Fo w D p t){tt:Nat}(ht:tt≤18446744073709551615)(hr:vj t=0):Calls prog 45 #[lkP p,.int .u64 tt] w fun e w'=>e=.returned (.int .i64 0)∧vD Fo w D p (jm t tt) w':=by
 obtain⟨b,s,h1,h2,rfl,rfl,rfl,h3,h4,h5⟩:=h;obtain⟨k1,k2,k3⟩:=h2.exp ht (jN hr);obtain⟨q1,q2⟩:=k2.fin (h2.exp_sum ht hr).1 k3;refine(zh9 h1 ht h4 ((qi s).trans hr) k1 q1).mono ?_;rintro e w' ⟨rfl,b',hC,hT⟩;exact⟨rfl,zM.of hC hT q2⟩
def uT(key:ByteArray)(t:Bst):Int:=xP [jv key,vj t]
theorem XY{key:ByteArray}(h:uT key t=0):jv key=0∧vj t=0:=by
 unfold uT at h;have e:xP [jv key,vj t]=if jv key=0 then(if vj t=0 then 0 else vj t)else jv key:=rfl
 rw[e]at h;by_cases c:jv key=0
 ·rw[zk c]at h;by_cases c2:vj t=0
  ·exact⟨c,c2⟩
  ·rw[zh c2]at h;exact absurd h c2
 ·rw[zh c]at h;exact absurd h c
def Xu(t:Bst)(tt:Nat)(key:ByteArray):Bool × Bst:=match um (yW t tt) key with
 | some x=>(true,vO (vB 4 (yW t tt) x.birth) 0)
 | none=>(false,jm t tt)
theorem zM.del(h:zM Fo w D p t){tt:Nat}(ht:tt≤18446744073709551615){key:ByteArray}(hk:key.size≤140737488355328)(hr:uT key t=0) :
  Calls prog 47 #[lkP p,.int .u64 tt,.string key] w fun e w'=>e=.returned (.tuple #[.bool (Xu t tt key).1,.int .i64 0])∧vD Fo w D p (Xu t tt key).2 w':=by
 obtain⟨hkE,hr⟩:=XY hr;obtain⟨b,s,h1,h2,rfl,rfl,rfl,h3,h4,h5⟩:=h;obtain⟨k1,k2,k3⟩:=h2.exp ht (jN hr);have hn:=(h2.exp_sum ht hr).1;unfold Xu;rw[← k3]
 cases hl:um (zK (zl s tt)) key with
 | none =>
  obtain⟨q1,q2⟩:=k2.fin hn k3;refine(zdo h1 ht h4 ((qi s).trans hr) k1 hk hkE (k2.find_none hl).1 q1).mono ?_;rintro e w' ⟨rfl,b',hC,hT⟩;exact⟨rfl,zM.of hC hT q2⟩
 | some x =>
  obtain⟨sl,f1,f2,f3⟩:=k2.find_some hl;have hev:=k2.evOk (k:=4) (by decide) (xX.2 ⟨_,f2⟩);obtain⟨l1,l2⟩:=k2.lv f2 hev;have l3:(xg 4 (zl s tt) sl).evs.length+(zu (xg 4 (zl s tt) sl).L).length≤1048576:=by
   have e:=(QY (k:=4) (t:=zK (zl s tt)) (n:=x.birth) k2.inc).1;rw[← l2]at e
   show(zK (xg 4 (zl s tt) sl)).sum≤_
   rw[e];exact hn
  obtain⟨q1,q2⟩:=l1.fin l3 l2;have hlive:0<(zu (zl s tt).L).length:=Us (xX.2 ⟨_,f2⟩);refine(zdt h1 ht h4 ((qi s).trans hr) k1 hk hkE f1 ⟨x,f2,(k2.ab ⟨sl,x.cost⟩).2 ⟨x,f2,rfl⟩,hev,by omega,k2.U⟩ q1).mono ?_;rintro e w' ⟨rfl,b',hC,hT⟩;exact⟨rfl,zM.of hC hT q2⟩
def vA(t:Bst):Bst := {t with evs:=[]}
theorem zM.drain(h:zM Fo w D p t):Calls prog 37 #[lkP p] w fun e w' => ∃ a c es,e=.returned (.slice a t.evs.length c)∧es.map Prod.fst=t.evs∧KU w' a c es∧vf w (.slice a t.evs.length c)∧vD Fo w D p (vA t) w':=by
 obtain⟨b,s,h1,h2,rfl,rfl,rfl,h3,h4,h5⟩:=h;refine(zkW h1 h4).mono ?_;rintro e w' ⟨a,c,es,rfl,k1,k2,k3,b',hC,hT⟩;refine⟨a,c,es,rfl,k1,k2,k3,zM.of hC hT ⟨⟨h2.cfg,h2.lim,h2.mc,h2.mb,h2.U,h2.nd,h2.ab,h2.due,h2.md,h2.ok,h2.inc,h2.keys,fun v hv=>(by cases hv),List.Pairwise.nil,h2.now64,h2.b64,h2.len⟩,rfl,h3,yi _,?_⟩⟩
 show 0+(zu s.L).length≤_
 omega
theorem zM.now_(h:zM Fo w D p t):Calls prog 93 #[lkP p] w fun e w'=>e=.returned (.int .u64 t.now)∧w=w':=by
 obtain⟨b,s,h1,h2,rfl,rfl,rfl,_⟩:=h;exact zfq h1
def zlP(t:Bst):Nat:=Kw (YN t.E)
theorem zM.births(h:zM Fo w D p t):Calls prog 156 #[lkP p] w fun e w'=>e=.returned (.int .u64 t.births)∧w=w':=by
 obtain⟨b,s,h1,h2,rfl,rfl,rfl,_⟩:=h;exact zdp h1
end
section
variable{Fo:Nat→Prop}{w w':World}{b:CaB}{s:CaS}
def TcS(p c1 j bx i:Nat)(pt v:Value)(Y:World):Prop:=Y.cell? ⟨c1,0,none⟩=some (lkP p)∧Y.cell? ⟨p,j,none⟩=some pt∧Y.cell? ⟨bx,i,none⟩=some v
theorem zhR(L:List (Option CE))(i:Nat)(z:CE):zS (L.set i (some z))=(zS L).set i (some z.ent):=by unfold zS;rw[YM];rfl
end

structure StC(w:World)(p:Nat)(key:ByteArray)(f v:Value)(cost q0 q4:Nat):Prop where
 z0:w.heap[q0]? = some (.cells #[lkP p] 46 (0,0))
 z1:w.heap[q0+1]? = some (.cells #[.string key] 9 (0,0))
 z2:w.heap[q0+2]? = some (.cells #[v] 32 (0,0))
 z3:w.heap[q0+3]? = some (.cells #[f] 117 (0,0))
 z4:w.heap[q4]? = some (.cells #[.int .i64 cost] 3 (0,0))
structure StN(D:Nat→Prop)(q0 q4:Nat):Prop where
 z0 : ¬ D q0
 z1 : ¬ D (q0+1)
 z2 : ¬ D (q0+2)
 z3 : ¬ D (q0+3)
 z4 : ¬ D q4
abbrev stA(q0 q4:Nat):Array Value:=#[.pointer (some ⟨q0,0,none⟩),.pointer (some ⟨q0+1,0,none⟩),.pointer (some ⟨q0+3,0,none⟩),.pointer (some ⟨q0+2,0,none⟩),.pointer (some ⟨q4,0,none⟩)]
section
variable{Fo S:Nat→Prop}{w w':World}{b:CaB}{s:CaS}{p cost q0 q4:Nat}{key:ByteArray}{f v:Value}
theorem StC.mod(h:StC w p key f v cost q0 q4)(hm:Mod S w w')(hn:StN S q0 q4):StC w' p key f v cost q0 q4 :=
 ⟨hm.heap hn.z0 h.z0,hm.heap hn.z1 h.z1,hm.heap hn.z2 h.z2,hm.heap hn.z3 h.z3,hm.heap hn.z4 h.z4⟩
theorem StC.pure(h:StC w p key f v cost q0 q4)(hm:zc w w'):StC w' p key f v cost q0 q4:=h.mod hm ⟨fun e=>e,fun e=>e,fun e=>e,fun e=>e,fun e=>e⟩
theorem StN.sub{D D':Nat→Prop}(h:StN D q0 q4)(hd : ∀ k,D' k→D k):StN D' q0 q4:=⟨fun e=>h.z0 (hd _ e),fun e=>h.z1 (hd _ e),fun e=>h.z2 (hd _ e),fun e=>h.z3 (hd _ e),fun e=>h.z4 (hd _ e)⟩
theorem StN.to{b':CaB}(h:StN b.D q0 q4)(ht:zv w w' b b')(hc:StC w p key f v cost q0 q4):StN b'.D q0 q4 :=
 ⟨ht.nd h.z0 (zm hc.z0),ht.nd h.z1 (zm hc.z1),ht.nd h.z2 (zm hc.z2),ht.nd h.z3 (zm hc.z3),ht.nd h.z4 (zm hc.z4)⟩
def zdj(Fo:Nat→Prop)(w:World)(b:CaB)(sl:Nat)(s':CaS)(e:Ending)(w':World):Prop:=e=.returned (.int .u32 (sl:Nat)) ∧ ∃ b',zr Fo w' b' s'∧zv w w' b b'
def jc(s:CaS)(sl:Nat)(x z:CE):CaS:=Xz {s with evs:=s.evs++[⟨3,x,s.now⟩]} sl z
theorem zgR(h:zr Fo w b s)(hi:CaI NoP s){gf:Nat}{lf:Array Value}{a:Option Addr}{n c:Nat}(hc:StC w b.p key (.func (.func gf) #[] lf) (.slice a n c) cost q0 q4)(hnc:StN b.D q0 q4){vs:List UInt8}(hv:zo w (.slice a n c) 1 (zQ vs))(hvn : ∀ g,vE (.slice a n c)=some g → ¬ b.D g)(hvl:vs.length≤65536)(hk:key.size≤140737488355328){sl:Nat}{x:CE}(hf:yV (zS s.L) key=some sl)(hx:s.L[sl]? = some (some x))(hkx:x.key=key)(hcost:cost=key.size+vs.length+48){dl:Nat}(hdl:dl≤18446744073709551615)(hd:s.now<dl∨dl=18446744073709551615)(hev:s.evs.length<1048576)(hn:(s.A++s.B).length≤1048577)
  (eg : ∀ args w,(callFunc gf args).run prog w=.ok (.enter gf args) w) (hF : ∀ W,zc w W→Calls prog gf lf W (fun e w'=>e=.returned (.int .u64 dl)∧zc W w')) :
  Calls prog 123 (stA q0 q4) w (zdj Fo w b sl (jc s sl x ⟨key,vs,dl,x.birth⟩)):=by
 subst hcost;have hxo:=(hi.ok x (xX.2 ⟨_,hx⟩)).1;have hy:(⟨sl,x.cost⟩:Wt)∈s.A++s.B:=(hi.ab ⟨sl,x.cost⟩).2 ⟨x,hx,rfl⟩;have hsl:=hi.sl_lt hx;have hevo:=hi.evOk (k:=3) (by decide) (xX.2 ⟨_,hx⟩);have hfv:uP (zS s.L) key=(sl,0):=by unfold uP;rw[hf]
 have HFi:=za (fun(Y:World) (hY:zc w Y)=>Uq (h.dict.pure hY) key hk);unfold ZU at HFi;rw[hfv]at HFi;have HH:=za h;have HCC:=za hc;have HNC:=za hnc;have HV:=za hv;have HVN:=za hvn;have HVL:=za hvl;have HF:=za hF;have HX:=za hx;have HY:=za hy;have HU:=za hi.U;have HCF:=za hi.cfg;have HLI:=za hi.lim;have HNN:=za hn;have HSL:=za hsl;have HXO:=za hxo;have HD64:=za hdl;have HEV:=za hev;have HEO:=za hevo;have HKX:=za hkx;have HK250:=za hxo.k1;rw[hkx]at HK250;have HR0:=za (hi.hit (z:=⟨key,vs,dl,x.birth⟩) hx rfl hkx.symm ⟨by rw[← hkx];exact hxo.k0,by rw[← hkx];exact hxo.k1,hvl,hdl,hxo.b0,hxo.b1⟩ hd).2.2;have HS:=za (fun(Y:World) (hY:zc w Y)=>(⟨zi Y q0 0 _ _ (0,0) (hY.heap (fun h=>h) hc.z0),zi Y b.p 0 _ _ (0,0) (hY.heap (fun h=>h) h.box),zi Y (q0+1) 0 _ _ (0,0) (hY.heap (fun h=>h) hc.z1)⟩:FdS b.p b.d q0 key Y));obtain⟨co,hco⟩:=zf (key.size+vs.length+48);have HCO:=za hco;rw[hco]at HCC;clear h hi hc hnc hv hvn hvl hk hf hx hkx hdl hd hev hn hF hxo hy hsl hevo hfv hco;go_enter func123,ntmps123;go_upto_region 1 with fail
 refine rHd (S:=FdS b.p b.d q0 key) (HS.out _ (Mod.refl _ _).drew) (fun h_ => ?_);refine hLd 0 ?_;refine hTk 1 ?_;refine hTk 2 ?_;refine hTk 3 ?_;refine hLd 4 ?_;refine hLd 5 ?_
 (refine hSt 6 (fun K hK => ?_);go_simp;refine zq (HFi.out _ (Mod.refl _ _).drew) ?_;rintro e u1 ⟨rfl,hq1⟩;refine hK.out _ _ ?_ (fun h_ => ?_);(· exact HS.out _ ((Mod.refl (fun _=>False) w).drew.trans hq1));clear hK K;refine clA ?_)
 refine hTk 7 ?_;refine hTk 8 ?_;refine hTk 9 ?_;refine hTk 10 ?_;refine hTk 11 ?_;refine hDn ?_;clear h_;have hp1:zc w u1:=(Mod.refl (fun _=>False) w).drew.trans hq1;have HP1:=za hp1;have z3:=hp1.heap (fun h=>h) HCC.out.z3;have HFu:=za (HF.out _ hp1);clear hq1 hp1 HFi HS;obtain⟨z3_0,z3_f,z3_l,H_z3⟩:=cr1 z3;clear z3;go_upto_region 3 with(go_at_fn gf;refine HFu.out.mono ?_;rintro e u2 ⟨rfl,hp2⟩)
 clear z3_0 z3_f z3_l;clear H_z3;have HP2:=za (HP1.out.trans hp2);clear hp2 HP1 HFu HF;have z0:=HP2.out.heap (fun h=>h) HCC.out.z0;have C2:=HH.out.pure HP2.out;have hb2:=C2.box;have HG:=za (zcw C2.dict (XA HX.out));have HC2:=za C2;clear C2;obtain⟨hb2_0,hb2_1,hb2_2,hb2_3,hb2_4,hb2_5,hb2_6,hb2_7,hb2_8,hb2_9,hb2_10,hb2_f,hb2_l,H_hb2⟩:=vg hb2;clear hb2;obtain⟨z0_0,z0_f,z0_l,H_z0⟩:=cr1 z0;clear z0;go_upto_region 5 with(go_at_call 76;refine HG.out.mono ?_;rintro e w2 ⟨ax,nx,cx,rfl,hby,hfr,hp2⟩)
 clear hb2_0 hb2_1 hb2_2 hb2_3 hb2_4 hb2_5 hb2_6 hb2_7 hb2_8 hb2_9 hb2_10 hb2_f hb2_l;clear z0_0 z0_f z0_l;clear H_hb2 H_z0;have hal:zc w2 (w2.alloc (.cells #[.string x.key,.slice ax nx cx,.int .u64 x.dl,.int .u64 x.birth] 141)):=(Mod.refl _ w2).alloc _;have hbx:=zj (w:=w2) (o := .cells #[.string x.key,.slice ax nx cx,.int .u64 x.dl,.int .u64 x.birth] 141 (0,0)) rfl;have hp3:=HP2.out.trans (hp2.trans hal);have hby3:=zy hby hal (fun _ _ h=>h);have hsz2:=(HP2.out.trans hp2).size;have C3:=HC2.out.pure (hp2.trans hal);generalize w2.alloc (.cells #[.string x.key,.slice ax nx cx,.int .u64 x.dl,.int .u64 x.birth] 141)=W3 at *;obtain⟨bx,hbe⟩:=zf w2.heap.size;rw[hbe]at hbx hsz2 ⊢;have HT:=za (QF C3 (x:=⟨3,x,s.now⟩) HEO.out rfl HEV.out (yq.read hby3 (jn x.val)));have hnx : ¬ b.D bx:=fun e=>by have:=HH.out.lt e;omega
 have HNX:=za hnx;have HBX:=za hbx;have HP3:=za hp3;have HC3:=za C3;have z0:=hp3.heap (fun h=>h) HCC.out.z0;clear hbe hal hp2 hby hfr hsz2 hp3 HG hby3 C3 hnx HC2 HP2;obtain⟨hbx_0,hbx_1,hbx_2,hbx_3,hbx_f,hbx_l,H_hbx⟩:=cr4 hbx;clear hbx;obtain⟨z0_0,z0_f,z0_l,H_z0⟩:=cr1 z0;clear z0;go_upto_region 6 with(go_at_call 124;refine HT.out.mono ?_;rintro e w4 ⟨rfl,b4,C4,T4⟩)
 clear hbx_0 hbx_1 hbx_2 hbx_3 hbx_f hbx_l;clear z0_0 z0_f z0_l;clear H_hbx H_z0 HT
 -- the value is laid in
 have HCC4:=za ((HCC.out.pure HP3.out).mod T4.mod HNC.out);have HNC4:=za (HNC.out.to T4 (HCC.out.pure HP3.out));have HBX4:=za (T4.mod.heap HNX.out HBX.out);have HNX4:=za (T4.nd HNX.out (zm HBX.out));have HV3:=za (HV.out.frame HP3.out (fun _ _ h=>h));have HV4:=za (HV3.out.frame T4.mod HVN.out);have HC4:=za C4;have HT4:=za T4;clear C4 T4;have hp5:zc w4 w4.drew:=(Mod.refl (fun _=>False) w4).drew;have hst:=zj0 (HC4.out.pure hp5).dict (s:=sl) (x:=x.ent) (XA HX.out) a n c vs (HV4.out.frame hp5 (fun _ _ h=>h)) HVL.out (dl:Int);have e5:(zS s.L).set sl (some (x.ent.with vs (dl:Int)))=zS (s.L.set sl (some ⟨x.key,vs,dl,x.birth⟩)):=(zhR s.L sl ⟨x.key,vs,dl,x.birth⟩).symm;dsimp only at hst;rw[e5]at hst;have HST:=za hst;have hb4:=(HC4.out.pure hp5).box;rw[HT4.out.p]at hb4;have HS2:=za (⟨zi w4.drew q0 0 _ _ (0,0) (hp5.heap (fun h=>h) HCC4.out.z0),zi w4.drew b.p 0 _ _ (0,0) hb4,zi w4.drew (q0+2) 0 _ _ (0,0) (hp5.heap (fun h=>h) HCC4.out.z2)⟩:TcS b.p q0 0 (q0+2) 0 (xt b4.d) (.slice a n c) w4.drew);clear hst e5 hb4 hp5;refine rHd (S:=TcS b.p q0 0 (q0+2) 0 (xt b4.d) (.slice a n c)) HS2.out (fun h_ => ?_);refine hLd 0 ?_;refine hTk 1 ?_;refine hTk 2 ?_;refine hTk 3 ?_;refine hLd 4 ?_;refine hTk 5 ?_;refine hLd 6 ?_;refine hTk 7 ?_
 (refine hSt 8 (fun K hK => ?_);go_simp;refine HST.out.mono ?_;rintro e u5 ⟨rfl,hr5,hm5⟩;refine hK.out _ _ ?_ (fun h_ => ?_);(· exact⟨hm5.cell (a:=⟨q0,0,none⟩) (fun e=>HNC4.out.z0 (.inr (.inl e))) h_.1,hm5.cell (a:=⟨b.p,0,none⟩) (fun e=>by have e2:b4.cl b.p=2:=HC4.out.sep.d _ e;rw[← HT4.out.p,HC4.out.sep.p]at e2;cases e2) h_.2.1,hm5.cell (a:=⟨q0+2,0,none⟩) (fun e=>HNC4.out.z2 (.inr (.inl e))) h_.2.2⟩);clear hK K;refine clA ?_)
 refine hDn ?_;clear h_;have hm5':Mod b4.Dd w4 u5:=Mod.trans' ((Mod.refl (fun _=>False) w4).drew) hm5 (fun _ _ h=>h.elim) (fun _ _ h=>h);obtain⟨b5,C5,T5⟩ : ∃ b5,zr Fo u5 b5 {s with evs:=s.evs++[⟨3,x,s.now⟩],L:=s.L.set sl (some ⟨x.key,vs,dl,x.birth⟩)}∧zv w4 u5 b4 b5:=⟨_,HC4.out.putDict (L':=s.L.set sl (some ⟨x.key,vs,dl,x.birth⟩)) hr5 hm5' (fun _ h => .inl h),zv.ofDict hm5' (fun _ h => .inl h)⟩;have HC5:=za C5;have HT5:=za T5;have HTT5:=za (HT4.out.trans T5);have HBX5:=za (T5.mod.heap HNX4.out HBX4.out);have HCC5:=za (HCC4.out.mod T5.mod HNC4.out);have HNC5:=za (HNC4.out.to T5 HCC4.out);have HNX5:=za (T5.nd HNX4.out (zm HBX4.out));clear hr5 hm5 hm5' C5 T5 HST HS2 HC4 HBX4 HCC4 HNC4 HNX4 HV4 HV3;go_upto_region 7 with fail
 have hp6:zc u5 u5.drew:=(Mod.refl (fun _=>False) u5).drew;have hds:=(HC5.out.pure hp6).due.set (s:=sl) (dl:=dl) (b:=x.birth) (by have:=HSL.out;omega) HD64.out HXO.out.b1 HR0.out;have HDS:=za hds;have hb5:=(HC5.out.pure hp6).box;rw[HTT5.out.p]at hb5;have HS3:=za (⟨zi u5.drew q0 0 _ _ (0,0) (hp6.heap (fun h=>h) HCC5.out.z0),zi u5.drew b.p 4 _ _ (0,0) hb5,zi u5.drew bx 3 _ _ (0,0) (hp6.heap (fun h=>h) HBX5.out)⟩:TcS b.p q0 4 bx 3 (lkP b5.t) (.int .u64 x.birth) u5.drew);clear hb5 hp6 hds;refine rHd (S:=TcS b.p q0 4 bx 3 (lkP b5.t) (.int .u64 x.birth)) HS3.out (fun h_ => ?_);refine hLd 0 ?_;refine hTk 1 ?_;refine hTk 2 ?_;refine hTk 3 ?_;refine hLd 4 ?_;refine hTk 5 ?_;refine hTk 6 ?_;refine hTk 7 ?_;refine hLd 8 ?_
 (refine hSt 9 (fun K hK => ?_);go_simp;refine HDS.out.mono ?_;rintro e u6 ⟨rfl,⟨D6,hr6,hg6⟩,hm6⟩;refine hK.out _ _ ?_ (fun h_ => ?_);(· exact⟨hm6.cell (a:=⟨q0,0,none⟩) (fun e=>HNC5.out.z0 (.inr (.inr (.inr (.inr (.inr (.inl e))))))) h_.1,hm6.cell (a:=⟨b.p,4,none⟩) (fun e=>by have e2:b5.cl b.p=6:=HC5.out.sep.t _ e;rw[← HTT5.out.p,HC5.out.sep.p]at e2;cases e2) h_.2.1,hm6.cell (a:=⟨bx,3,none⟩) (fun e=>HNX5.out (.inr (.inr (.inr (.inr (.inr (.inl e))))))) h_.2.2⟩);clear hK K;refine clA ?_)
 refine hDn ?_;clear h_;have hm6':Mod b5.Dt u5 u6:=Mod.trans' ((Mod.refl (fun _=>False) u5).drew) hm6 (fun _ _ h=>h.elim) (fun _ _ h=>h);obtain⟨b6,C6,T6⟩ : ∃ b6,zr Fo u6 b6 {s with evs:=s.evs++[⟨3,x,s.now⟩],L:=s.L.set sl (some ⟨x.key,vs,dl,x.birth⟩),M:=kN s.now s.M sl dl x.birth}∧zv u5 u6 b5 b6:=⟨_,HC5.out.putDue hr6 hm6' hg6,zv.ofDue hm6' hg6⟩;have HTT6:=za (HTT5.out.trans T6);have hco2:co≤1099511627776:=by have:=HCO.out;have:=HK250.out;have:=HVL.out;omega
 have HUse:=za (Qm C6 (y:=⟨sl,x.cost⟩) HY.out (nc:=co) hco2 HU.out HCF.out HLI.out HNN.out);rw[HTT6.out.p]at HUse;dsimp only at HUse;have h06:=T6.mod.heap HNC5.out.z0 HCC5.out.z0;have h46:=T6.mod.heap HNC5.out.z4 HCC5.out.z4;have HC6:=za C6;clear hr6 hg6 hm6 hm6' C6 T6 HDS HS3 HC5 HT5 HBX5 HCC5 HNC5 hco2;obtain⟨h46_0,h46_f,h46_l,H_h46⟩:=cr1 h46;clear h46;obtain⟨h06_0,h06_f,h06_l,H_h06⟩:=cr1 h06;clear h06
 go_wp2_with (go_at_call 78;refine HUse.out.mono ?_;rintro e w7 ⟨rfl,b7,C7,T7⟩)
 go_ret;refine⟨rfl,b7,?_,(zv.pure HP3.out).trans (HTT6.out.trans T7)⟩;unfold jc Xz;have ez:(⟨key,vs,dl,x.birth⟩:CE).cost=co:=HCO.out;rw[ez];rw[HKX.out]at C7;exact C7
end
section
variable{Fo S:Nat→Prop}{w w':World}{b:CaB}{s:CaS}{p cost q0 q4:Nat}{key:ByteArray}{f v:Value}
def SnS(p d q0:Nat)(key:ByteArray)(v:Value)(Y:World):Prop:=Y.cell? ⟨q0,0,none⟩=some (lkP p)∧Y.cell? ⟨p,0,none⟩=some (xt d)∧Y.cell? ⟨q0+1,0,none⟩=some (.string key)∧Y.cell? ⟨q0+2,0,none⟩=some v
theorem zd6(h:zr Fo w b s)(hi:CaI NoP s){gf:Nat}{lf:Array Value}{a:Option Addr}{n c:Nat}(hc:StC w b.p key (.func (.func gf) #[] lf) (.slice a n c) cost q0 q4)(hnc:StN b.D q0 q4){vs:List UInt8}(hv:zo w (.slice a n c) 1 (zQ vs))(hvn : ∀ g,vE (.slice a n c)=some g → ¬ b.D g)(hk0:0<key.size)(hk:key.size≤250)(hvl:vs.length≤65536)(hf:yV (zS s.L) key=none)(hcost:cost=key.size+vs.length+48){dl:Nat}(hdl:dl≤18446744073709551615)(hd:s.now<dl∨dl=18446744073709551615)(hn:(s.A++s.B).length≤1048576)(hl:s.L.length<4194304)(hb:s.births<18446744073709551615)
  (hr:kI s.now s.M s.L.length dl (s.births+1)=0)
  (eg : ∀ args w,(callFunc gf args).run prog w=.ok (.enter gf args) w) (hF : ∀ W,zc w W→Calls prog gf lf W (fun e w'=>e=.returned (.int .u64 dl)∧zc W w')) :
  Calls prog 123 (stA q0 q4) w (zdj Fo w b s.L.length (jo s ⟨key,vs,dl,s.births+1⟩)):=by
 subst hcost;have hfv:uP (zS s.L) key=(0,9):=by unfold uP;rw[hf]
 have HFi:=za (fun(Y:World) (hY:zc w Y)=>Uq (h.dict.pure hY) key (by omega));unfold ZU at HFi;rw[hfv]at HFi;have hlE:(zS s.L).length=s.L.length:=by unfold zS;rw[yn]
 have hsn:s.L.length∉zA (s.A++s.B):=fun e=>by
  obtain⟨y,hy,e2⟩:=zz.1 e;obtain⟨q,h1,_⟩:=(hi.ab y).1 hy;have:=(zE.1 h1).1;omega
 have hsum:zw (s.A++s.B)≤1152922604118474752:=by
  have k3:zw (s.A++s.B)≤(s.A++s.B).length*1099511627776:=XC (fun x hx=>(hi.sg.rng x hx).2);have k4:(s.A++s.B).length*1099511627776≤1048576*1099511627776:=Xn _ hn;omega
 have HH:=za h;have HCC:=za hc;have HNC:=za hnc;have HV:=za hv;have HVN:=za hvn;have HVL:=za hvl;have HF:=za hF;have HFN:=za hf;have HU:=za hi.U;have HNN:=za hn;have HD64:=za hdl;have HK0:=za hk0;have HK:=za hk;have HL:=za hl;have HBB:=za hb;have HLE:=za hlE;have HSN:=za hsn;have HSU:=za hsum;have HR:=za hr;have HS:=za (fun(Y:World) (hY:zc w Y)=>(⟨zi Y q0 0 _ _ (0,0) (hY.heap (fun h=>h) hc.z0),zi Y b.p 0 _ _ (0,0) (hY.heap (fun h=>h) h.box),zi Y (q0+1) 0 _ _ (0,0) (hY.heap (fun h=>h) hc.z1)⟩:FdS b.p b.d q0 key Y));obtain⟨co,hco⟩:=zf (key.size+vs.length+48);have HCO:=za hco;rw[hco]at HCC;obtain⟨nb,hnb⟩:=zf (s.births+1);have HNB:=za hnb;obtain⟨sl,hsl⟩:=zf s.L.length;have HSL:=za hsl;rw[hnb,hsl]at HR;rw[hsl]at HLE HSN HL;rw[hnb,hsl];clear h hi hc hnc hv hvn hvl hk hk0 hf hdl hd hn hF hfv hco hnb hl hb hlE hsn hsum hr hsl;go_enter func123,ntmps123;go_upto_region 1 with fail
 refine rHd (S:=FdS b.p b.d q0 key) (HS.out _ (Mod.refl _ _).drew) (fun h_ => ?_);refine hLd 0 ?_;refine hTk 1 ?_;refine hTk 2 ?_;refine hTk 3 ?_;refine hLd 4 ?_;refine hLd 5 ?_
 (refine hSt 6 (fun K hK => ?_);go_simp;refine zq (HFi.out _ (Mod.refl _ _).drew) ?_;rintro e u1 ⟨rfl,hq1⟩;refine hK.out _ _ ?_ (fun h_ => ?_);(· exact HS.out _ ((Mod.refl (fun _=>False) w).drew.trans hq1));clear hK K;refine clA ?_)
 refine hTk 7 ?_;refine hTk 8 ?_;refine hTk 9 ?_;refine hTk 10 ?_;refine hTk 11 ?_;refine hDn ?_;clear h_;have hp1:zc w u1:=(Mod.refl (fun _=>False) w).drew.trans hq1;have HP1:=za hp1;have z3:=hp1.heap (fun h=>h) HCC.out.z3;have HFu:=za (HF.out _ hp1);clear hq1 hp1 HFi HS;obtain⟨z3_0,z3_f,z3_l,H_z3⟩:=cr1 z3;clear z3;go_upto_region 3 with(go_at_fn gf;refine HFu.out.mono ?_;rintro e u2 ⟨rfl,hp2⟩)
 clear z3_0 z3_f z3_l;clear H_z3;have HP2:=za (HP1.out.trans hp2);clear hp2 HP1 HFu HF;have z0:=HP2.out.heap (fun h=>h) HCC.out.z0;have C2:=HH.out.pure HP2.out;have hb2:=C2.box;have hnx:=ziZ C2.ctr (by have:=HBB.out;omega);have e1:nxV s.births=(nb,0):=by unfold nxV;rw[zh (by have:=HBB.out;omega),HNB.out]
 have e2:nxS s.births=nb:=by unfold nxS;rw[zh (by have:=HBB.out;omega),HNB.out]
 unfold JJ at hnx;rw[e1,e2]at hnx;have HNx:=za hnx;have HC2:=za C2;clear C2 hnx e1 e2;obtain⟨hb2_0,hb2_1,hb2_2,hb2_3,hb2_4,hb2_5,hb2_6,hb2_7,hb2_8,hb2_9,hb2_10,hb2_f,hb2_l,H_hb2⟩:=vg hb2;clear hb2;obtain⟨z0_0,z0_f,z0_l,H_z0⟩:=cr1 z0;clear z0;go_upto_region 11 with(go_at_call 127;refine HNx.out.mono ?_;rintro e w3 ⟨rfl,hr3,hm3⟩)
 clear hb2_0 hb2_1 hb2_2 hb2_3 hb2_4 hb2_5 hb2_6 hb2_7 hb2_8 hb2_9 hb2_10 hb2_f hb2_l;clear z0_0 z0_f z0_l;clear H_hb2 H_z0;obtain⟨b3,C3,T3⟩ : ∃ b3,zr Fo w3 b3 {s with births:=nb}∧zv u2 w3 b b3:=⟨_,HC2.out.putCtr hr3 hm3,zv.ofCtr hm3⟩;have HCC3:=za ((HCC.out.pure HP2.out).mod T3.mod HNC.out);have HNC3:=za (HNC.out.to T3 (HCC.out.pure HP2.out));have hv2:=HV.out.frame HP2.out (fun _ _ h=>h);have HVN3:=za (fun g hg=>T3.nd (HVN.out g hg) (hv2.lt (by decide) hg));have HV3:=za (hv2.frame T3.mod HVN.out);have HC3:=za C3;have HT3:=za T3;clear hr3 hm3 C3 T3 HNx HC2 hv2
 -- the entry is laid in
 have hp4:zc w3 w3.drew:=(Mod.refl (fun _=>False) w3).drew;have hin:=ziR (HC3.out.pure hp4).dict (CE.ent ⟨key,vs,dl,nb⟩) ⟨HK0.out,HK.out,HVL.out,by have:=HNB.out;show(0:Int)<(nb:Int);omega⟩ (by rw[HLE.out];exact HL.out) HFN.out a n c (HV3.out.frame hp4 (fun _ _ h=>h));have e5:zS s.L++[some (CE.ent ⟨key,vs,dl,nb⟩)]=zS (s.L++[some ⟨key,vs,dl,nb⟩]):=by unfold zS;rw[vh];rfl
 unfold Qn at hin;dsimp only at hin;rw[HLE.out,e5]at hin;have HIN:=za hin;have hb3:=(HC3.out.pure hp4).box;rw[HT3.out.p]at hb3;have HS2:=za (⟨zi w3.drew q0 0 _ _ (0,0) (hp4.heap (fun h=>h) HCC3.out.z0),zi w3.drew b.p 0 _ _ (0,0) hb3,zi w3.drew (q0+1) 0 _ _ (0,0) (hp4.heap (fun h=>h) HCC3.out.z1),zi w3.drew (q0+2) 0 _ _ (0,0) (hp4.heap (fun h=>h) HCC3.out.z2)⟩:SnS b.p b3.d q0 key (.slice a n c) w3.drew);clear hin e5 hb3 hp4;refine rHd (S:=SnS b.p b3.d q0 key (.slice a n c)) HS2.out (fun h_ => ?_);refine hLd 0 ?_;refine hTk 1 ?_;refine hTk 2 ?_;refine hTk 3 ?_;refine hLd 4 ?_;refine hLd 5 ?_;refine hLd 6 ?_;refine hTk 7 ?_;refine hTk 8 ?_;refine hTk 9 ?_
 (refine hSt 10 (fun K hK => ?_);go_simp;refine HIN.out.mono ?_;rintro e u5 ⟨rfl,D5,hr5,hm5,hg5⟩;refine hK.out _ _ ?_ (fun h_ => ?_);(· exact⟨hm5.cell (a:=⟨q0,0,none⟩) (fun e=>HNC3.out.z0 (.inr (.inl e))) h_.1,hm5.cell (a:=⟨b.p,0,none⟩) (fun e=>by have e2:b3.cl b.p=2:=HC3.out.sep.d _ e;rw[← HT3.out.p,HC3.out.sep.p]at e2;cases e2) h_.2.1,hm5.cell (a:=⟨q0+1,0,none⟩) (fun e=>HNC3.out.z1 (.inr (.inl e))) h_.2.2.1,hm5.cell (a:=⟨q0+2,0,none⟩) (fun e=>HNC3.out.z2 (.inr (.inl e))) h_.2.2.2⟩);clear hK K;refine clA ?_)
 refine hTk 11 ?_;refine hTk 12 ?_;refine hTk 13 ?_;refine hTk 14 ?_;refine hDn ?_;clear h_;have hm5':Mod b3.Dd w3 u5:=Mod.trans' ((Mod.refl (fun _=>False) w3).drew) hm5 (fun _ _ h=>h.elim) (fun _ _ h=>h);obtain⟨b5,C5,T5⟩ : ∃ b5,zr Fo u5 b5 {s with births:=nb,L:=s.L++[some ⟨key,vs,dl,nb⟩]}∧zv w3 u5 b3 b5:=⟨_,HC3.out.putDict (L':=s.L++[some ⟨key,vs,dl,nb⟩]) hr5 hm5' hg5,zv.ofDict hm5' hg5⟩;have HTT5:=za (HT3.out.trans T5);have HCC5:=za (HCC3.out.mod T5.mod HNC3.out);have HNC5:=za (HNC3.out.to T5 HCC3.out);have hb64:nb≤18446744073709551615:=by have:=HNB.out;have:=HBB.out;omega
 have HDS:=za (C5.due.set (s:=sl) (dl:=dl) (b:=nb) (by have:=HL.out;omega) HD64.out hb64 HR.out);have hb5:=C5.box;rw[HTT5.out.p]at hb5;have z0:=HCC5.out.z0;have HC5:=za C5;clear hr5 hm5 hm5' hg5 C5 T5 HIN HS2 HC3 HV3 HVN3 HCC3 HNC3 hb64;obtain⟨hb5_0,hb5_1,hb5_2,hb5_3,hb5_4,hb5_5,hb5_6,hb5_7,hb5_8,hb5_9,hb5_10,hb5_f,hb5_l,H_hb5⟩:=vg hb5;clear hb5;obtain⟨z0_0,z0_f,z0_l,H_z0⟩:=cr1 z0;clear z0;go_upto_region 13 with(go_at_call 126;refine HDS.out.mono ?_;rintro e u6 ⟨rfl,⟨D6,hr6,hg6⟩,hm6⟩)
 clear hb5_0 hb5_1 hb5_2 hb5_3 hb5_4 hb5_5 hb5_6 hb5_7 hb5_8 hb5_9 hb5_10 hb5_f hb5_l;clear z0_0 z0_f z0_l;clear H_hb5 H_z0;obtain⟨b6,C6,T6⟩ : ∃ b6,zr Fo u6 b6 {s with births:=nb,L:=s.L++[some ⟨key,vs,dl,nb⟩],M:=kN s.now s.M sl dl nb}∧zv u5 u6 b5 b6:=⟨_,HC5.out.putDue hr6 hm6 hg6,zv.ofDue hm6 hg6⟩;have HTT6:=za (HTT5.out.trans T6);have HCC6:=za (HCC5.out.mod T6.mod HNC5.out);have HNC6:=za (HNC5.out.to T6 HCC5.out);have HC6:=za C6;clear hr6 hg6 hm6 C6 T6 HDS HC5 HCC5 HNC5
 -- the order
 have hco2:co≤1099511627776:=by have:=HCO.out;have:=HK.out;have:=HVL.out;omega
 have HCO2:=za hco2;have hp7:zc u6 u6.drew:=(Mod.refl (fun _=>False) u6).drew;have HAd:=za (zkr (HC6.out.pure hp7).order (x:=⟨sl,co⟩) HL.out hco2 HSN.out);have hb6:=(HC6.out.pure hp7).box;rw[HTT6.out.p]at hb6;have HS7:=za (⟨zi u6.drew q0 0 _ _ (0,0) (hp7.heap (fun h=>h) HCC6.out.z0),zi u6.drew b.p 2 _ _ (0,0) hb6,zi u6.drew q4 0 _ _ (0,0) (hp7.heap (fun h=>h) HCC6.out.z4)⟩:TcS b.p q0 2 q4 0 (lkP b6.o) (.int .i64 co) u6.drew);clear hb6 hp7 hco2;refine rHd (S:=TcS b.p q0 2 q4 0 (lkP b6.o) (.int .i64 co)) HS7.out (fun h_ => ?_);refine hLd 0 ?_;refine hTk 1 ?_;refine hTk 2 ?_;refine hTk 3 ?_;refine hLd 4 ?_;refine hTk 5 ?_;refine hLd 6 ?_
 (refine hSt 7 (fun K hK => ?_);go_simp;refine HAd.out.mono ?_;rintro e u7 ⟨rfl,⟨D7,hr7,hg7⟩,hm7⟩;refine hK.out _ _ ?_ (fun h_ => ?_);(· exact⟨hm7.cell (a:=⟨q0,0,none⟩) (fun e=>HNC6.out.z0 (.inr (.inr (.inr (.inl e))))) h_.1,hm7.cell (a:=⟨b.p,2,none⟩) (fun e=>by have e2:b6.cl b.p=4:=HC6.out.sep.o _ e;rw[← HTT6.out.p,HC6.out.sep.p]at e2;cases e2) h_.2.1,hm7.cell (a:=⟨q4,0,none⟩) (fun e=>HNC6.out.z4 (.inr (.inr (.inr (.inl e))))) h_.2.2⟩);clear hK K;refine clA ?_)
 refine hDn ?_;clear h_;have hm7':Mod b6.Do u6 u7:=Mod.trans' ((Mod.refl (fun _=>False) u6).drew) hm7 (fun _ _ h=>h.elim) (fun _ _ h=>h);obtain⟨b7,C7,T7⟩ : ∃ b7,zr Fo u7 b7 {s with births:=nb,L:=s.L++[some ⟨key,vs,dl,nb⟩],M:=kN s.now s.M sl dl nb,A:=s.A++[⟨sl,co⟩]}∧zv u6 u7 b6 b7:=⟨_,HC6.out.putOrder hr7 hm7' hg7,zv.ofOrder hm7' hg7⟩;have HTT7:=za (HTT6.out.trans T7);have HCC7:=za (HCC6.out.mod T7.mod HNC6.out);have HNC7:=za (HNC6.out.to T7 HCC6.out);have HC7:=za C7;clear hr7 hg7 hm7 hm7' C7 T7 HAd HS7 HC6 HCC6 HNC6;go_upto_region 14 with fail
 have hp8:zc u7 u7.drew:=(Mod.refl (fun _=>False) u7).drew;have hbu:=(HC7.out.pure hp8).used;dsimp only at hbu;rw[HU.out]at hbu;have HBa:=za (zaz hbu (tg:=0) (x:=⟨sl,co⟩) (by omega) HCO2.out (by have:=HNN.out;omega) HSU.out);have hb7:=(HC7.out.pure hp8).box;rw[HTT7.out.p]at hb7;have HS8:=za (⟨zi u7.drew q0 0 _ _ (0,0) (hp8.heap (fun h=>h) HCC7.out.z0),zi u7.drew b.p 3 _ _ (0,0) hb7,zi u7.drew q4 0 _ _ (0,0) (hp8.heap (fun h=>h) HCC7.out.z4)⟩:TcS b.p q0 3 q4 0 (buP b7.u) (.int .i64 co) u7.drew);clear hb7 hp8 hbu;refine rHd (S:=TcS b.p q0 3 q4 0 (buP b7.u) (.int .i64 co)) HS8.out (fun h_ => ?_);refine hLd 0 ?_;refine hTk 1 ?_;refine hTk 2 ?_;refine hTk 3 ?_;refine hLd 4 ?_;refine hLd 5 ?_
 (refine hSt 6 (fun K hK => ?_);go_simp;refine HBa.out.mono ?_;rintro e u8 ⟨rfl,hr8,hm8⟩;refine hK.out _ _ ?_ (fun h_ => ?_);(· exact⟨hm8.cell (a:=⟨q0,0,none⟩) (fun e=>HNC7.out.z0 (.inr (.inr (.inr (.inr (.inl e)))))) h_.1,hm8.cell (a:=⟨b.p,3,none⟩) (fun e=>by have e3:b.p=b7.u:=e;have e2:=HC7.out.sep.u;rw[← e3,← HTT7.out.p,HC7.out.sep.p]at e2;cases e2) h_.2.1,hm8.cell (a:=⟨q4,0,none⟩) (fun e=>HNC7.out.z4 (.inr (.inr (.inr (.inr (.inl e)))))) h_.2.2⟩);clear hK K;refine clA ?_)
 refine hDn ?_;clear h_;have hm8':Mod (fun k=>k=b7.u) u7 u8:=Mod.trans' ((Mod.refl (fun _=>False) u7).drew) hm8 (fun _ _ h=>h.elim) (fun _ _ h=>h);have HC8:=za (HC7.out.putUsed hr8 hm8');have HT8:=za (HTT7.out.trans (zv.ofUsed hm8'));clear hr8 hm8 hm8' HC7 HCC7 HNC7;go_wp2;go_ret;refine⟨rfl,b7,?_,(zv.pure HP2.out).trans HT8.out⟩;unfold jo;have ez:(⟨key,vs,dl,nb⟩:CE).cost=co:=HCO.out;rw[ez,HSL.out];exact HC8.out
end
section
variable{Fo S:Nat→Prop}{w w':World}{b:CaB}{s:CaS}{p cost q0 q4:Nat}{key:ByteArray}
def kQ(cost:Nat)(bytes:Int):Int:=if (cost:Int)≤bytes then 0 else 12
theorem zbA(cost:Nat)(bytes:Int)(W:World):Calls prog 109 #[.bool (decide ((cost:Int)≤bytes)),.int .i64 12] W fun e w'=>e=.returned (.int .i64 (kQ cost bytes))∧W=w':=by
 have h:=QW (decide ((cost:Int)≤bytes)) 12 W;have e:(if decide ((cost:Int)≤bytes)=true then(0:Int)else 12)=kQ cost bytes:=by
  unfold kQ;by_cases c:(cost:Int)≤bytes
  ·rw[zk c,zk (by simpa using c)]
  ·rw[zh c,zh (by simpa using c)]
 rw[e]at h;exact h
def setE(s:CaS)(ks n:Nat):Int:=xP [vi ks n 1,kQ (uA ks n) s.cfg.bytes,ub s]
def SeS(p q0 q4 cost:Nat)(bytes:Int)(Y:World):Prop:=Y.cell? ⟨q0,0,none⟩=some (lkP p)∧Y.cell? ⟨q4,0,none⟩=some (.int .i64 cost)∧Y.cell? ⟨p,7,none⟩=some (.int .i64 bytes)
def Jv(Fo:Nat→Prop)(w:World)(b:CaB)(s':CaS)(e:Ending)(w':World):Prop:=e=.returned (.int .i64 0) ∧ ∃ b',zr Fo w' b' s'∧zv w w' b b'
theorem zii(h:zr Fo w b s)(t:Nat){gf:Nat}{lf:Array Value}(hev:s.evs.length≤1048576)(hk:key.size≤140737488355328){a:Option Addr}{n c:Nat}(hn:n≤140737488355328){er:Int}(he:setE s key.size n=er)(h0:er≠0) :
  Calls prog 79 #[lkP b.p,.int .u64 t,.string key,.slice a n c,.func (.func gf) #[] lf] w fun e w'=>e=.returned (.int .i64 er)∧zc w w':=by
 have hp0:zc w ((((w.alloc (.cells #[lkP b.p] 46)).alloc (.cells #[.string key] 9)).alloc (.cells #[.slice a n c] 32)).alloc (.cells #[.func (.func gf) #[] lf] 117)):=((((Mod.refl _ w).alloc _).alloc _).alloc _).alloc _;have hb0:=zG (o := .cells #[.func (.func gf) #[] lf] 117) (zG (o := .cells #[.slice a n c] 32) (zG (o := .cells #[.string key] 9) (zj (w:=w) (o := .cells #[lkP b.p] 46 (0,0)) rfl)));have hb1:=zG (o := .cells #[.func (.func gf) #[] lf] 117) (zG (o := .cells #[.slice a n c] 32) (zj (w:=w.alloc (.cells #[lkP b.p] 46)) (o := .cells #[.string key] 9 (0,0)) (n:=w.heap.size+1) (by simp)));have hb2:=zG (o := .cells #[.func (.func gf) #[] lf] 117) (zj (w:=(w.alloc (.cells #[lkP b.p] 46)).alloc (.cells #[.string key] 9)) (o := .cells #[.slice a n c] 32 (0,0)) (n:=w.heap.size+2) (by simp));have HCo:=za (fun W=>Q1 key a n c W hk hn);obtain⟨co,hco⟩:=zf (uA key.size n);obtain⟨ee,hee⟩:=zf (vi key.size n 1);obtain⟨be,hbe⟩:=zf (kQ co s.cfg.bytes);rw[hco,hee]at HCo;unfold setE at he;rw[hco,hee,hbe]at he;have HBg:=za (fun W=>zbA co s.cfg.bytes W);rw[hbe]at HBg;have hc:=zbN h ee be hev;rw[he]at hc;have HC:=za hc;have HN:=za (fun(Y:World) (hY:zc w Y)=>j9 (h.pure hY));have HBX:=za (fun(Y:World) (hY:zc w Y)=>zi Y b.p 7 _ _ (0,0) (hY.heap (fun h=>h) h.box));have hne:(er != 0)=true:=by simpa using h0
 obtain⟨by_,hby⟩:=zf s.cfg.bytes;rw[hby]at HBg HBX;obtain⟨bb,hbb⟩:=zf (decide ((co:Int)≤by_));rw[hbb]at HBg;clear h hev hc he h0 hco hee hbe hk hn hby;go_enter func79,ntmps79;go_upto_region 1 with fail
 generalize(((w.alloc (.cells #[lkP b.p] 46)).alloc (.cells #[.string key] 9)).alloc (.cells #[.slice a n c] 32)).alloc (.cells #[.func (.func gf) #[] lf] 117)=W1 at *;obtain⟨n0,hn0⟩:=zf w.heap.size;rw[hn0]at hb0 hb1 hb2 ⊢;rw[show n0+1+1=n0+2 from rfl];clear hn0;have HB0:=za hb0;have HP0:=za hp0;clear hb0 hp0;obtain⟨hb1_0,hb1_f,hb1_l,H_hb1⟩:=cr1 hb1;clear hb1;obtain⟨hb2_0,hb2_f,hb2_l,H_hb2⟩:=cr1 hb2;clear hb2;go_upto_region 2 with(go_at_call 120;refine(HCo.out _).mono ?_;rintro e w2 ⟨rfl,hp2⟩)
 clear hb1_0 hb1_f hb1_l;clear hb2_0 hb2_f hb2_l;clear H_hb1 H_hb2;have hal:zc w2 (w2.alloc (.cells #[.int .i64 co] 3)):=(Mod.refl _ w2).alloc _;have hbc:=zj (w:=w2) (o := .cells #[.int .i64 co] 3 (0,0)) rfl;have hp3:=hp2.trans hal;generalize w2.alloc (.cells #[.int .i64 co] 3)=W3 at *;obtain⟨q4,hq4⟩:=zf w2.heap.size;rw[hq4]at hbc ⊢;clear hq4 hal;have HP3:=za (HP0.out.trans hp3);have HS:=za (fun(Y:World) (hY:zc W3 Y)=>(⟨zi Y n0 0 _ _ (0,0) (hY.heap (fun h=>h) (hp3.heap (fun h=>h) HB0.out)),zi Y q4 0 _ _ (0,0) (hY.heap (fun h=>h) hbc),HBX.out Y (HP3.out.trans hY)⟩:SeS b.p n0 q4 co by_ Y));have hd3:zc W3 W3.drew:=(Mod.refl (fun _=>False) W3).drew;have HD3:=za hd3;clear hbc hp2 hp3 hd3;refine rHd (S:=SeS b.p n0 q4 co by_) (HS.out _ HD3.out) (fun h_ => ?_);refine hLd 0 ?_;refine hTk 1 ?_;refine hLd 2 ?_
 (refine hSt 3 (fun K hK => ?_);go_simp;refine(HN.out _ (HP3.out.trans HD3.out)).mono ?_;rintro e u1 ⟨rfl,rfl⟩;refine hK.out _ _ ?_ (fun h_ => ?_);(· exact HS.out _ HD3.out);clear hK K;refine clA ?_)
 refine hTk 4 ?_;refine hLd 5 ?_;refine hLd 6 ?_;refine hTk 7 ?_;refine hTk 8 ?_;refine hTk 9 ?_;refine hLd 10 ?_;refine hTk 11 ?_;refine hTk 12 ?_
 (refine hSt 13 (fun K hK => ?_);go_simp;(try rw[hbb]);refine(HBg.out _).mono ?_;rintro e u1 ⟨rfl,rfl⟩;refine hK.out _ _ ?_ (fun h_ => ?_);(· exact HS.out _ HD3.out);clear hK K;refine clA ?_)
 (refine hSt 14 (fun K hK => ?_);go_simp;refine hK.out _ _ ?_ (fun h_ => ?_);(· exact HS.out _ (HD3.out.trans ((Mod.refl _ _).alloc _)));clear hK K;refine clA ?_)
 (refine hSt 15 (fun K hK => ?_);go_simp;refine(HC.out _ (HP3.out.trans HD3.out)).mono ?_;rintro e u2 ⟨rfl,hq2⟩;refine hK.out _ _ ?_ (fun h_ => ?_);(· exact HS.out _ (HD3.out.trans hq2));clear hK K;refine clA ?_)
 refine hTk 16 ?_;refine hDn ?_;clear h_;have HP5:=za (HP3.out.trans (HD3.out.trans hq2));clear hq2 HC HS;go_wp2;go_ret;exact⟨rfl,HP5.out⟩
theorem zbo(h:zr Fo w b s)(t:Nat){gf:Nat}{lf:Array Value}(hev:s.evs.length≤1048576)(hk:key.size≤140737488355328){a:Option Addr}{n c:Nat}(hn:n≤140737488355328)(he:setE s key.size n=0)(hbt:s.births<18446744073709551615){s9:CaS}
    (hR : ∀(Y:World) (q0 q4:Nat),zc w Y→StC Y b.p key (.func (.func gf) #[] lf) (.slice a n c) (uA key.size n) q0 q4→w.heap.size≤q0→w.heap.size≤q4→Calls prog 84 #[lkP b.p,.int .u64 t,.func (.func 123) #[] (stA q0 q4)] Y (ZN Fo Y b s9)) :
    Calls prog 79 #[lkP b.p,.int .u64 t,.string key,.slice a n c,.func (.func gf) #[] lf] w (Jv Fo w b s9):=by
  have hp0:zc w ((((w.alloc (.cells #[lkP b.p] 46)).alloc (.cells #[.string key] 9)).alloc (.cells #[.slice a n c] 32)).alloc (.cells #[.func (.func gf) #[] lf] 117)):=((((Mod.refl _ w).alloc _).alloc _).alloc _).alloc _;have hb0:=zG (o := .cells #[.func (.func gf) #[] lf] 117) (zG (o := .cells #[.slice a n c] 32) (zG (o := .cells #[.string key] 9) (zj (w:=w) (o := .cells #[lkP b.p] 46 (0,0)) rfl)));have hb1:=zG (o := .cells #[.func (.func gf) #[] lf] 117) (zG (o := .cells #[.slice a n c] 32) (zj (w:=w.alloc (.cells #[lkP b.p] 46)) (o := .cells #[.string key] 9 (0,0)) (n:=w.heap.size+1) (by simp)));have hb2:=zG (o := .cells #[.func (.func gf) #[] lf] 117) (zj (w:=(w.alloc (.cells #[lkP b.p] 46)).alloc (.cells #[.string key] 9)) (o := .cells #[.slice a n c] 32 (0,0)) (n:=w.heap.size+2) (by simp));have hb3:=zj (w:=((w.alloc (.cells #[lkP b.p] 46)).alloc (.cells #[.string key] 9)).alloc (.cells #[.slice a n c] 32)) (o := .cells #[.func (.func gf) #[] lf] 117 (0,0)) (n:=w.heap.size+3) (by simp);have HCo:=za (fun W=>Q1 key a n c W hk hn);have HRn:=za hR;obtain⟨co,hco⟩:=zf (uA key.size n);obtain⟨ee,hee⟩:=zf (vi key.size n 1);obtain⟨be,hbe⟩:=zf (kQ co s.cfg.bytes);rw[hco,hee]at HCo;rw[hco]at HRn;unfold setE at he;rw[hco,hee,hbe]at he;have HBg:=za (fun W=>zbA co s.cfg.bytes W);rw[hbe]at HBg;have hc:=zbN h ee be hev;rw[he]at hc;have HC:=za hc;have HN:=za (fun(Y:World) (hY:zc w Y)=>j9 (h.pure hY));have HBX:=za (fun(Y:World) (hY:zc w Y)=>zi Y b.p 7 _ _ (0,0) (hY.heap (fun h=>h) h.box));have HLa:=za (fun(Y:World) (hY:zc w Y)=>zck (h.pure hY).ctr);have HBo:=za (fun(Y:World) (hY:zc w Y)=>hY.heap (fun h=>h) h.box);obtain⟨by_,hby⟩:=zf s.cfg.bytes;rw[hby]at HBg HBX;obtain⟨bb,hbb⟩:=zf (decide ((co:Int)≤by_));rw[hbb]at HBg;obtain⟨nb,hnb⟩:=zf s.births;rw[hnb]at HLa hbt;have hne:((nb:Int)==18446744073709551615)=false:=by rw[uY];omega
  clear h hev hc he hco hee hbe hk hn hby hbt hR hnb;go_enter func79,ntmps79;go_upto_region 1 with fail
  generalize(((w.alloc (.cells #[lkP b.p] 46)).alloc (.cells #[.string key] 9)).alloc (.cells #[.slice a n c] 32)).alloc (.cells #[.func (.func gf) #[] lf] 117)=W1 at *;obtain⟨n0,hn0⟩:=zf w.heap.size;have HN0:=za hn0;rw[hn0]at hb0 hb1 hb2 hb3 ⊢;rw[show n0+1+1=n0+2 from rfl];clear hn0;have HB0:=za hb0;have HP0:=za hp0;have HB1:=za hb1;have HB2:=za hb2;have HB3:=za hb3;clear hb0 hp0 hb3;obtain⟨hb1_0,hb1_f,hb1_l,H_hb1⟩:=cr1 hb1;clear hb1;obtain⟨hb2_0,hb2_f,hb2_l,H_hb2⟩:=cr1 hb2;clear hb2;go_upto_region 2 with(go_at_call 120;refine(HCo.out _).mono ?_;rintro e w2 ⟨rfl,hp2⟩)
  clear hb1_0 hb1_f hb1_l;clear hb2_0 hb2_f hb2_l;clear H_hb1 H_hb2;have hal:zc w2 (w2.alloc (.cells #[.int .i64 co] 3)):=(Mod.refl _ w2).alloc _;have hbc:=zj (w:=w2) (o := .cells #[.int .i64 co] 3 (0,0)) rfl;have hp3:=hp2.trans hal;generalize w2.alloc (.cells #[.int .i64 co] 3)=W3 at *;obtain⟨q4,hq4⟩:=zf w2.heap.size;have HQ4:=za (show n0≤q4 by have:=(HP0.out.trans hp2).size;have:=HN0.out;omega);rw[hq4]at hbc ⊢;clear hq4 hal;have HP3:=za (HP0.out.trans hp3);have HSt:=za (⟨hp3.heap (fun h=>h) HB0.out,hp3.heap (fun h=>h) HB1.out,hp3.heap (fun h=>h) HB2.out,hp3.heap (fun h=>h) HB3.out,hbc⟩:StC W3 b.p key (.func (.func gf) #[] lf) (.slice a n c) co n0 q4);have HS:=za (fun(Y:World) (hY:zc W3 Y)=>(⟨zi Y n0 0 _ _ (0,0) (hY.heap (fun h=>h) (hp3.heap (fun h=>h) HB0.out)),zi Y q4 0 _ _ (0,0) (hY.heap (fun h=>h) hbc),HBX.out Y (HP3.out.trans hY)⟩:SeS b.p n0 q4 co by_ Y));have hd3:zc W3 W3.drew:=(Mod.refl (fun _=>False) W3).drew;have HD3:=za hd3;clear hbc hp2 hp3 hd3 HB1 HB2 HB3;refine rHd (S:=SeS b.p n0 q4 co by_) (HS.out _ HD3.out) (fun h_ => ?_);refine hLd 0 ?_;refine hTk 1 ?_;refine hLd 2 ?_
  (refine hSt 3 (fun K hK => ?_);go_simp;refine(HN.out _ (HP3.out.trans HD3.out)).mono ?_;rintro e u1 ⟨rfl,rfl⟩;refine hK.out _ _ ?_ (fun h_ => ?_);(· exact HS.out _ HD3.out);clear hK K;refine clA ?_)
  refine hTk 4 ?_;refine hLd 5 ?_;refine hLd 6 ?_;refine hTk 7 ?_;refine hTk 8 ?_;refine hTk 9 ?_;refine hLd 10 ?_;refine hTk 11 ?_;refine hTk 12 ?_
  (refine hSt 13 (fun K hK => ?_);go_simp;(try rw[hbb]);refine(HBg.out _).mono ?_;rintro e u1 ⟨rfl,rfl⟩;refine hK.out _ _ ?_ (fun h_ => ?_);(· exact HS.out _ HD3.out);clear hK K;refine clA ?_)
  (refine hSt 14 (fun K hK => ?_);go_simp;refine hK.out _ _ ?_ (fun h_ => ?_);(· exact HS.out _ (HD3.out.trans ((Mod.refl _ _).alloc _)));clear hK K;refine clA ?_)
  (refine hSt 15 (fun K hK => ?_);go_simp;refine(HC.out _ (HP3.out.trans HD3.out)).mono ?_;rintro e u2 ⟨rfl,hq2⟩;refine hK.out _ _ ?_ (fun h_ => ?_);(· exact HS.out _ (HD3.out.trans hq2));clear hK K;refine clA ?_)
  refine hTk 16 ?_;refine hDn ?_;clear h_;have hp4:zc W3 u2:=HD3.out.trans hq2;have HP5:=za (HP3.out.trans hp4);have z0:=hp4.heap (fun h=>h) HSt.out.z0;have hb5:=HBo.out _ HP5.out;have HLa5:=za (HLa.out _ HP5.out);have HRn5:=za (HRn.out u2 n0 q4 HP5.out (HSt.out.pure hp4) (Nat.le_of_eq HN0.out) (by have:=HN0.out;have:=HQ4.out;omega));clear hq2 HC HS hp4 HRn;obtain⟨z0_0,z0_f,z0_l,H_z0⟩:=cr1 z0;clear z0;obtain⟨hb5_0,hb5_1,hb5_2,hb5_3,hb5_4,hb5_5,hb5_6,hb5_7,hb5_8,hb5_9,hb5_10,hb5_f,hb5_l,H_hb5⟩:=vg hb5;clear hb5
  go_wp2_with (first
    | (go_at_call 121;refine HLa5.out.mono ?_;rintro e w6 ⟨rfl,rfl⟩)
    | (go_at_call 84;refine HRn5.out.mono ?_;rintro e w7 ⟨rfl,b7,C7,T7⟩))
  go_ret;exact⟨rfl,b7,C7,(zv.pure HP5.out).trans T7⟩
theorem Az1d3 {P:Prop}(h:P:=by
 rintro e w' ⟨rfl,b2,k1,k2⟩;exact⟨_,_,b2,fun _=>True,rfl,k1,k2.toX,hR,trivial,fun _ _ _ _ _ _=>trivial,fun _ _=>⟨rfl,rfl⟩⟩):P:=h
theorem zhH(h:zr Fo w b s){t:Nat}(ht:t≤18446744073709551615)(hev:s.evs.length≤1048576){gf:Nat}{lf:Array Value}{a:Option Addr}{n c:Nat}(he:setE s key.size n=0)(hbt:s.births<18446744073709551615)(hlv:vL 1 (tmS s t) (xa s t))(hi:CaI NoP (zl s t)){vs:List UInt8}(hv:zo w (.slice a n c) 1 (zQ vs))(hvn : ∀ g,vE (.slice a n c)=some g → ¬ b.D g)(hk0:0<key.size)(hk:key.size≤250)(hvl:vs.length≤65536)(hco:uA key.size n=key.size+vs.length+48)(hf:yV (zS (zl s t).L) key=none){dl:Nat}(hdl:dl≤18446744073709551615)(hd:(zl s t).now<dl∨dl=18446744073709551615)(hn:((zl s t).A++(zl s t).B).length≤1048576)(hl:(zl s t).L.length<4194304)(hbs:(zl s t).births=s.births)(hr:kI (zl s t).now (zl s t).M (zl s t).L.length dl ((zl s t).births+1)=0)(hR:uh (jo (zl s t) ⟨key,vs,dl,(zl s t).births+1⟩) (zl s t).L.length)
  (eg : ∀ args w,(callFunc gf args).run prog w=.ok (.enter gf args) w) (hF : ∀ W b1,zr Fo W b1 (zl s t)→zv w W b b1→Calls prog gf lf W (fun e w'=>e=.returned (.int .u64 dl)∧zc W w')) :
  Calls prog 79 #[lkP b.p,.int .u64 t,.string key,.slice a n c,.func (.func gf) #[] lf] w (Jv Fo w b (pkS (evS (jo (zl s t) ⟨key,vs,dl,(zl s t).births+1⟩) (zl s t).L.length))):=by
 have hnl:n=vs.length:=by have:=jH hv;rw[kG]at this;omega
 refine zbo h t hev (by omega) (by omega) he hbt (fun Y q0 q4 hY hSt l0 l4 => ?_);have hnn:StN b.D q0 q4:=⟨fun e=>by have:=h.lt e;omega,fun e=>by have:=h.lt e;omega,fun e=>by have:=h.lt e;omega,fun e=>by have:=h.lt e;omega,fun e=>by have:=h.lt e;omega⟩;refine(Xo (h.pure hY) ht hlv (X:=fun _=>False) (fun k hk=>hk.elim) (enters_of func123 (by kernel_rfl) rfl) (QE:=fun keep s2 _=>keep=(zl s t).L.length∧s2=jo (zl s t) ⟨key,vs,dl,(zl s t).births+1⟩) (fun W b1 hC hT => ?_)).mono ?_
 ·have hT0:zv w W b b1:=(zv.pure hY).trans hT;refine(zd6 hC hi (key:=key) (hc:=by rw[hT.p];exact hSt.mod hT.mod hnn) (hnn.to hT hSt) ((hv.frame hY (fun _ _ h=>h)).frame hT.mod hvn) (fun g hg=>hT0.nd (hvn g hg) (hv.lt (by decide) hg)) hk0 hk hvl hf hco hdl hd hn hl (by rw[hbs];exact hbt) hr eg (fun Z hZ=>hF Z b1 (hC.pure hZ) (hT0.trans (zv.pure hZ)))).mono ?_;exact Az1d3
 ·rintro e w' ⟨rfl,keep,s2,b',hC,hT,rfl,rfl⟩;exact⟨rfl,b',hC,hT.none⟩
theorem zg1(h:zr Fo w b s){t:Nat}(ht:t≤18446744073709551615)(hev:s.evs.length≤1048576){gf:Nat}{lf:Array Value}{a:Option Addr}{n c:Nat}(he:setE s key.size n=0)(hbt:s.births<18446744073709551615)(hlv:vL 1 (tmS s t) (xa s t))(hi:CaI NoP (zl s t)){vs:List UInt8}(hv:zo w (.slice a n c) 1 (zQ vs))(hvn : ∀ g,vE (.slice a n c)=some g → ¬ b.D g)(hk:key.size≤250)(hvl:vs.length≤65536)(hco:uA key.size n=key.size+vs.length+48){sl:Nat}{x:CE}(hf:yV (zS (zl s t).L) key=some sl)(hx:(zl s t).L[sl]? = some (some x))(hkx:x.key=key){dl:Nat}(hdl:dl≤18446744073709551615)(hd:(zl s t).now<dl∨dl=18446744073709551615)(hee:(zl s t).evs.length<1048576)(hn:((zl s t).A++(zl s t).B).length≤1048577)(hR:uh (jc (zl s t) sl x ⟨key,vs,dl,x.birth⟩) sl)
  (eg : ∀ args w,(callFunc gf args).run prog w=.ok (.enter gf args) w) (hF : ∀ W b1,zr Fo W b1 (zl s t)→zv w W b b1→Calls prog gf lf W (fun e w'=>e=.returned (.int .u64 dl)∧zc W w')) :
  Calls prog 79 #[lkP b.p,.int .u64 t,.string key,.slice a n c,.func (.func gf) #[] lf] w (Jv Fo w b (pkS (evS (jc (zl s t) sl x ⟨key,vs,dl,x.birth⟩) sl))):=by
 have hnl:n=vs.length:=by have:=jH hv;rw[kG]at this;omega
 refine zbo h t hev (by omega) (by omega) he hbt (fun Y q0 q4 hY hSt l0 l4 => ?_);have hnn:StN b.D q0 q4:=⟨fun e=>by have:=h.lt e;omega,fun e=>by have:=h.lt e;omega,fun e=>by have:=h.lt e;omega,fun e=>by have:=h.lt e;omega,fun e=>by have:=h.lt e;omega⟩;refine(Xo (h.pure hY) ht hlv (X:=fun _=>False) (fun k hk=>hk.elim) (enters_of func123 (by kernel_rfl) rfl) (QE:=fun keep s2 _=>keep=sl∧s2=jc (zl s t) sl x ⟨key,vs,dl,x.birth⟩) (fun W b1 hC hT => ?_)).mono ?_
 ·have hT0:zv w W b b1:=(zv.pure hY).trans hT;refine(zgR hC hi (key:=key) (hc:=by rw[hT.p];exact hSt.mod hT.mod hnn) (hnn.to hT hSt) ((hv.frame hY (fun _ _ h=>h)).frame hT.mod hvn) (fun g hg=>hT0.nd (hvn g hg) (hv.lt (by decide) hg)) hvl (by omega) hf hx hkx hco hdl hd hee hn eg (fun Z hZ=>hF Z b1 (hC.pure hZ) (hT0.trans (zv.pure hZ)))).mono ?_;exact Az1d3
 ·rintro e w' ⟨rfl,keep,s2,b',hC,hT,rfl,rfl⟩;exact⟨rfl,b',hC,hT.none⟩
end
section
variable{Fo:Nat→Prop}{w w':World}{b:CaB}{s:CaS}{D:Nat→Prop}{p:Nat}{t:Bst}
theorem zk5(W:World):Calls prog 80 #[] W fun e w'=>e=.returned (.int .u64 (18446744073709551615:Nat))∧zc W w':=by
 go_enter func80,ntmps80;go_wp2;go_ret;exact⟨rfl,Mod.refl _ _⟩
theorem ziq(h:zr Fo w b s){c1 ttl:Nat}(h1:w.heap[c1]? = some (.cells #[lkP b.p] 46 (0,0)))(h2:w.heap[c1+1]? = some (.cells #[.int .u64 ttl] 37 (0,0)))(hn:s.now≤18446744073709551615)(ht:ttl≤18446744073709551615) :
  Calls prog 81 #[.pointer (some ⟨c1,0,none⟩),.pointer (some ⟨c1+1,0,none⟩)] w fun e w'=>e=.returned (.int .u64 (kC s.now ttl:Nat))∧zc w w':=by
 have HAD:=za (fun W=>zlj hn ht W);obtain⟨dl,hdl⟩:=zf (kC s.now ttl);rw[hdl]at HAD ⊢;have HS1:=za (⟨zi w.drew c1 0 _ _ (0,0) h1,zi w.drew b.p 4 _ _ (0,0) h.box,zi w.drew (c1+1) 0 _ _ (0,0) h2⟩:TcS b.p c1 4 (c1+1) 0 (lkP b.t) (.int .u64 ttl) w.drew);have HNo:=za (h.due.pure ((Mod.refl (fun _=>False) w).drew)).nowOk;clear h h1 h2 hn ht hdl;go_enter func81,ntmps81;go_upto_region 1 with fail
 refine rHd (S:=TcS b.p c1 4 (c1+1) 0 (lkP b.t) (.int .u64 ttl)) HS1.out (fun h_ => ?_);refine hLd 0 ?_;refine hTk 1 ?_;refine hTk 2 ?_;refine hTk 3 ?_;refine hLd 4 ?_;refine hLd 6 ?_
 (refine hSt 5 (fun K hK => ?_);go_simp;refine HNo.out.mono ?_;rintro e u1 ⟨rfl,rfl⟩;refine hK.out _ _ ?_ (fun h_ => ?_);(· exact h_);clear hK K;refine clA ?_)
 (refine hSt 7 (fun K hK => ?_);go_simp;refine(HAD.out _).mono ?_;rintro e u2 ⟨rfl,rfl⟩;refine hK.out _ _ ?_ (fun h_ => ?_);(· exact h_);clear hK K;refine clA ?_)
 refine hTk 8 ?_;refine hDn ?_;clear h_;go_wp2;go_ret;exact⟨rfl,(Mod.refl _ _).drew⟩
def ji(t:Bst)(ks n:Nat):Int:=xP [vi ks n 1,kQ (uA ks n) t.cfg.bytes,vj t]
def XR(t:Bst)(tt:Nat)(key:ByteArray)(vs:List UInt8)(dl:Nat→Nat):Bst:=match um (yW t tt) key with
 | some x=>vO (ZG {yW t tt with evs:=(yW t tt).evs++[⟨3,x,(yW t tt).now⟩]} ⟨key,vs,dl (yW t tt).now,x.birth⟩) x.birth
 | none=>vO (Kp (yW t tt) ⟨key,vs,dl (yW t tt).now,(yW t tt).births+1⟩) ((yW t tt).births+1)
theorem zfX{ks n:Nat}(h:ji t ks n=0):vi ks n 1=0∧kQ (uA ks n) t.cfg.bytes=0∧vj t=0:=by
 unfold ji at h;have e:xP [vi ks n 1,kQ (uA ks n) t.cfg.bytes,vj t]=if vi ks n 1=0 then(if kQ (uA ks n) t.cfg.bytes=0 then(if vj t=0 then 0 else vj t)else kQ (uA ks n) t.cfg.bytes)else vi ks n 1:=rfl
 rw[e]at h;by_cases c:vi ks n 1=0
 ·rw[zk c]at h;by_cases c2:kQ (uA ks n) t.cfg.bytes=0
  ·rw[zk c2]at h;by_cases c3:vj t=0
   ·exact⟨c,c2,c3⟩
   ·rw[zh c3]at h;exact absurd h c3
  ·rw[zh c2]at h;exact absurd h c2
 ·rw[zh c]at h;exact absurd h c
theorem zdJ{ks n:Nat}(h:vi ks n 1=0):0<ks∧ks≤250∧n≤65536:=by
 unfold vi xy at h;by_cases c:0<ks∧ks≤250
 ·refine⟨c.1,c.2,?_⟩;simp[c.1,c.2]at h;omega
 ·exfalso;simp at h;split at h
  ·cases h
  ·rename_i c2;simp at c2;omega
theorem CaI.finK(h:CaI NoP s){keep:Nat}{z:CE}(hz:s.L[keep]? = some (some z))(hn:s.evs.length+(zu s.L).length≤1048577){t2:Bst}(ht:zK s=t2) :
  uh s keep∧CaI NoP (pkS (evS s keep))∧zK (pkS (evS s keep))=vO t2 z.birth∧(pkS (evS s keep)).L.length≤2*(zu (pkS (evS s keep)).L).length+16∧(pkS (evS s keep)).evs.length≤1048576∧(pkS (evS s keep)).evs.length+(zu (pkS (evS s keep)).L).length≤1048577:=by
 subst ht;have hb:=h.bornIff hz;rw[ug hz]at hb;obtain⟨h1,h2,h3,h4,h5⟩:=h.run (keep:=keep) (keepN:=z.birth) hb (.inr ⟨hn,z.cost,(h.ab ⟨keep,z.cost⟩).2 ⟨z,hz,rfl⟩⟩);obtain⟨k1,_,_⟩:=zb9 (t:=zK s) h.inc z.birth;rw[← h3]at k1;have k2:(pkS (evS s keep)).evs.length+(zu (pkS (evS s keep)).L).length=s.evs.length+(zu s.L).length:=k1;have k3:=Us (h5 z hz);exact⟨h1,h2,h3,h4,by omega,by omega⟩
theorem zhr(t:Bst)(z:CE):(ZG t z).E.length=t.E.length∧(ZG t z).evs=t.evs:=⟨by unfold ZG qv;simp,rfl⟩
theorem zM.setC(h:zM Fo w D p t){tt:Nat}(ht:tt≤18446744073709551615){gf:Nat}{lf:Array Value}{key:ByteArray}{a:Option Addr}{n c:Nat}(hr:ji t key.size n=0)(hbt:t.births<16){vs:List UInt8}(hv:zo w (.slice a n c) 1 (zQ vs))(hvn : ∀ g,vE (.slice a n c)=some g → ¬ D g){dl:Nat→Nat}(hdl:dl (max t.now tt)≤18446744073709551615)(hd:max t.now tt<dl (max t.now tt)∨dl (max t.now tt)=18446744073709551615)
  (eg : ∀ args w,(callFunc gf args).run prog w=.ok (.enter gf args) w) (hF : ∀ W b1 s1,zr Fo W b1 s1→b1.p=p→s1.now=max t.now tt→Mod D w W→Calls prog gf lf W (fun e w'=>e=.returned (.int .u64 (dl (max t.now tt):Nat))∧zc W w')) :
  Calls prog 79 #[lkP p,.int .u64 tt,.string key,.slice a n c,.func (.func gf) #[] lf] w fun e w'=>e=.returned (.int .i64 0)∧vD Fo w D p (XR t tt key vs dl) w':=by
 obtain⟨b,s,h1,h2,rfl,rfl,rfl,h3,h4,h5⟩:=h;obtain⟨he1,he2,hr0⟩:=zfX hr;obtain⟨hk0,hk,hn6⟩:=zdJ he1;have hnl:n=vs.length:=by have:=jH hv;rw[kG]at this;omega
 obtain⟨k1,k2,k3⟩:=h2.exp ht (jN hr0);obtain⟨hsum,hlive⟩:=h2.exp_sum ht hr0;have hnow:(zl s tt).now=max s.now tt:=by
  have e:=congrArg Bst.now k3;exact e.trans (Xa (t:=zK s) h2.inc tt).2.2.2.1
 have hbirths:(zl s tt).births=s.births:=by
  have e:=congrArg Bst.births k3;exact e.trans (Xa (t:=zK s) h2.inc tt).2.2.2.2.2
 have hseE:setE s key.size n=0:=by
  unfold setE;rw[qi];exact hr
 have hco:uA key.size n=key.size+vs.length+48:=by unfold uA;rw[zk he1,hnl]
 have hlen2:(zl s tt).L.length=s.L.length:=by
  have : ∀(l:List Nat) (q:CaS),(xq 1 q l).L.length=q.L.length:=by
   intro l
   induction l with
   | nil=>intro q;rfl
   | cons y l ih=>intro q;exact(ih (xg 1 q y)).trans QP.2.2.2.2.2.2
  exact this _ _
 have hll:(zu s.L).length≤1048576:=by have:=jN hr0;omega
 have hF' : ∀ W b1,zr Fo W b1 (zl s tt)→zv w W b b1→Calls prog gf lf W (fun e w'=>e=.returned (.int .u64 (dl (max s.now tt):Nat))∧zc W w'):=fun W b1 hC hT=>hF W b1 _ hC hT.p hnow hT.mod
 unfold XR;rw[← k3]
 cases hl:um (zK (zl s tt)) key with
 | none =>
  obtain⟨f1,f2⟩:=k2.find_none hl;have hz:(CE.Ok ⟨key,vs,dl (max s.now tt),(zl s tt).births+1⟩):=⟨hk0,hk,by show vs.length≤_;omega,hdl,Nat.succ_pos _,by show(zl s tt).births+1≤_;rw[hbirths];have:(zK s).births<16:=hbt;show s.births+1≤_;have e:(zK s).births=s.births:=rfl;omega⟩;obtain⟨n1,n2,n3⟩:=k2.new (z:=⟨key,vs,dl (max s.now tt),(zl s tt).births+1⟩) rfl hz f2 (by rw[hnow];exact hd) (by rw[hbirths];exact hbt);have hget:(jo (zl s tt) ⟨key,vs,dl (max s.now tt),(zl s tt).births+1⟩).L[(zl s tt).L.length]? = some (some ⟨key,vs,dl (max s.now tt),(zl s tt).births+1⟩):=by
   show((zl s tt).L++[_])[(zl s tt).L.length]? = _
   simp
  have hs2:(jo (zl s tt) ⟨key,vs,dl (max s.now tt),(zl s tt).births+1⟩).evs.length+(zu (jo (zl s tt) ⟨key,vs,dl (max s.now tt),(zl s tt).births+1⟩).L).length≤1048577:=by
   show(zl s tt).evs.length+(zu ((zl s tt).L++[_])).length≤_
   rw[XI,zV]
   show _+(_+1)≤_
   omega
  obtain⟨q1,q2⟩:=n1.finK hget hs2 n2;refine(zhH h1 ht h4 hseE (ve (show s.births<16 from hbt) (by decide)) k1 k2 hv hvn hk0 hk (by omega) hco f1 hdl (by rw[hnow];exact hd) (by rw[k2.lenAB];omega) (by rw[hlen2];omega) hbirths n3 q1 eg hF').mono ?_;rintro e w' ⟨rfl,b',hC,hT⟩;refine⟨rfl,?_⟩;have hn9:(zK (zl s tt)).now=max s.now tt:=hnow;dsimp only;rw[hn9];exact zM.of hC hT q2
 | some x =>
  obtain⟨sl,f1,f2,f3⟩:=k2.find_some hl;have hxm:=xX.2 ⟨_,f2⟩;have hxo:=(k2.ok x hxm).1;have ht1:=k2.tell (v:=⟨3,x,(zl s tt).now⟩) (k2.evOk (by decide) hxm) rfl (k2.ok x hxm).2;have hlp:0<(zu (zl s tt).L).length:=Us hxm;obtain⟨n1,n2,n3⟩:=ht1.hit (z:=⟨key,vs,dl (max s.now tt),x.birth⟩) f2 rfl f3.symm ⟨hk0,hk,by show vs.length≤_;omega,hdl,hxo.b0,hxo.b1⟩ (by rw[hnow];exact hd);have hget:(jc (zl s tt) sl x ⟨key,vs,dl (max s.now tt),x.birth⟩).L[sl]? = some (some ⟨key,vs,dl (max s.now tt),x.birth⟩):=by
   show((zl s tt).L.set sl _)[sl]? = _
   rw[yv (zE.1 f2).1]
  have hs2:(jc (zl s tt) sl x ⟨key,vs,dl (max s.now tt),x.birth⟩).evs.length+(zu (jc (zl s tt) sl x ⟨key,vs,dl (max s.now tt),x.birth⟩).L).length≤1048577:=by
   have e1:(zu (jc (zl s tt) sl x ⟨key,vs,dl (max s.now tt),x.birth⟩).L).length=(zu (zl s tt).L).length:=by
    have e:=congrArg Bst.E n2;have e2:=congrArg List.length e;exact e2.trans (zhr _ _).1
   rw[e1]
   show((zl s tt).evs++[_]).length+_≤_
   rw[zV]
   show _+1+_≤_
   omega
  have n2':zK (jc (zl s tt) sl x ⟨key,vs,dl (max s.now tt),x.birth⟩)=ZG {zK (zl s tt)with evs:=(zK (zl s tt)).evs++[⟨3,x,(zK (zl s tt)).now⟩]} ⟨key,vs,dl (max s.now tt),x.birth⟩:=n2;have n1':CaI NoP (jc (zl s tt) sl x ⟨key,vs,dl (max s.now tt),x.birth⟩):=n1;obtain⟨q1,q2⟩:=n1'.finK hget hs2 n2';refine(zg1 h1 ht h4 hseE (ve (show s.births<16 from hbt) (by decide)) k1 k2 hv hvn hk (by omega) hco f1 f2 f3 hdl (by rw[hnow];exact hd) (by omega) (by rw[k2.lenAB];omega) q1 eg hF').mono ?_;rintro e w' ⟨rfl,b',hC,hT⟩;refine⟨rfl,?_⟩;have hn9:(zK (zl s tt)).now=max s.now tt:=hnow;dsimp only;rw[show dl (zK (zl s tt)).now=dl (max s.now tt)from congrArg dl hn9];exact zM.of hC hT q2
theorem zM.setCErr(h:zM Fo w D p t)(tt:Nat){gf:Nat}{lf:Array Value}{key:ByteArray}(hk:key.size≤140737488355328){a:Option Addr}{n c:Nat}(hn:n≤140737488355328){er:Int}(he:ji t key.size n=er)(h0:er≠0) :
  Calls prog 79 #[lkP p,.int .u64 tt,.string key,.slice a n c,.func (.func gf) #[] lf] w fun e w'=>e=.returned (.int .i64 er)∧zc w w':=by
 obtain⟨b,s,h1,h2,rfl,rfl,rfl,h3,h4,h5⟩:=h;refine zii h1 tt h4 hk hn (by unfold setE;rw[qi];exact he) h0
theorem Azfvl {P:Prop}(h:P:=by
 go_enter func40,ntmps40
 go_wp2_with (go_at_call 79;refine HC.out.mono ?_;rintro e w1 ⟨rfl,hg⟩)
 go_ret;exact⟨rfl,hg⟩):P:=h
theorem zM.Set(h:zM Fo w D p t){tt:Nat}(ht:tt≤18446744073709551615){key:ByteArray}{a:Option Addr}{n c:Nat}(hr:ji t key.size n=0)(hbt:t.births<16){vs:List UInt8}(hv:zo w (.slice a n c) 1 (zQ vs))(hvn : ∀ g,vE (.slice a n c)=some g → ¬ D g) :
  Calls prog 40 #[lkP p,.int .u64 tt,.string key,.slice a n c] w fun e w'=>e=.returned (.int .i64 0)∧vD Fo w D p (XR t tt key vs (fun _=>18446744073709551615)) w':=by
 have HC:=za (h.setC ht (gf:=80) (lf:=#[]) hr hbt hv hvn (dl:=fun _=>18446744073709551615) (zI _) (.inr rfl) (enters_of func80 (by kernel_rfl) rfl) (fun W _ _ _ _ _ _=>zk5 W));clear h hr hbt hv hvn;exact Azfvl
theorem zM.SetErr(h:zM Fo w D p t)(tt:Nat){key:ByteArray}(hk:key.size≤140737488355328){a:Option Addr}{n c:Nat}(hn:n≤140737488355328){er:Int}(he:ji t key.size n=er)(h0:er≠0) :
  Calls prog 40 #[lkP p,.int .u64 tt,.string key,.slice a n c] w fun e w'=>e=.returned (.int .i64 er)∧zc w w':=by
 have HC:=za (h.setCErr tt (gf:=80) (lf:=#[]) hk hn he h0 (a:=a) (c:=c));clear h he h0 hk hn;exact Azfvl
theorem zM.none_(h:zM Fo w D p t):Calls prog 69 #[lkP p] w fun e w'=>e=.returned (.bool false)∧w=w':=by
 obtain⟨b,s,h1,h2,rfl,rfl,rfl,_⟩:=h;exact j9 h1
theorem zM.SetTTL(h:zM Fo w D p t){tt ttl:Nat}(ht:tt≤18446744073709551615)(hl:ttl≤18446744073709551615)(hl0:0<ttl){key:ByteArray}{a:Option Addr}{n c:Nat}(hr:ji t key.size n=0)(hbt:t.births<16){vs:List UInt8}(hv:zo w (.slice a n c) 1 (zQ vs))(hvn : ∀ g,vE (.slice a n c)=some g → ¬ D g)(hn64:t.now≤18446744073709551615) :
    Calls prog 41 #[lkP p,.int .u64 tt,.string key,.slice a n c,.int .u64 ttl] w fun e w'=>e=.returned (.int .i64 0)∧vD Fo w D p (XR t tt key vs (fun q=>kC q ttl)) w':=by
  have hp0:zc w ((w.alloc (.cells #[lkP p] 46)).alloc (.cells #[.int .u64 ttl] 37)):=((Mod.refl _ w).alloc _).alloc _;have hb1:=zG (o := .cells #[.int .u64 ttl] 37) (zj (w:=w) (o := .cells #[lkP p] 46 (0,0)) rfl);have hb2:=zj (w:=w.alloc (.cells #[lkP p] 46)) (o := .cells #[.int .u64 ttl] 37 (0,0)) (n:=w.heap.size+1) (by simp);have hlt:=fun k (hk:D k)=>h.lt hk
  have HN:=za (h.pure hp0).none_;have HC:=za ((h.pure hp0).setC ht (gf:=81) (lf:=#[.pointer (some ⟨w.heap.size,0,none⟩),.pointer (some ⟨w.heap.size+1,0,none⟩)]) hr hbt (hv.frame hp0 (fun _ _ h=>h)) hvn (dl:=fun q=>kC q ttl) (by show kC _ _≤_;unfold kC;split<;>omega) (by show _<kC _ _∨kC _ _=_;unfold kC;split<;>omega) (enters_of func81 (by kernel_rfl) rfl) (fun W b1 s1 hC hp1 hn1 hm=>by
    have:=ziq hC (c1:=w.heap.size) (ttl:=ttl) (by rw[hp1];exact hm.heap (fun e=>by have:=hlt _ e;omega) hb1) (hm.heap (fun e=>by have:=hlt _ e;omega) hb2) (by rw[hn1];omega) hl;rw[hn1]at this;exact this))
  have HP:=za hp0;have hne:((ttl:Int)==0)=false:=by rw[uY];omega
  clear h hr hbt hv hvn hp0 hlt hl0 hl ht hn64;go_enter func41,ntmps41;go_upto_region 1 with fail
  generalize(w.alloc (.cells #[lkP p] 46)).alloc (.cells #[.int .u64 ttl] 37)=W1 at *;obtain⟨n0,hn0⟩:=zf w.heap.size;rw[hn0]at hb1 hb2 HC ⊢;clear hn0;obtain⟨hb1_0,hb1_f,hb1_l,H_hb1⟩:=cr1 hb1;clear hb1;obtain⟨hb2_0,hb2_f,hb2_l,H_hb2⟩:=cr1 hb2;clear hb2
  go_wp2_with (first
    | (go_at_call 69;refine HN.out.mono ?_;rintro e w' ⟨rfl,rfl⟩)
    | (go_at_call 79;refine HC.out.mono ?_;rintro e w1 ⟨rfl,hg⟩))
  go_ret;obtain⟨D2,g1,g2,g3⟩:=hg;exact⟨rfl,D2,g1,Mod.trans' HP.out g2 (fun _ _ e=>e.elim) (fun _ _ e=>e),fun k hk=>(g3 k hk).imp (fun e=>e) (fun e=>zH HP.out.size e)⟩
end
section
variable{Fo:Nat→Prop}{w w':World}{b:CaB}{s:CaS}{D:Nat→Prop}{p:Nat}{t:Bst}
def zjm(o:Option CE):List UInt8:=(o.map CE.val).getD []
def zaA(t:Bst)(tt:Nat)(key:ByteArray):Option CE × Bst:=match um (yW t tt) key with
 | some x=>(some x,vO (qv (yW t tt) x.birth x.cost) 0)
 | none=>(none,jm t tt)
def zf4(Fo:Nat→Prop)(w:World)(D:Nat→Prop)(p:Nat)(r:Option CE × Bst)(e:Ending)(w':World):Prop :=
 ∃ a n c,e=.returned (.tuple #[.slice a n c,.bool r.1.isSome,.int .i64 0])∧zo w' (.slice a n c) 1 (zQ (zjm r.1))∧vD Fo w D p r.2 w'
theorem JB(w:World):zo w (.slice none 0 0) 1 (zQ []):=⟨none,0,0,rfl,rfl,by decide,fun _=>rfl,fun a h=>by cases h⟩
theorem CaI.exp_frame(h:CaI NoP s){tt:Nat}(ht:tt≤18446744073709551615)(hr:vj (zK s)=0):(zl s tt).now=max s.now tt∧(zl s tt).births=s.births∧((zl s tt).A++(zl s tt).B).length≤1048576:=by
 obtain⟨k1,k2,k3⟩:=h.exp ht (jN hr);obtain⟨hsum,hlive⟩:=h.exp_sum ht hr;have:=jN hr;refine⟨?_,?_,by rw[k2.lenAB];omega⟩
 ·have e:=congrArg Bst.now k3;exact e.trans (Xa (t:=zK s) h.inc tt).2.2.2.1
 ·have e:=congrArg Bst.births k3;exact e.trans (Xa (t:=zK s) h.inc tt).2.2.2.2.2
theorem zM.get(h:zM Fo w D p t){tt:Nat}(ht:tt≤18446744073709551615){key:ByteArray}(hk:key.size≤140737488355328)(hr:uT key t=0) :
  Calls prog 38 #[lkP p,.int .u64 tt,.string key] w (zf4 Fo w D p (zaA t tt key)):=by
 obtain⟨hkE,hr⟩:=XY hr;obtain⟨b,s,h1,h2,rfl,rfl,rfl,h3,h4,h5⟩:=h;obtain⟨k1,k2,k3⟩:=h2.exp ht (jN hr);have hn:=(h2.exp_sum ht hr).1;obtain⟨_,_,hab⟩:=h2.exp_frame ht hr;unfold zaA;rw[← k3]
 cases hl:um (zK (zl s tt)) key with
 | none =>
  obtain⟨q1,q2⟩:=k2.fin hn k3;refine(QC h1 ht h4 ((qi s).trans hr) k1 hk hkE (k2.find_none hl).1 q1).mono ?_;rintro e w' ⟨rfl,b',hC,hT⟩;exact⟨none,0,0,rfl,JB _,zM.of hC hT q2⟩
 | some x =>
  obtain⟨sl,f1,f2,f3⟩:=k2.find_some hl;obtain⟨u1,u2⟩:=k2.use f2;have e9:zu (vZ (zl s tt) ⟨sl,x.cost⟩).L=zu (zl s tt).L:=rfl;have e8:(vZ (zl s tt) ⟨sl,x.cost⟩).evs=(zl s tt).evs:=rfl;obtain⟨q1,q2⟩:=u1.fin (by rw[e8,e9];exact hn) u2;refine(zcs h1 ht h4 ((qi s).trans hr) k1 hk hkE f1 f2 ((k2.ab ⟨sl,x.cost⟩).2 ⟨x,f2,rfl⟩) k2.U k2.cfg k2.lim (by omega) q1).mono ?_;rintro e w' ⟨a,n,c,rfl,hby,hfr,b',hC,hT⟩;exact⟨a,n,c,rfl,yq.read hby (jn _),zM.of hC hT q2⟩
end
section
variable{Fo:Nat→Prop}{w w':World}
def Xm(cfg:Cfg)(mc mb births now:Nat):CaS:=⟨cfg,[],births,cfg.part,[],[],mc,mb,⟨0,0,0,0⟩,now,[],[]⟩
def ze4(Fo:Nat→Prop)(w:World)(s:CaS)(e:Ending)(w':World):Prop := ∃ b,e=.returned (lkP b.p)∧zr Fo w' b s∧zc w w' ∧ ∀ k,b.D k→w.heap.size≤k
def Jp(p d c o u t v:Nat)(Dd Do Dt:Nat→Prop)(n2 n3 n4 n5 n6 n7 n8:Nat):CaB :=
 ⟨p,d,c,o,u,t,v,Dd,Do,Dt,[],xr 1,fun k=>if k<n2 then 0 else if k<n3 then 4 else if k<n4 then 5 else if k<n5 then 2 else if k<n6 then 3 else if k<n7 then 6 else if k<n8 then 7 else 1⟩
theorem zes{cfg:Cfg}{mc mb births now:Nat}{p d c o u t v:Nat}{Dd Do Dt:Nat→Prop}{W2 W3 W4 W5 W6 W7 W8 W9:World}
  (h0:0<W2.heap.size) (hS:yY W3 Do o cfg.part [] []) (pS:zc W2 W3) (gS : ∀ k,Do k→W2.heap.size≤k)
  (hB:yS W4 u mc mb ⟨0,0,0,0⟩) (pB:zc W3 W4) (gB:W3.heap.size≤u)
  (hD:yb (fun k=>Fo k∨k<W4.heap.size) W5 Dd d cfg.seed cfg.same [] (xr 1)) (pD:zc W4 W5) (gD : ∀ k,Dd k→W4.heap.size≤k)
  (hC:Ctr W6 c births) (pC:zc W5 W6) (gC:W5.heap.size≤c)
  (hT:yh W7 Dt t now []) (pT:zc W6 W7) (gT : ∀ k,Dt k→W6.heap.size≤k)
  (hE:xN (fun k=>Fo k∨k<W7.heap.size) W8 v []) (pE:zc W7 W8) (gE:W7.heap.size≤v)
  (hp:W9.heap[p]? = some (.cells #[xt d,jR c,lkP o,buP u,lkP t,lkP v,.int .i64 cfg.count,.int .i64 cfg.bytes,.int .i64 cfg.prot,.int .u64 cfg.seed,.bool cfg.same] 136 (0,0))) (pP:zc W8 W9) (gP:W8.heap.size≤p) (hTab:xA W2) (hFo : ∀ k,Fo k→k<W2.heap.size) :
  zr Fo W9 (Jp p d c o u t v Dd Do Dt W2.heap.size W3.heap.size W4.heap.size W5.heap.size W6.heap.size W7.heap.size W8.heap.size) (Xm cfg mc mb births now):=by
 have s3:=pS.size;have s4:=pB.size;have s5:=pD.size;have s6:=pC.size;have s7:=pT.size;have s8:=pE.size;have s9:=pP.size;have lS : ∀ k,Do k→k<W3.heap.size:=fun k hk=>hS.lt hk
 have lB:u<W4.heap.size:=zm hB.box;have lD : ∀ k,Dd k→k<W5.heap.size:=fun k hk=>hD.lt hk
 have lC:c<W6.heap.size:=zm hC;have lT : ∀ k,Dt k→k<W7.heap.size:=fun k hk=>hT.lt hk
 have lE:v<W8.heap.size:=hE.lt (.inl rfl);have lP:p<W9.heap.size:=zm hp;have p89:=pP;have p79:=pE.trans p89;have p69:=pT.trans p79;have p59:=pC.trans p69;have p49:=pD.trans p59;have p39:=pB.trans p49;obtain⟨b,hb⟩:=zf (Jp p d c o u t v Dd Do Dt W2.heap.size W3.heap.size W4.heap.size W5.heap.size W6.heap.size W7.heap.size W8.heap.size);have hDD : ∀ k,b.D k→k=p∨Dd k∨k=c∨Do k∨k=u∨Dt k∨k=v:=fun k hk=>by
  subst hb;rcases hk with e | e | e | e | e | e | e
  ·exact .inl e
  ·exact .inr (.inl e)
  ·exact .inr (.inr (.inl e))
  ·exact .inr (.inr (.inr (.inl e)))
  ·exact .inr (.inr (.inr (.inr (.inl e))))
  ·exact .inr (.inr (.inr (.inr (.inr (.inl e)))))
  ·rcases e with e | ⟨n,hn,_⟩
   ·exact .inr (.inr (.inr (.inr (.inr (.inr e)))))
   ·cases hn
 have hlt : ∀ k,Fo k∨b.D k→k<W9.heap.size:=fun k hk=>by
  rcases hk with e | e
  ·have:=hFo k e;omega
  ·rcases hDD k e with rfl | e | rfl | e | rfl | e | rfl
   ·exact lP
   ·have:=lD k e;omega
   ·omega
   ·have:=lS k e;omega
   ·omega
   ·have:=lT k e;omega
   ·omega
 have hd9:yb (fun k=>Fo k∨b.D k) W9 Dd d cfg.seed cfg.same [] (xr 1):=(hD.add (T:=Dd) (fun k hk=>hD.holds hk)).refo p59 (fun k hk=>by
  rcases hk with e | e
  ·exact .inl (.inl (.inl e))
  ·rcases hDD k e with rfl | e | rfl | e | rfl | e | rfl
   ·exact .inr (by omega)
   ·exact .inl (.inr e)
   ·exact .inr gC
   ·exact .inl (.inl (.inr (by have:=lS k e;omega)))
   ·exact .inl (.inl (.inr (by omega)))
   ·exact .inr (by have:=gT k e;omega)
   ·exact .inr (by omega)) hlt
 have he9:xN (fun k=>Fo k∨b.D k) W9 v []:=by
  obtain⟨k0,k1,k2,k3,k4,k5,h1⟩:=hE.add (T:=fun k=>k=v) (fun k hk=>by subst hk;exact hE.holds (.inl rfl));refine⟨k0,k1,k2,k3,k4,k5,h1.refo p89 (fun k hk => ?_) hlt⟩;rcases hk with e | e
  ·exact .inl (.inl (.inl e))
  ·rcases hDD k e with rfl | e | rfl | e | rfl | e | rfl
   ·exact .inr gP
   ·exact .inl (.inl (.inr (by have:=lD k e;omega)))
   ·exact .inl (.inl (.inr (by omega)))
   ·exact .inl (.inl (.inr (by have:=lS k e;omega)))
   ·exact .inl (.inl (.inr (by omega)))
   ·exact .inl (.inl (.inr (by have:=lT k e;omega)))
   ·exact .inl (.inr rfl)
 rw[hb];have e1:b.p=p∧b.d=d∧b.c=c∧b.o=o∧b.u=u∧b.t=t∧b.v=v∧b.Dd=Dd∧b.Do=Do∧b.Dt=Dt∧b.ns=[]∧b.Gs=xr 1:=by subst hb;exact⟨rfl,rfl,rfl,rfl,rfl,rfl,rfl,rfl,rfl,rfl,rfl,rfl⟩
 obtain⟨q1,q2,q3,q4,q5,q6,q7,q8,q9,q10,q11,q12⟩:=e1;refine⟨?_,?_,?_,?_,?_,?_,?_,?_,?_,hTab.pure (pS.trans p39)⟩
 ·rw[q1,q2,q3,q4,q5,q6,q7];exact hp
 ·rw[q8,q2,q12];exact hd9
 ·rw[q3];exact hC.pure p69
 ·rw[q9,q4];exact hS.pure p39
 ·rw[q5];exact hB.pure p49
 ·rw[q10,q6];exact hT.pure p79
 ·rw[q7,q11];exact he9
 ·rw[q11];rfl
 ·subst hb;refine⟨?_,fun k hk => ?_,?_,fun k hk => ?_,?_,fun k hk => ?_,fun k hk => ?_,?_⟩
  ·show(if p<_ then(0:Nat)else _)=1
   rw[zh (by omega),zh (by omega),zh (by omega),zh (by omega),zh (by omega),zh (by omega),zh (by omega)]
  ·have:=gD k hk;have:=lD k hk
   show(if k<_ then(0:Nat)else _)=2
   rw[zh (by omega),zh (by omega),zh (by omega),zk (by omega)]
  ·show(if c<_ then(0:Nat)else _)=3
   rw[zh (by omega),zh (by omega),zh (by omega),zh (by omega),zk (by omega)]
  ·have:=gS k hk;have:=lS k hk
   show(if k<_ then(0:Nat)else _)=4
   rw[zh (by omega),zk (by omega)]
  ·show(if u<_ then(0:Nat)else _)=5
   rw[zh (by omega),zh (by omega),zk (by omega)]
  ·have:=gT k hk;have:=lT k hk
   show(if k<_ then(0:Nat)else _)=6
   rw[zh (by omega),zh (by omega),zh (by omega),zh (by omega),zh (by omega),zk (by omega)]
  ·rcases hk with e | ⟨n,hn,_⟩
   ·have e':k=v:=e;subst e'
    show(if k<_ then(0:Nat)else _)=7
    rw[zh (by omega),zh (by omega),zh (by omega),zh (by omega),zh (by omega),zh (by omega),zk (by omega)]
   ·cases hn
  ·show(if 0<_ then(0:Nat)else _)=0
   rw[zk h0]
def MdS(c1:Nat)(mc mb pr sd:Int)(sm:Bool)(Y:World):Prop:=Y.cell? ⟨c1,0,none⟩=some (.int .i64 mc)∧Y.cell? ⟨c1,1,none⟩=some (.int .i64 mb)∧Y.cell? ⟨c1,2,none⟩=some (.int .i64 pr)∧Y.cell? ⟨c1,3,none⟩=some (.int .u64 sd)∧Y.cell? ⟨c1,4,none⟩=some (.bool sm)
theorem zeN{mc mb:Nat}{pr:Int}{sd:Nat}{sm:Bool}(hc:Cfg.ok ⟨mc,mb,pr,sd,sm⟩)(hsd:sd<18446744073709551616){now births:Nat}(hn:now<18446744073709551616)(w:World)(hT:xA w)(hFo : ∀ k,Fo k→k<w.heap.size) :
  Calls prog 67 #[.agg #[.int .i64 mc,.int .i64 mb,.int .i64 pr,.int .u64 sd,.bool sm],.int .u64 now,.int .u64 births] w (ze4 Fo w (Xm ⟨mc,mb,pr,sd,sm⟩ mc mb births now)):=by
 have hpr:=Cfg.part_rng hc;have hPa:=fun W=>za1 hc W
 dsimp only[Cfg.v]at hPa;obtain⟨pt,hpt⟩:=zf (Cfg.part ⟨mc,mb,pr,sd,sm⟩);rw[hpt]at hpr hPa;have HPa:=za hPa;have HSn:=za (fun W=>zkj hpr.1 hpr.2.1 W);have hc1:1≤mc∧mc≤1048576:=by have h1:=hc.1;have h2:=hc.2.1;dsimp only at h1 h2;omega
 have hc2:1≤mb∧mb≤1099511627776:=by have h1:=hc.2.2.1;have h2:=hc.2.2.2.1;dsimp only at h1 h2;omega
 have HBn:=za (fun W=>ziS hc1 hc2 W);have HHn:=za (fun W=>zhw (sd:Int) sm W);have HDn:=za (fun W (hW : ∀ k,Fo k→k<W.heap.size)=>zkV (Fo:=fun k=>Fo k∨k<W.heap.size) sd sm hsd W (fun k hk=>hk.elim (hW k) (fun e=>e)));have HCn:=za (fun W=>zfu births W);have HTn:=za (fun W=>zer W hn);have HEn:=za (fun W (hW : ∀ k,Fo k→k<W.heap.size)=>zdr (Fo:=fun k=>Fo k∨k<W.heap.size) W (fun k hk=>hk.elim (hW k) (fun e=>e)));have hal:zc w (w.alloc (.cells #[.int .i64 mc,.int .i64 mb,.int .i64 pr,.int .u64 sd,.bool sm] 29)):=(Mod.refl _ w).alloc _;have z:=zj (w:=w) (o := .cells #[.int .i64 mc,.int .i64 mb,.int .i64 pr,.int .u64 sd,.bool sm] 29 (0,0)) rfl;have HP1:=za hal;have HTB:=za hT;have HFO:=za hFo;have HPT:=za hpt;clear hc hpr hPa hc1 hc2 hal hT hFo hpt hn hsd;go_enter func67,ntmps67;go_upto_region 1 with fail
 generalize w.alloc (.cells #[.int .i64 mc,.int .i64 mb,.int .i64 pr,.int .u64 sd,.bool sm] 29)=W1 at *;obtain⟨c1,hc1⟩:=zf w.heap.size;have HC1:=za hc1;rw[hc1]at z ⊢;have Z:=za z;clear hc1;obtain⟨z_0,z_1,z_2,z_3,z_4,z_f,z_l,H_z⟩:=cr5 z;clear z;go_upto_region 2 with(go_at_call 97;refine(HPa.out _).mono ?_;rintro e W2 ⟨rfl,hp2⟩)
 clear z_0 z_1 z_2 z_3 z_4 z_f z_l;clear H_z;have HP2:=za (HP1.out.trans hp2);have z2:=hp2.heap (fun h=>h) Z.out;have Z2:=za z2;clear hp2;go_upto_region 3 with(go_at_call 98;refine(HSn.out _).mono ?_;rintro e W3 ⟨o,l0,l1,bm,Do,D0,D1,Dm,rfl,hS,pS,gS⟩)
 have HS3:=za (⟨l0,l1,bm,D0,D1,Dm,hS⟩:yY W3 Do o pt [] []);have PS:=za pS;have GS:=za gS;have z3:=pS.heap (fun h=>h) Z2.out;have Z3:=za z3;clear hS pS gS z2;obtain⟨z3_0,z3_1,z3_2,z3_3,z3_4,z3_f,z3_l,H_z3⟩:=cr5 z3;clear z3;go_upto_region 4 with(go_at_call 99;refine(HBn.out _).mono ?_;rintro e W4 ⟨rfl,hB,pB⟩)
 clear z3_0 z3_1 z3_2 z3_3 z3_4 z3_f z3_l;clear H_z3;have HB4:=za hB;have PB:=za pB;have z4:=pB.heap (fun h=>h) Z3.out;have HP4:=za ((HP2.out.trans PS.out).trans pB);have hst:=HP4.out.size;have HFO4:=za (fun k (hk:Fo k)=>ve (HFO.out k hk) hst);clear hst;obtain⟨u,hu⟩:=zf W3.heap.size;rw[hu]at HB4 ⊢;have HU:=za hu;have HS:=za (fun(Y:World) (hY:zc W4 Y)=>(⟨zi Y c1 0 _ _ (0,0) (hY.heap (fun h=>h) z4),zi Y c1 1 _ _ (0,0) (hY.heap (fun h=>h) z4),zi Y c1 2 _ _ (0,0) (hY.heap (fun h=>h) z4),zi Y c1 3 _ _ (0,0) (hY.heap (fun h=>h) z4),zi Y c1 4 _ _ (0,0) (hY.heap (fun h=>h) z4)⟩:MdS c1 mc mb pr sd sm Y));have hd4:zc W4 W4.drew:=(Mod.refl (fun _=>False) W4).drew;have HD4:=za hd4;clear hB pB hu z4 hd4;refine rHd (S:=MdS c1 mc mb pr sd sm) (HS.out _ HD4.out) (fun h_ => ?_);refine hTk 0 ?_;refine hLd 1 ?_;refine hTk 2 ?_;refine hLd 3 ?_;refine hTk 6 ?_;refine hTk 8 ?_;refine hTk 9 ?_;refine hTk 10 ?_;refine hLd 14 ?_
 (refine hSt 4 (fun K hK => ?_);go_simp;refine(HHn.out _).mono ?_;rintro e w5 ⟨rfl,hp5⟩;refine hK.out _ _ ?_ (fun h_ => ?_);(· exact HS.out _ (HD4.out.trans hp5));clear hK K;refine clA ?_)
 (refine hSt 5 (fun K hK => ?_);go_simp;refine zq (HDn.out _ (fun k hk=>ve (HFO4.out k hk) (HD4.out.trans hp5).size)) ?_;rintro e w6 ⟨d,Dd,rfl,hDd,hp6,gD⟩;refine hK.out _ _ ?_ (fun h_ => ?_);(· exact HS.out _ ((HD4.out.trans hp5).trans hp6));clear hK K;refine clA ?_)
 (refine hSt 7 (fun K hK => ?_);go_simp;refine(HCn.out _).mono ?_;rintro e w7 ⟨rfl,hCt,hp7,gC⟩;refine hK.out _ _ ?_ (fun h_ => ?_);(· exact HS.out _ (((HD4.out.trans hp5).trans hp6).trans hp7));clear hK K;refine clA ?_)
 (refine hSt 11 (fun K hK => ?_);go_simp;refine(HTn.out _).mono ?_;rintro e w8 ⟨tt,Dt,rfl,hDu,hp8,gT⟩;refine hK.out _ _ ?_ (fun h_ => ?_);(· exact HS.out _ ((((HD4.out.trans hp5).trans hp6).trans hp7).trans hp8));clear hK K;refine clA ?_)
 (refine hSt 12 (fun K hK => ?_);go_simp;refine zq (HEn.out _ (fun k hk=>ve (HFO4.out k hk) ((((HD4.out.trans hp5).trans hp6).trans hp7).trans hp8).size)) ?_;rintro e w9 ⟨rfl,hEv,hp9⟩;refine hK.out _ _ ?_ (fun h_ => ?_);(· exact HS.out _ (((((HD4.out.trans hp5).trans hp6).trans hp7).trans hp8).trans hp9));clear hK K;refine clA ?_)
 refine hTk 13 ?_;refine hTk 15 ?_
 (refine hSt 16 (fun K hK => ?_);go_simp;refine hK.out _ _ ?_ (fun h_ => ?_);(· exact HS.out _ ((((((HD4.out.trans hp5).trans hp6).trans hp7).trans hp8).trans hp9).trans ((Mod.refl _ _).alloc _)));clear hK K;refine clA ?_)
 refine hTk 17 ?_;refine hDn ?_;clear h_;have hal:zc w9 (w9.alloc (.cells #[xt d,jR w6.heap.size,lkP o,buP u,lkP tt,lkP w8.heap.size,.int .i64 mc,.int .i64 mb,.int .i64 pr,.int .u64 sd,.bool sm] 136)):=(Mod.refl _ w9).alloc _;have hbx:=zj (w:=w9) (o := .cells #[xt d,jR w6.heap.size,lkP o,buP u,lkP tt,lkP w8.heap.size,.int .i64 mc,.int .i64 mb,.int .i64 pr,.int .u64 sd,.bool sm] 136 (0,0)) rfl;have p45:=HD4.out.trans hp5;have hm:=zes (Fo:=Fo) (cfg:=⟨mc,mb,pr,sd,sm⟩) (births:=births) (now:=now) (W2:=W2) (by have:=HTB.out.lt;have:=HP2.out.size;omega) (by rw[HPT.out];exact HS3.out) PS.out GS.out HB4.out PB.out (Nat.le_of_eq HU.out) (hDd.refo (Mod.refl _ _) (fun k hk => .inl (hk.imp (fun e=>e) (fun e=>ve e p45.size))) (fun k hk=>ve (hk.elim (HFO4.out k) (fun e=>e)) (p45.trans hp6).size)) (p45.trans hp6) (fun k hk=>zH p45.size (gD k hk)) hCt hp7 (zI _) hDu hp8 gT (show xN (fun k=>Fo k∨k<w8.heap.size) w9 w8.heap.size []from⟨_,_,_,_,_,_,hEv⟩) hp9 (zI _) hbx hal (zI _) (HTB.out.pure HP2.out) (fun k hk=>ve (HFO.out k hk) HP2.out.size);have hpp:=(((((HP4.out.trans p45).trans hp6).trans hp7).trans hp8).trans hp9).trans hal;have HM:=za hm;have HPP:=za hpp;have hge : ∀ k,(Jp w9.heap.size d w6.heap.size o u tt w8.heap.size Dd Do Dt W2.heap.size W3.heap.size W4.heap.size w6.heap.size w7.heap.size w8.heap.size w9.heap.size).D k→w.heap.size≤k:=fun k hk=>by
  have z1:=HP2.out.size;have z2:=PS.out.size;have z3:=PB.out.size;have z4:=p45.size;have z5:=hp6.size;have z6:=hp7.size;have z7:=hp8.size;have z8:=hp9.size;have z9:=HU.out;rcases hk with e | e | e | e | e | e | e
  ·have e':k=w9.heap.size:=e;omega
  ·have:=gD k e;omega
  ·have e':k=w6.heap.size:=e;omega
  ·have:=GS.out k e;omega
  ·have e':k=u:=e;omega
  ·have:=gT k e;omega
  ·rcases e with e | ⟨n,hn,_⟩
   ·have e':k=w8.heap.size:=e;omega
   ·cases hn
 have HGE:=za hge;clear hp5 hDd hp6 gD hCt hp7 gC hDu hp8 gT hEv hp9 hal hbx p45 hm hpp hge;go_wp2;go_ret;exact⟨_,rfl,HM.out,HPP.out,HGE.out⟩
end
section
variable{Fo:Nat→Prop}{w w':World}{b:CaB}{s:CaS}{D:Nat→Prop}{p:Nat}{t:Bst}
theorem zgd(h:zr Fo w b s)(hev:s.evs.length≤1048576)(u:FrameMode):CallsD prog 37 #[lkP b.p] u w fun e u' w'=>u'=u∧US Fo w b s e w':=by
 have hevl:b.ns.length=s.evs.length:=by have:=congrArg List.length h.evs;unfold kY at this;rw[yn]at this;exact this
 have HN:=za (j9 h);have hD:=h.pure (Mod.refl (fun _=>False) w).drew;have HE:Hid (Calls prog 71 #[lkP b.v] w.drew fun e w'=>e=.returned (.int .i64 s.evs.length)∧w.drew=w'):=za (by
  obtain⟨k0,k1,k2,k3,k4,k5,h1⟩:=hD.ev;rw[← hevl];exact UB h1)
 have ht:=Ku hD.ev (by omega);rw[hevl]at ht;have HT:=za ht;have HH:=za h;have HEV:=za hevl;have c5:w.drew.cell? ⟨b.p,5,none⟩=some (lkP b.v):=zi w b.p 5 _ _ (0,0) h.box;have HD:=za hD;clear h ht hevl hev hD
 go_enter_d func37,ntmps37
 exact Az0fk
theorem Az077 {P:Prop}(h:P:=by
 rintro e u' w' ⟨rfl,a,c,es,rfl,k1,k2,k3,b',hC,hT⟩;refine⟨rfl,⟨_,rfl⟩,zM.of hC hT ⟨⟨h2.cfg,h2.lim,h2.mc,h2.mb,h2.U,h2.nd,h2.ab,h2.due,h2.md,h2.ok,h2.inc,h2.keys,fun v hv=>(by cases hv),List.Pairwise.nil,h2.now64,h2.b64,h2.len⟩,rfl,h3,yi _,?_⟩⟩
 show 0+(zu s.L).length≤_
 omega):P:=h
theorem zM.drainD(h:zM Fo w D p t)(u:FrameMode):CallsD prog 37 #[lkP p] u w fun e u' w'=>u'=u∧(∃ v,e=.returned v)∧vD Fo w D p (vA t) w':=by
 obtain⟨b,s,h1,h2,rfl,rfl,rfl,h3,h4,h5⟩:=h;refine(zgd h1 h4 u).mono ?_;exact Az077
end
end
end Go.Proofs.YtdohbogbnheakaaGreatDoor
