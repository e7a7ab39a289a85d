/- Lemmas and contracts of functions. No condition. -/
import Derived.Test.YtpadepliilhmhaaGreatDoorJPfBoth2517
namespace Go.Proofs.YtpadepliilhmhaaGreatDoor
open _root_.Go.Proofs.Tryz
set_option maxRecDepth 100000
set_option maxHeartbeats 20000000
set_option linter.all false
section
open Go.RowKit Go.Shelf
structure Bst where
 cfg:Cfg
 now:Nat
 births:Nat
 E:List CE
 A:List Wt
 B:List Wt
 evs:List Ev
def zr(L:List (Option CE)):List CE:=L.filterMap id
def yM(L:List (Option CE))(sl:Nat):Nat:=match L[sl]? with
 | some (some x)=>x.birth
 | _=>0
def xj(L:List (Option CE))(y:Wt):Wt:=⟨yM L y.slot,y.cost⟩
def zG(s:CaS):Bst:=⟨s.cfg,s.now,s.births,zr s.L,s.A.map (xj s.L),s.B.map (xj s.L),s.evs⟩
def vu(L:List (Option CE)):Prop:=(zr L).Pairwise (fun x y=>x.birth<y.birth)
section
variable{L:List (Option CE)}{x y:CE}{i j:Nat}
theorem vM(h:L[i]? = some (some x)):yM L i=x.birth:=by unfold yM;rw[h]
theorem xO:x∈zr L ↔ ∃ i:Nat,L[i]? = some (some x):=by
 unfold zr;rw[List.mem_filterMap];constructor
 ·rintro⟨o,ho,e⟩;obtain⟨i,hi⟩:=vV ho;exact⟨i,by rw[hi,show o=some x from e]⟩
 ·rintro⟨i,hi⟩;exact⟨some x,yh hi,rfl⟩
theorem YK(A B:List (Option CE)):zr (A++B)=zr A++zr B:=List.filterMap_append
theorem zhO(L:List (Option CE)):(zr L).length=zV (zF L):=by
 induction L with
 | nil=>rfl
 | cons o L ih =>
  cases o with
  | none =>
   have e1:zr (none::L)=zr L:=rfl;have e2:zV (zF (none::L))=zV (zF L):=by unfold zV zF;simp
   rw[e1,e2,ih]
  | some x =>
   have e1:zr (some x::L)=x::zr L:=rfl;have e2:zV (zF (some x::L))=zV (zF L)+1:=by unfold zV zF;simp
   rw[e1,e2,jV,ih]
theorem zap{α:Type}{L:List α}{i:Nat}{x:α}(h:L[i]? = some x):L=L.take i++x::L.drop (i+1):=by
 obtain⟨h1,h2⟩:=zC.1 h;subst h2;rw[← ja h1,Z7]
theorem Yr(h:L[i]? = some (some x)):zr L=zr (L.take i)++x::zr (L.drop (i+1)):=by
 have e:=congrArg zr (zap h);rw[YK]at e;exact e
theorem vu.lt(h:vu L)(hij:i<j)(hi:L[i]? = some (some x))(hj:L[j]? = some (some y)):x.birth<y.birth:=by
 have hy:y∈zr (L.drop (i+1)):=xO.2 ⟨j-(i+1),by rw[List.getElem?_drop,show i+1+(j-(i+1))=j by omega];exact hj⟩;unfold vu at h;rw[Yr hi]at h;exact(uj.1 (ku.1 h).2.1).1 y hy
theorem vu.uniq(h:vu L)(hi:L[i]? = some (some x))(hj:L[j]? = some (some y))(e:x.birth=y.birth):i=j:=by
 rcases qs i j with c | c | c
 ·have:=h.lt c hi hj;omega
 ·exact c
 ·have:=h.lt c hj hi;omega
theorem Q4{α:Type}{L:List α}{i:Nat}(hi:i<L.length)(a:α):L.set i a=L.take i++a::L.drop (i+1):=by
 rw[List.set_eq_take_append_cons_drop,zh hi]
theorem vu.filter(h:vu L)(hi:L[i]? = some (some x)):(zr L).filter (fun y=>decide (y.birth≠x.birth))=zr (L.take i)++zr (L.drop (i+1)):=by
 have h':=h;unfold vu at h';rw[Yr hi]at h' ⊢;obtain⟨_,h2,h3⟩:=ku.1 h';obtain⟨h4,_⟩:=uj.1 h2;rw[qY,kL,zf (by simp)]
 congr 1
 ·exact kV.2 (fun y hy=>by have:=h3 y hy x yt;simp;omega)
 ·exact kV.2 (fun y hy=>by have:=h4 y hy;simp;omega)
theorem zdE(h:vu L)(hi:L[i]? = some (some x)):zr (L.set i none)=(zr L).filter (fun y=>decide (y.birth≠x.birth)):=by
 rw[h.filter hi,Q4 (zC.1 hi).1,YK]
 rfl
theorem zfj(h:vu L)(hi:L[i]? = some (some x))(z:CE):zr (L.set i (some z))=(zr L).map (fun y=>if y.birth=x.birth then z else y):=by
 have h':=h;unfold vu at h';rw[Yr hi]at h';rw[Q4 (zC.1 hi).1,YK,Yr hi];obtain⟨_,h2,h3⟩:=ku.1 h';obtain⟨h4,_⟩:=uj.1 h2;rw[xT,qF,zh rfl];have e1:(zr (L.take i)).map (fun y=>if y.birth=x.birth then z else y)=zr (L.take i):=by
  conv=>rhs;rw[← List.map_id (zr (L.take i))]
  exact ui (fun y hy=>by have:=h3 y hy x yt;rw[zf (by omega)];rfl)
 have e2:(zr (L.drop (i+1))).map (fun y=>if y.birth=x.birth then z else y)=zr (L.drop (i+1)):=by
  conv=>rhs;rw[← List.map_id (zr (L.drop (i+1)))]
  exact ui (fun y hy=>by have:=h4 y hy;rw[zf (by omega)];rfl)
 rw[e1,e2]
 rfl
theorem zbI : ∀ {E:List CE},E.Pairwise (fun x y=>x.birth<y.birth)→x∈E→E.find? (fun y=>y.birth==x.birth)=some x
 | [],_,h=>by cases h
 | z::E,h,hx=>by
  obtain⟨h1,h2⟩:=uj.1 h;rcases yp.1 hx with rfl | hx
  ·simp[List.find?_cons]
  ·have:=h1 x hx;rw[List.find?_cons,show(z.birth==x.birth)=false from kr.2 (by omega)];exact zbI h2 hx
theorem KO(h:i≠j)(o:Option CE):yM (L.set i o) j=yM L j:=by unfold yM;rw[yq h]
theorem KB(h:vu L)(hx:L[i]? = some (some x)) : ∀ {A:List Wt},(∀ y∈A,∃ z,L[y.slot]? = some (some z))→(zt A i).map (xj (L.set i none))=zt (A.map (xj L)) x.birth
 | [],_=>rfl
 | y::A,hA=>by
  have ih:=KB h hx (A:=A) (fun y hy=>hA y (yv _ hy));obtain⟨z,hz⟩:=hA y yt;unfold zt at ih ⊢;rw[qF,kL,kL];by_cases c:y.slot=i
  ·have hb:(xj L y).slot=x.birth:=by unfold xj;rw[c];exact vM hx
   rw[zf (by simpa using c),zf (by simpa using hb)];exact ih
  ·have hb:(xj L y).slot≠x.birth:=fun e=>by
    have e2:(xj L y).slot=z.birth:=vM hz;exact c (h.uniq hz hx (by rw[← e2,e]))
   rw[zh (by simpa using c),zh (by simpa using hb),qF,ih]
   congr 1
   unfold xj;rw[KO (fun e=>c e.symm)]
end
def vd(k:Nat)(t:Bst)(n:Nat):Bst:=match t.E.find? (fun x=>x.birth==n)with
 | some x => {t with E:=t.E.filter (fun y=>decide (y.birth≠n)),A:=zt t.A n,B:=zt t.B n,evs:=t.evs++[⟨k,x,t.now⟩]}
 | none=>t
structure CaI(P:Nat→Prop)(s:CaS):Prop where
 cfg:s.cfg.ok
 lim:s.lim=s.cfg.part
 mc:s.cfg.count=s.mc
 mb:s.cfg.bytes=s.mb
 U:s.U=Bu.of s.A s.B
 nd:(zw (s.A++s.B)).Nodup
 ab : ∀ y:Wt,y∈s.A++s.B ↔ ∃ x,s.L[y.slot]? = some (some x)∧y.cost=x.cost
 due:yE s.now s.M
 md : ∀ t:Td,t∈s.M ↔ ∃ x,s.L[t.slot]? = some (some x)∧t.dl=x.dl∧t.birth=x.birth ∧ ¬ P t.slot
 ok : ∀ x∈zr s.L,x.Ok∧x.birth≤s.births
 inc:vu s.L
 keys:(zr s.L).Pairwise (fun x y=>x.key≠y.key)
 evo : ∀ v∈s.evs,v.Ok∧v.tm≤s.now∧v.e.birth≤s.births
 evt:s.evs.Pairwise (fun v u=>v.tm≤u.tm)
 now64:s.now≤18446744073709551615
 b64:s.births≤18446744073709551615
 len:s.L.length≤s.births∧s.births≤16
section
variable{P:Nat→Prop}{s:CaS}{k sl:Nat}{x:CE}
theorem zhY{now:Nat}{M:List Td}(h:yE now M){s:Nat}(hs:s<4194304):yE now (vp M s) ∧ ∀ y,y∈vp M s↔y∈M∧y.slot≠s:=by
 unfold vp;rcases VL M s with⟨_,hh,x,e1,rfl,_,e3,e4⟩ | ⟨hno,er,e1,e2⟩
 ·rw[e1];dsimp only;rw[zh rfl];obtain⟨h1,h2,_,_⟩:=h.out e4 (qR h.ord);exact⟨h1,h2⟩
 ·rw[e1];dsimp only;rw[zf e2];refine⟨h,fun y=>⟨fun hy=>⟨hy,fun e => ?_⟩,fun hy=>hy.1⟩⟩;rcases hno with c | c
  ·exact c hs
  ·rw[uA.2 ⟨y,hy,e⟩]at c;cases c
theorem Yv{L:List (Option CE)}{i j:Nat}{z:CE}:(L.set i none)[j]? = some (some z)↔L[j]? = some (some z)∧j≠i:=by
 rw[Z5];by_cases c:i=j
 ·subst c;rw[zh rfl];by_cases c2:i<L.length
  ·rw[zh c2];exact⟨fun e=>(by injection e with e;cases e),fun e=>absurd rfl e.2⟩
  ·rw[zf c2];exact⟨fun e=>(by cases e),fun e=>absurd rfl e.2⟩
 ·rw[zf c];exact⟨fun e=>⟨e,fun q=>c q.symm⟩,fun e=>e.1⟩
theorem CaI.sl_lt(h:CaI P s)(hx:s.L[sl]? = some (some x)):sl<4194304:=by have:=(zC.1 hx).1;have:=h.len;omega
theorem CaI.sg(h:CaI P s):SgL s.A s.B:=⟨h.nd,fun y hy=>by
 obtain⟨x,hx,e⟩:=(h.ab y).1 hy;have h1:=(h.ok x (xO.2 ⟨_,hx⟩)).1;refine⟨h.sl_lt hx,?_⟩;rw[e];unfold CE.cost;have:=h1.k1;have:=h1.v1;omega⟩
theorem zaa(hx:s.L[sl]? = some (some x)):xJ k s sl=lvS s k x ⟨sl,x.cost⟩:=by unfold xJ;rw[hx]
theorem CaI.lv(h:CaI P s)(hx:s.L[sl]? = some (some x))(hev:Ev.Ok ⟨k,x,s.now⟩):CaI P (xJ k s sl)∧zG (xJ k s sl)=vd k (zG s) x.birth:=by
 rw[zaa hx];have hsl:=h.sl_lt hx;have hxm:x∈zr s.L:=xO.2 ⟨sl,hx⟩;have hlive:=zdE h.inc hx;obtain⟨hd1,hd2⟩:=zhY h.due hsl;have hy:(⟨sl,x.cost⟩:Wt)∈s.A++s.B:=(h.ab ⟨sl,x.cost⟩).2 ⟨x,hx,rfl⟩;have hU:=(Bu.of_rem h.sg hy).2;have hsub : ∀ z,z∈zr (s.L.set sl none)→z∈zr s.L:=fun z hz=>by rw[hlive]at hz;exact(qn.1 hz).1
 refine⟨⟨h.cfg,h.lim,h.mc,h.mb,?_,?_,fun y => ?_,hd1,fun t => ?_,fun z hz=>h.ok z (hsub z hz),?_,?_,fun v hv => ?_,?_,h.now64,h.b64,?_⟩,?_⟩
 ·show s.U.rem (gOf s.B sl) x.cost=_
  rw[h.U];exact hU
 ·show(zw (zt s.A sl++zt s.B sl)).Nodup
  rw[← jP];exact h.nd.sublist (List.Sublist.map _ j7)
 ·show y∈zt s.A sl++zt s.B sl ↔ ∃ z,(s.L.set sl none)[y.slot]? = some (some z)∧y.cost=z.cost
  rw[← jP,jr,h.ab];constructor
  ·rintro⟨⟨z,h1,h2⟩,h3⟩;exact⟨z,Yv.2 ⟨h1,h3⟩,h2⟩
  ·rintro⟨z,h1,h2⟩;obtain⟨h3,h4⟩:=Yv.1 h1;exact⟨⟨z,h3,h2⟩,h4⟩
 ·show t∈vp s.M sl ↔ ∃ z,(s.L.set sl none)[t.slot]? = some (some z)∧t.dl=z.dl∧t.birth=z.birth ∧ ¬ P t.slot
  rw[hd2,h.md];constructor
  ·rintro⟨⟨z,h1,h2⟩,h3⟩;exact⟨z,Yv.2 ⟨h1,h3⟩,h2⟩
  ·rintro⟨z,h1,h2⟩;obtain⟨h3,h4⟩:=Yv.1 h1;exact⟨⟨z,h3,h2⟩,h4⟩
 ·show(zr (s.L.set sl none)).Pairwise _
  rw[hlive];exact h.inc.sublist j7
 ·show(zr (s.L.set sl none)).Pairwise _
  rw[hlive];exact h.keys.sublist j7
 ·rcases yz.1 hv with hv | hv
  ·exact h.evo v hv
  ·rw[xa.1 hv];exact⟨hev,zH _,(h.ok x hxm).2⟩
 ·show(s.evs++[_]).Pairwise _
  rw[ku];refine⟨h.evt,by simp,fun v hv u hu => ?_⟩;rw[xa.1 hu];exact(h.evo v hv).2.1
 ·show(s.L.set sl none).length≤s.births∧_
  rw[xp];exact h.len
 ·have hf:=zbI h.inc hxm;have e1:=KB h.inc hx (A:=s.A) (fun y hy=>by obtain⟨z,hz,_⟩:=(h.ab y).1 (xE _ hy);exact⟨z,hz⟩);have e2:=KB h.inc hx (A:=s.B) (fun y hy=>by obtain⟨z,hz,_⟩:=(h.ab y).1 (xA _ hy);exact⟨z,hz⟩);unfold vd zG lvS;dsimp only;rw[hf,hlive,e1,e2]
theorem zbz:(xJ k s sl).now=s.now∧(xJ k s sl).cfg=s.cfg∧(xJ k s sl).births=s.births∧(xJ k s sl).mc=s.mc∧(xJ k s sl).mb=s.mb∧(xJ k s sl).lim=s.lim∧(xJ k s sl).L.length=s.L.length:=by
 unfold xJ;split
 ·exact⟨rfl,rfl,rfl,rfl,rfl,rfl,xp⟩
 ·exact⟨rfl,rfl,rfl,rfl,rfl,rfl,rfl⟩
theorem ziP(hx:s.L[sl]? = some (some x)):(xJ k s sl).L=s.L.set sl none∧(xJ k s sl).evs.length=s.evs.length+1:=by
 rw[zaa hx];exact⟨rfl,by show(s.evs++[_]).length=_;rw[zN];rfl⟩
theorem CaI.leaves : ∀ {l:List Nat} {s:CaS},CaI P s→(∀ sl∈l,∃ x,s.L[sl]? = some (some x)∧Ev.Ok ⟨k,x,s.now⟩)→l.Nodup→s.evs.length+l.length≤1048576 →
  uN k s l∧CaI P (xg k s l)∧zG (xg k s l)=(l.map (yM s.L)).foldl (vd k) (zG s)∧(∀ j z,(xg k s l).L[j]? = some (some z)↔s.L[j]? = some (some z)∧j∉l)
 | [],s,h,_,_,_=>⟨trivial,h,rfl,fun j z=>⟨fun e=>⟨e,by simp⟩,fun e=>e.1⟩⟩
 | sl::l,s,h,hl,hnd,hn=>by
  obtain⟨x,hx,hev⟩:=hl sl yt;obtain⟨hn1,hn2⟩:=yX.1 hnd;obtain⟨h1,h2⟩:=h.lv hx hev;obtain⟨h3,h4⟩:=ziP (k:=k) hx;have hfr:=zbz (k:=k) (s:=s) (sl:=sl);have hne : ∀ q∈l,q≠sl:=fun q hq e=>hn1 (e ▸ hq)
  obtain⟨k1,k2,k3,k4⟩:=CaI.leaves (l:=l) h1 (fun q hq=>by
   obtain⟨z,hz,hev2⟩:=hl q (yv _ hq);exact⟨z,by rw[h3];exact Yv.2 ⟨hz,hne q hq⟩,by rw[hfr.1];exact hev2⟩) hn2 (by simp at hn;omega)
  refine⟨⟨⟨x,hx,(h.ab ⟨sl,x.cost⟩).2 ⟨x,hx,rfl⟩,hev,by simp at hn;omega,h.U⟩,k1⟩,k2,?_,fun j z => ?_⟩
  ·have e1:l.map (yM (xJ k s sl).L)=l.map (yM s.L):=ui (fun q hq=>by rw[h3];exact KO (fun e=>hne q hq e.symm) _);rw[qF,List.foldl_cons,vM hx,← h2,← e1];exact k3
  ·have e2:xg k s (sl::l)=xg k (xJ k s sl) l:=rfl;rw[e2,k4,h3,Yv,yp,not_or];exact⟨fun e=>⟨e.1.1,e.1.2,e.2⟩,fun e=>⟨⟨e.1,e.2.1⟩,e.2.2⟩⟩
end
def td0(x:CE):Td:=⟨0,x.dl,x.birth⟩
def YG(t:Td):Td:=⟨0,t.dl,t.birth⟩
def ZV(E:List CE):List Td:=E.foldr (fun x M=>xH M (td0 x)) []
def K6(E:List CE)(tt:Nat):List Nat:=(vL tt (ZV E)).map Td.birth
def xX(t:Bst)(tt:Nat):Bst:=(K6 t.E (max t.now tt)).foldl (vd 1) {t with now:=max t.now tt}
theorem XJ : ∀ E:List CE,(ZV E).Perm (E.map td0)
 | []=>List.Perm.refl _
 | x::E=>jU.trans ((XJ E).cons _)
theorem Ud : ∀ {E:List CE},E.Pairwise (fun x y=>x.birth<y.birth)→(ZV E).Pairwise bef
 | [],_=>List.Pairwise.nil
 | x::E,h=>by
  obtain⟨h1,h2⟩:=uj.1 h;refine Xk (Ud h2) (fun y hy e => ?_);obtain⟨z,hz,rfl⟩:=zD.1 ((XJ E).mem_iff.1 hy);have:=h1 z hz;have e2:z.birth=x.birth:=e;omega
theorem ze8{R:Td→Td→Prop}(hR : ∀ a b,R a b→R b a→False){A B:List Td}(h1:A.Pairwise R)(h2:B.Pairwise R)(hm : ∀ x,x∈A↔x∈B):A.Perm B:=by
 have n1:A.Nodup:=h1.imp (fun {a b} k e=>by subst e;exact hR _ _ k k);have n2:B.Nodup:=h2.imp (fun {a b} k e=>by subst e;exact hR _ _ k k);exact(List.perm_ext_iff_of_nodup n1 n2).2 hm
theorem zfM{L:List (Option CE)}{M:List Td}(hs:M.Pairwise bef)(hm : ∀ t:Td,t∈M ↔ ∃ x,L[t.slot]? = some (some x)∧t.dl=x.dl∧t.birth=x.birth)(hi:vu L):M.map YG=ZV (zr L):=by
 have h1:(M.map YG).Pairwise bef:=by
  rw[uw];exact hs.imp (fun {a b} h=>h)
 refine Zt h1 (Ud hi) (ze8 (R:=bef) (fun a b=>Y5) h1 (Ud hi) (fun t => ?_));rw[(XJ _).mem_iff,zD,zD];constructor
 ·rintro⟨y,hy,rfl⟩;obtain⟨x,hx,e1,e2⟩:=(hm y).1 hy;exact⟨x,xO.2 ⟨_,hx⟩,by unfold td0 YG;rw[e1,e2]⟩
 ·rintro⟨x,hx,rfl⟩;obtain⟨i,hi2⟩:=xO.1 hx;exact⟨⟨i,x.dl,x.birth⟩,(hm _).2 ⟨x,hi2,rfl,rfl⟩,rfl⟩
theorem zfZ(tt:Nat)(M:List Td):vL tt (M.map YG)=(vL tt M).map YG:=by
 unfold vL;rw[List.takeWhile_map]
 rfl
section
variable{s:CaS}{t:Nat}
abbrev NoP:Nat→Prop:=fun _=>False
theorem CaI.md0(h:CaI NoP s)(t:Td):t∈s.M ↔ ∃ x,s.L[t.slot]? = some (some x)∧t.dl=x.dl∧t.birth=x.birth:=by
 rw[h.md];exact⟨fun⟨x,a,b,c,_⟩=>⟨x,a,b,c⟩,fun⟨x,a,b,c⟩=>⟨x,a,b,c,fun e=>e⟩⟩
theorem CaI.sortM(h:CaI NoP s):s.M.map YG=ZV (zr s.L):=zfM h.due.ord h.md0 h.inc
theorem CaI.lenM(h:CaI NoP s):s.M.length=(zr s.L).length:=by
 have e:=congrArg List.length h.sortM;rw[yB,(XJ _).length_eq,yB]at e;exact e
theorem CaI.fresh(h:CaI NoP s){x:CE}(hx:x∈zr s.L):s.now<x.dl∨x.dl=18446744073709551615:=by
 obtain⟨i,hi⟩:=xO.1 hx;exact(h.due.rng ⟨i,x.dl,x.birth⟩ ((h.md0 _).2 ⟨x,hi,rfl,rfl⟩)).2.1
theorem CaI.tm(h:CaI NoP s)(ht:t≤18446744073709551615):CaI (fun q=>q∈xk s t) (tmS s t)∧(xk s t).Nodup∧(∀ sl∈xk s t,∃ x,s.L[sl]? = some (some x)∧Ev.Ok ⟨1,x,max s.now t⟩)∧(xk s t).map (yM s.L)=K6 (zr s.L) (max s.now t)∧(xk s t).length≤(zr s.L).length:=by
 have h64:=h.now64;have hmx:max s.now t≤18446744073709551615:=by omega
 have hd:=(h.due.exp (tt:=max s.now t) (by omega) hmx).2.2.2;obtain⟨e1,e2⟩:=za7 hmx h.due.ord;have hin : ∀ y∈vL (max s.now t) s.M,y∈s.M∧ko (max s.now t) y=true:=fun y hy=>by rw[e1]at hy;exact qn.1 hy
 refine⟨⟨h.cfg,h.lim,h.mc,h.mb,h.U,h.nd,h.ab,hd,fun y => ?_,h.ok,h.inc,h.keys,fun v hv => ?_,h.evt,hmx,h.b64,h.len⟩,?_,fun sl hsl => ?_,?_,?_⟩
 ·show y∈kM (max s.now t) s.M ↔ ∃ x,s.L[y.slot]? = some (some x)∧y.dl=x.dl∧y.birth=x.birth ∧ ¬ y.slot∈xk s t
  rw[e2,qn];constructor
  ·rintro⟨hy,hp⟩;obtain⟨x,a,b,c⟩:=(h.md0 y).1 hy;refine⟨x,a,b,c,fun hc => ?_⟩;obtain⟨z,hz,ez⟩:=zD.1 hc;obtain⟨k1,k2⟩:=hin z hz;rw[h.due.slots z k1 y hy ez]at k2;rw[k2]at hp
   cases hp
  ·rintro⟨x,a,b,c,d⟩;have hy:=(h.md0 y).2 ⟨x,a,b,c⟩;refine⟨hy,?_⟩
   cases hp:ko (max s.now t) y with
   | false=>rfl
   | true=>exact absurd (zD.2 ⟨y,by rw[e1];exact qn.2 ⟨hy,hp⟩,rfl⟩) d
 ·obtain⟨a,b,c⟩:=h.evo v hv;exact⟨a,by show v.tm≤max s.now t;omega,c⟩
 ·show((vL (max s.now t) s.M).map Td.slot).Nodup
  refine uw.2 ?_;have hp:(vL (max s.now t) s.M).Pairwise bef:=h.due.ord.sublist (Vi _);refine hp.imp_of_mem (fun {a b} ha hb hab e => ?_);have:=h.due.slots a (hin a ha).1 b (hin b hb).1 e;subst this;exact Y5 hab hab
 ·obtain⟨y,hy,rfl⟩:=zD.1 hsl;obtain⟨k1,k2⟩:=hin y hy;obtain⟨x,a,b,c⟩:=(h.md0 y).1 k1;refine⟨x,a,⟨zH _,by show(1:Nat)≤5;omega⟩,(h.ok x (xO.2 ⟨_,a⟩)).1,hmx,?_⟩;unfold ko at k2;unfold jz;rw[b]at k2;simp at k2 ⊢;omega
 ·unfold K6;rw[← h.sortM,zfZ];unfold xk;rw[Zf,Zf];refine ui (fun y hy => ?_);obtain⟨x,a,b,c⟩:=(h.md0 y).1 (hin y hy).1
  show yM s.L y.slot=y.birth
  rw[vM a,c]
 ·unfold xk;rw[yB,← h.lenM];exact(Vi _).length_le
theorem CaI.exp(h:CaI NoP s)(ht:t≤18446744073709551615)(hn:s.evs.length+(zr s.L).length≤1048576) :
  uN 1 (tmS s t) (xk s t)∧CaI NoP (zy s t)∧zG (zy s t)=xX (zG s) t:=by
 obtain⟨h1,h2,h3,h4,h5⟩:=h.tm ht;obtain⟨k1,k2,k3,k4⟩:=h1.leaves (k:=1) (l:=xk s t) h3 h2 (by show s.evs.length+_≤_;omega);refine⟨k1,⟨k2.cfg,k2.lim,k2.mc,k2.mb,k2.U,k2.nd,k2.ab,k2.due,fun y => ?_,k2.ok,k2.inc,k2.keys,k2.evo,k2.evt,k2.now64,k2.b64,k2.len⟩,?_⟩
 ·show y∈(xg 1 (tmS s t) (xk s t)).M ↔ ∃ x,(xg 1 (tmS s t) (xk s t)).L[y.slot]? = some (some x)∧y.dl=x.dl∧y.birth=x.birth ∧ ¬ False
  rw[k2.md];constructor
  ·rintro⟨x,a,b,c,d⟩;exact⟨x,a,b,c,fun e=>e⟩
  ·rintro⟨x,a,b,c,d⟩;exact⟨x,a,b,c,((k4 _ _).1 a).2⟩
 ·show zG (xg 1 (tmS s t) (xk s t))=_
  rw[k3]
  show((xk s t).map (yM s.L)).foldl (vd 1) _=_
  rw[h4]
  rfl
end
section
variable{s:CaS}
theorem CaI.packok(h:CaI NoP s):za4 s:=⟨by
 have:=h.len;unfold Y0;have e:decide (16<(s.L.length:Int))=false:=zO (by omega);rw[e];simp⟩
theorem CaI.pk(h:CaI NoP s):CaI NoP (pkS s)∧zG (pkS s)=zG s∧(pkS s).L.length≤2*(zr s.L).length+16:=⟨h,rfl,by have:=h.len;show s.L.length≤_;omega⟩
end
def um(t:Bst)(keep:Nat):Bst:=(vP t.cfg.count.toNat t.cfg.bytes.toNat keep (t.A++t.B)).foldl (vd 2) t
theorem zaP{f:Nat→Nat}{cn by_:Nat} : ∀ {zs:List Wt} {n c:Nat},vj cn by_ (zs.map (fun y=>(⟨f y.slot,y.cost⟩:Wt))) n c=(vj cn by_ zs n c).map f
 | [],_,_=>rfl
 | z::zs,n,c=>by
  rw[qF,vj,vj];split
  ·rw[qF,zaP]
  ·rfl
theorem zeC{f:Nat→Nat}{cn by_ keep keepN:Nat}{zs:List Wt}(hk : ∀ y∈zs,f y.slot=keepN↔y.slot=keep):vP cn by_ keepN (zs.map (fun y=>(⟨f y.slot,y.cost⟩:Wt)))=(vP cn by_ keep zs).map f:=by
 unfold vP;have e1:ky keepN (zs.map (fun y=>(⟨f y.slot,y.cost⟩:Wt)))=(ky keep zs).map (fun y=>(⟨f y.slot,y.cost⟩:Wt)):=by
  unfold ky;rw[List.filter_map]
  congr 1
  refine Xu (fun y hy => ?_)
  show(!x8 keepN ⟨f y.slot,y.cost⟩)=(!x8 keep y)
  unfold x8;have:=hk y hy;by_cases c:y.slot=keep
  ·rw[zK (show(⟨f y.slot,y.cost⟩:Wt).slot=keepN from this.2 c),zK c]
  ·rw[zO (show ¬ (⟨f y.slot,y.cost⟩:Wt).slot=keepN from fun e=>c (this.1 e)),zO c]
 have e2:zq (zs.map (fun y=>(⟨f y.slot,y.cost⟩:Wt)))=zq zs:=by unfold zq;simp[Function.comp_def]
 rw[e1,e2,yB,zaP]
theorem Um{cn by_:Nat} : ∀ {zs:List Wt} {n c:Nat},(vj cn by_ zs n c).Sublist (zw zs)
 | [],_,_=>by simp[vj,zw]
 | z::zs,n,c=>by
  rw[vj];split
  ·exact(Um (zs:=zs)).cons_cons _
  ·exact List.nil_sublist _
theorem zfO{cn by_ keep:Nat}{zs:List Wt}:(vP cn by_ keep zs).Sublist (zw zs)∧keep∉vP cn by_ keep zs:=by
 unfold vP;refine⟨Um.trans (List.Sublist.map _ j7),fun h => ?_⟩;obtain⟨y,hy,e⟩:=zD.1 (Um.subset h);have:=(qn.1 hy).2;unfold x8 at this;simp[e]at this
section
variable{s:CaS}{keep keepN:Nat}
theorem CaI.lenAB(h:CaI NoP s):(s.A++s.B).length=(zr s.L).length:=by
 have h1:((s.A++s.B).map (fun y=>yM s.L y.slot)).Nodup:=by
  have hnd:=h.nd;unfold zw at hnd;refine uw.2 ((uw.1 hnd).imp_of_mem (fun {a b} ha hb hab e=>hab ?_));obtain⟨x,hx,_⟩:=(h.ab a).1 ha;obtain⟨y,hy,_⟩:=(h.ab b).1 hb;exact h.inc.uniq hx hy (by rw[← vM hx,← vM hy];exact e)
 have h2:((zr s.L).map CE.birth).Nodup:=uw.2 (h.inc.imp (fun {a b} hab e=>by omega));have hp:((s.A++s.B).map (fun y=>yM s.L y.slot)).Perm ((zr s.L).map CE.birth):=(List.perm_ext_iff_of_nodup h1 h2).2 (fun n=>by
  rw[zD,zD];constructor
  ·rintro⟨y,hy,rfl⟩;obtain⟨x,hx,_⟩:=(h.ab y).1 hy;exact⟨x,xO.2 ⟨_,hx⟩,(vM hx).symm⟩
  ·rintro⟨x,hx,rfl⟩;obtain⟨i,hi⟩:=xO.1 hx;exact⟨⟨i,x.cost⟩,(h.ab _).2 ⟨x,hi,rfl⟩,vM hi⟩)
 have:=hp.length_eq;rw[yB,yB]at this;exact this
theorem CaI.ev(h:CaI NoP s)(hk : ∀ y∈s.A++s.B,yM s.L y.slot=keepN↔y.slot=keep)(hn:s.evs.length+(zr s.L).length≤1048576∨(s.evs.length+(zr s.L).length≤1048577 ∧ ∃ c,(⟨keep,c⟩:Wt)∈s.A++s.B)) :
  uN 2 s (vQ s keep)∧CaI NoP (evS s keep)∧zG (evS s keep)=um (zG s) keepN ∧ ∀ z,s.L[keep]? = some (some z)→z∈zr (evS s keep).L:=by
 obtain⟨hs1,hs2⟩:=zfO (cn:=s.mc) (by_:=s.mb) (keep:=keep) (zs:=s.A++s.B);have hnd:(vQ s keep).Nodup:=h.nd.sublist hs1;have hlen:s.evs.length+(vQ s keep).length≤1048576:=by
  have h1:=hs1.length_le;have h2:(zw (s.A++s.B)).length=(zr s.L).length:=by unfold zw;rw[yB,h.lenAB]
  rw[h2]at h1;have e:vQ s keep=vP s.mc s.mb keep (s.A++s.B):=rfl;rcases hn with hn | ⟨hn,c,hc⟩
  ·rw[e];omega
  ·have h3:(vP s.mc s.mb keep (s.A++s.B)).length<(zw (s.A++s.B)).length:=by
    refine Nat.lt_of_le_of_ne hs1.length_le (fun e2 => ?_);have e3:=hs1.eq_of_length e2;exact hs2 (by rw[e3];exact zD.2 ⟨_,hc,rfl⟩)
   rw[e];omega
 obtain⟨k1,k2,k3,k4⟩:=h.leaves (k:=2) (l:=vQ s keep) (fun sl hsl=>by
  obtain⟨y,hy,rfl⟩:=zD.1 (hs1.subset hsl);obtain⟨x,hx,_⟩:=(h.ab y).1 hy;have hm:=xO.2 ⟨_,hx⟩;have hf:=h.fresh hm;refine⟨x,hx,⟨by show(1:Nat)≤2;omega,by show(2:Nat)≤5;omega⟩,(h.ok x hm).1,h.now64,?_⟩
  show jz x.dl s.now=false
  unfold jz;rcases hf with hf | hf
  ·simp;omega
  ·simp[hf]) hnd hlen
 refine⟨k1,k2,?_,fun z hz=>xO.2 ⟨keep,(k4 keep z).2 ⟨hz,hs2⟩⟩⟩
 show zG (xg 2 s (vQ s keep))=_
 rw[k3];unfold um;have e1:(zG s).A++(zG s).B=(s.A++s.B).map (fun y=>(⟨yM s.L y.slot,y.cost⟩:Wt)):=by
  rw[xT];rfl
 rw[e1];have c1:(zG s).cfg.count.toNat=s.mc:=by show s.cfg.count.toNat=_;rw[h.mc];rfl
 have c2:(zG s).cfg.bytes.toNat=s.mb:=by show s.cfg.bytes.toNat=_;rw[h.mb];rfl
 rw[c1,c2,zeC (f:=yM s.L) hk]
 rfl
theorem CaI.run(h:CaI NoP s)(hk : ∀ y∈s.A++s.B,yM s.L y.slot=keepN↔y.slot=keep)(hn:s.evs.length+(zr s.L).length≤1048576∨(s.evs.length+(zr s.L).length≤1048577 ∧ ∃ c,(⟨keep,c⟩:Wt)∈s.A++s.B)) :
  kR s keep∧CaI NoP (pkS (evS s keep))∧zG (pkS (evS s keep))=um (zG s) keepN∧(pkS (evS s keep)).L.length≤2*(zr (pkS (evS s keep)).L).length+16 ∧ ∀ z,s.L[keep]? = some (some z)→z∈zr (pkS (evS s keep)).L:=by
 obtain⟨h1,h2,h3,h9⟩:=h.ev hk hn;obtain⟨h4,h5,h6⟩:=h2.pk;have h7:zr (pkS (evS s keep)).L=zr (evS s keep).L:=congrArg Bst.E h5;refine⟨⟨h1,h.U,?_,h.mc,h.mb,h2.packok⟩,h4,h5.trans h3,by rw[h7];exact h6,by rw[h7];exact h9⟩;rw[h.lenAB];omega
end
def Bst.sum(t:Bst):Nat:=t.evs.length+t.E.length
def jQ(E:List CE):Prop:=E.Pairwise (fun x y=>x.birth<y.birth)
theorem zcD{x:CE} : ∀ {E:List CE},jQ E→x∈E→(E.filter (fun y=>decide (y.birth≠x.birth))).length+1=E.length
 | [],_,h=>by cases h
 | z::E,h,hx=>by
  obtain⟨h1,h2⟩:=uj.1 h;rcases yp.1 hx with rfl | hx
  ·rw[kL,zf (by simp)];have e:E.filter (fun y=>decide (y.birth≠x.birth))=E:=kV.2 (fun y hy=>by have:=h1 y hy;simp;omega);rw[e]
   rfl
  ·have:=h1 x hx;rw[kL,zh (by simp;omega),jV,jV,zcD h2 hx]
theorem zic{k:Nat}{t:Bst}{n:Nat}(h:jQ t.E):(vd k t n).sum=t.sum∧jQ (vd k t n).E∧(vd k t n).E.length≤t.E.length∧(vd k t n).now=t.now∧(vd k t n).cfg=t.cfg∧(vd k t n).births=t.births:=by
 unfold vd
 cases hf:t.E.find? (fun x=>x.birth==n)with
 | none=>exact⟨rfl,h,zH _,rfl,rfl,rfl⟩
 | some x =>
  have hx:=qk hf;have hb:x.birth=n:=by simpa using Y9 hf
  subst hb;have h1:=zcD h hx;refine⟨?_,h.sublist j7,List.length_filter_le _ _,rfl,rfl,rfl⟩;unfold Bst.sum;dsimp only;rw[zN,List.length_singleton];omega
theorem Km{k:Nat} : ∀ {l:List Nat} {t:Bst},jQ t.E→(l.foldl (vd k) t).sum=t.sum∧jQ (l.foldl (vd k) t).E∧(l.foldl (vd k) t).E.length≤t.E.length∧(l.foldl (vd k) t).now=t.now∧(l.foldl (vd k) t).cfg=t.cfg∧(l.foldl (vd k) t).births=t.births
 | [],t,h=>⟨rfl,h,zH _,rfl,rfl,rfl⟩
 | n::l,t,h=>by
  obtain⟨h1,h2,h3,h4,h5,h6⟩:=zic (k:=k) (n:=n) h;obtain⟨k1,k2,k3,k4,k5,k6⟩:=Km (k:=k) (l:=l) h2;exact⟨k1.trans h1,k2,zJ k3 h3,k4.trans h4,k5.trans h5,k6.trans h6⟩
theorem zh8{lim:Int}{f:Nat→Nat}(B:List Wt):kH lim (B.map (fun y=>(⟨f y.slot,y.cost⟩:Wt)))=kH lim B:=by
 unfold kH zq;simp[Function.comp_def]
theorem Vy{lim:Int}{f:Nat→Nat} : ∀ {B A:List Wt},(dem lim (A.map (fun y=>(⟨f y.slot,y.cost⟩:Wt))) (B.map (fun y=>(⟨f y.slot,y.cost⟩:Wt)))).1=(dem lim A B).1.map (fun y=>⟨f y.slot,y.cost⟩)∧(dem lim (A.map (fun y=>(⟨f y.slot,y.cost⟩:Wt))) (B.map (fun y=>(⟨f y.slot,y.cost⟩:Wt)))).2.1=(dem lim A B).2.1.map (fun y=>⟨f y.slot,y.cost⟩)
 | [],A=>⟨rfl,rfl⟩
 | b::B,A=>by
  have hn:=zh8 (lim:=lim) (f:=f) (b::B)
  cases h:kH lim (b::B)with
  | false =>
   rw[h]at hn;rw[XZ h,XZ hn];exact⟨rfl,rfl⟩
  | true =>
   rw[h]at hn;have e:(b::B).map (fun y=>(⟨f y.slot,y.cost⟩:Wt))=⟨f b.slot,b.cost⟩::B.map (fun y=>(⟨f y.slot,y.cost⟩:Wt)):=rfl;rw[e]at hn ⊢;rw[VJ h,VJ hn];have ih:=Vy (lim:=lim) (f:=f) (B:=B) (A:=A++[b]);rw[xT]at ih;exact ih
theorem Uf(lim:Int)(A B:List Wt):(dem lim A B).1++(dem lim A B).2.1=A++B:=by
 obtain⟨ys,B2,e1,e2⟩:=Uv lim B A;rw[e2,e1];simp
theorem zag(lim:Int)(A B:List Wt)(x:Wt):((xi lim A B x).1++(xi lim A B x).2.1).Perm (zt (A++B) x.slot++[x]):=by
 unfold xi;split
 ·rw[Uf,jP,vr,vr];exact(List.perm_append_comm).append_left _
 ·rw[Uf,jP,vr]
def Yq(t:Bst)(n c:Nat):Bst := {t with A:=(xi t.cfg.part t.A t.B ⟨n,c⟩).1,B:=(xi t.cfg.part t.A t.B ⟨n,c⟩).2.1}
theorem zbD{f:Nat→Nat}{sl:Nat}{A:List Wt}(h : ∀ y∈A,f y.slot=f sl↔y.slot=sl):zt (A.map (fun y=>(⟨f y.slot,y.cost⟩:Wt))) (f sl)=(zt A sl).map (fun y=>⟨f y.slot,y.cost⟩):=by
 unfold zt;rw[List.filter_map]
 congr 1
 refine Xu (fun y hy => ?_);have:=h y hy
 show decide (f y.slot≠f sl)=decide (y.slot≠sl)
 exact decide_eq_decide.2 (not_congr this)
theorem zbC{lim:Int}{f:Nat→Nat}{sl c:Nat}{A B:List Wt}(h : ∀ y∈A++B,f y.slot=f sl↔y.slot=sl) :
  (xi lim (A.map (fun y=>(⟨f y.slot,y.cost⟩:Wt))) (B.map (fun y=>(⟨f y.slot,y.cost⟩:Wt))) ⟨f sl,c⟩).1=(xi lim A B ⟨sl,c⟩).1.map (fun y=>⟨f y.slot,y.cost⟩)∧(xi lim (A.map (fun y=>(⟨f y.slot,y.cost⟩:Wt))) (B.map (fun y=>(⟨f y.slot,y.cost⟩:Wt))) ⟨f sl,c⟩).2.1=(xi lim A B ⟨sl,c⟩).2.1.map (fun y=>⟨f y.slot,y.cost⟩):=by
 have e1:=zbD (A:=A) (f:=f) (sl:=sl) (fun y hy=>h y (xE _ hy));have e2:=zbD (A:=B) (f:=f) (sl:=sl) (fun y hy=>h y (xA _ hy));unfold xi;dsimp only;rw[e1,e2];by_cases e:lim = -1
 ·rw[zh e,zh e];have e3:=Vy (lim:=lim) (f:=f) (A:=zt A sl++[⟨sl,c⟩]) (B:=zt B sl);rw[xT]at e3;exact e3
 ·rw[zf e,zf e];have e3:=Vy (lim:=lim) (f:=f) (A:=zt A sl) (B:=zt B sl++[⟨sl,c⟩]);rw[xT]at e3;exact e3
theorem zaK{now:Nat}{M:List Td}{s dl b:Nat}(h:yE now M)(hb:jR M s b=false)(hs:s<4194304)(h0:0<b)(h1:b≤18446744073709551615)(hd:now<dl∨dl=18446744073709551615)(hd1:dl≤18446744073709551615) :
  uY now M s dl b=0∧yE now (ke now M s dl b) ∧ ∀ y,y∈ke now M s dl b↔(y∈M∧y.slot≠s)∨y=⟨s,dl,b⟩:=by
 have hr:uY now M s dl b=0:=by
  unfold uY;rw[zh ⟨hs,by omega⟩,zf (by omega),hb]
  rfl
 have hno : ∀ y∈M,y.slot≠s→y.birth≠b:=fun y hy h1 h2=>by
  have:=YP.2 ⟨y,hy,.inr ⟨h1,h2⟩⟩;rw[hb]at this
  cases this
 obtain⟨N,hN,hD,hm⟩ : ∃ N,ji M s=N∧yE now N ∧ ∀ y,y∈N↔y∈M∧y.slot≠s:=by
  refine⟨ji M s,rfl,?_⟩;unfold ji
  cases hh:xD M s with
  | false =>
   rw[zf (by decide)];exact⟨h,fun y=>⟨fun hy=>⟨hy,fun e=>by rw[uA.2 ⟨y,hy,e⟩]at hh;cases hh⟩,fun hy=>hy.1⟩⟩
  | true =>
   rw[zh rfl];obtain⟨x,k1,k2,k3,k4⟩:=Vf (XN.2 hh);subst k2;obtain⟨h1,h2,_,_⟩:=h.out k4 (qR h.ord);exact⟨h1,h2⟩
 refine⟨hr,?_,fun y => ?_⟩
 ·unfold ke;rw[zh hr,hN];exact hD.put (fun y hy=>((hm y).1 hy).2) (fun y hy=>hno y ((hm y).1 hy).1 ((hm y).1 hy).2) ⟨hs,hd,hd1,h0,h1⟩
 ·unfold ke;rw[zh hr,hN,ZP,hm];exact⟨fun e=>e.elim .inr .inl,fun e=>e.elim .inr .inl⟩
section
variable{s:CaS}{sl:Nat}{x z:CE}
theorem CaI.evOk(h:CaI NoP s){k:Nat}(hk:2≤k∧k≤5)(hx:x∈zr s.L):Ev.Ok ⟨k,x,s.now⟩:=by
 refine⟨⟨by show 1≤k;omega,by show k≤5;omega⟩,(h.ok x hx).1,h.now64,?_⟩;have hf:=h.fresh hx
 show jz x.dl s.now=(k==1)
 rw[kr.2 (show k≠1 by omega)];unfold jz;rcases hf with hf | hf
 ·simp;omega
 ·simp[hf]
theorem CaI.tell(h:CaI NoP s){v:Ev}(hv:v.Ok)(ht:v.tm=s.now)(hb:v.e.birth≤s.births):CaI NoP {s with evs:=s.evs++[v]}:=by
 refine⟨h.cfg,h.lim,h.mc,h.mb,h.U,h.nd,h.ab,h.due,h.md,h.ok,h.inc,h.keys,fun u hu => ?_,?_,h.now64,h.b64,h.len⟩
 ·rcases yz.1 hu with hu | hu
  ·exact h.evo u hu
  ·rw[xa.1 hu];exact⟨hv,by show v.tm≤s.now;omega,hb⟩
 ·show(s.evs++[v]).Pairwise _
  rw[ku];refine⟨h.evt,by simp,fun u hu q hq => ?_⟩;rw[xa.1 hq,ht];exact(h.evo u hu).2.1
theorem ZU{L:List (Option CE)}{i j:Nat}{z q:CE}(hi:i<L.length):(L.set i (some z))[j]? = some (some q)↔(j≠i∧L[j]? = some (some q))∨(j=i∧q=z):=by
 rw[Z5];by_cases c:i=j
 ·subst c;rw[zh rfl,zh hi];exact⟨fun e => .inr ⟨rfl,by injection e with e;injection e with e;exact e.symm⟩,fun e=>e.elim (fun e=>absurd rfl e.1) (fun e=>by rw[e.2])⟩
 ·rw[zf c];exact⟨fun e => .inl ⟨fun q=>c q.symm,e⟩,fun e=>e.elim (fun e=>e.2) (fun e=>absurd e.1.symm c)⟩
theorem CaI.notBusy(h:CaI NoP s)(hx:s.L[sl]? = some (some x)):jR s.M sl x.birth=false:=by
 cases hb:jR s.M sl x.birth with
 | false=>rfl
 | true =>
  obtain⟨y,hy,e⟩:=YP.1 hb;obtain⟨q,h1,h2,h3⟩:=(h.md0 y).1 hy;rcases e with⟨e1,e2⟩ | ⟨e1,e2⟩
  ·rw[e1,hx]at h1;injection h1 with h1;injection h1 with h1
   subst h1;exact absurd h3 e2
  ·exact absurd (h.inc.uniq h1 hx (by rw[← h3,e2])) e1
def YR(s:CaS)(sl:Nat)(z:CE):CaS:=Zp {s with L:=s.L.set sl (some z),M:=ke s.now s.M sl z.dl z.birth} ⟨sl,z.cost⟩
def ZG(t:Bst)(z:CE):Bst:=Yq {t with E:=t.E.map (fun y=>if y.birth=z.birth then z else y)} z.birth z.cost
theorem CaI.bornIff(h:CaI NoP s)(hx:s.L[sl]? = some (some x)) : ∀ y∈s.A++s.B,yM s.L y.slot=yM s.L sl↔y.slot=sl:=fun y hy=>by
 obtain⟨q,hq,_⟩:=(h.ab y).1 hy;rw[vM hq,vM hx];exact⟨fun e=>h.inc.uniq hq hx e,fun e=>by rw[e,hx]at hq;injection hq with hq;injection hq with hq;rw[hq]⟩
theorem Azdyq {P:Prop}(h:P:=by
 unfold zw;rw[xT,xq];refine⟨h.nd.sublist (List.Sublist.map _ j7),by simp,fun a ha b hb' e => ?_⟩;obtain⟨y,hy,rfl⟩:=zD.1 ha;have hb2:b=sl:=by simpa using hb'
 exact(jr.1 hy).2 (by rw[e,hb2])):P:=h
theorem CaI.hit(h:CaI NoP s)(hx:s.L[sl]? = some (some x))(hb:z.birth=x.birth)(hk:z.key=x.key)(hz:z.Ok)(hd:s.now<z.dl∨z.dl=18446744073709551615) :
  CaI NoP (YR s sl z)∧zG (YR s sl z)=ZG (zG s) z∧uY s.now s.M sl z.dl z.birth=0:=by
 have hsl:=h.sl_lt hx;have hi:=(zC.1 hx).1;have hxm:x∈zr s.L:=xO.2 ⟨sl,hx⟩;have hlive:=zfj h.inc hx z;obtain⟨hr,hd1,hd2⟩:=zaK (dl:=z.dl) h.due (h.notBusy hx) hsl (by rw[← hb];exact hz.b0) (by rw[← hb];exact hz.b1) hd hz.d1;rw[← hb]at hr hd1 hd2;have hp:=zag s.lim s.A s.B ⟨sl,z.cost⟩;have hnd:(zw (zt (s.A++s.B) sl++[⟨sl,z.cost⟩])).Nodup:=by
  exact Azdyq
 have hbm : ∀ y∈zr (s.L.set sl (some z)),y=z∨(y∈zr s.L∧y.birth≠x.birth):=fun y hy=>by
  rw[hlive]at hy;obtain⟨q,hq,e⟩:=zD.1 hy;by_cases c:q.birth=x.birth
  ·rw[zh c]at e;exact .inl e.symm
  ·rw[zf c]at e;subst e;exact .inr ⟨hq,c⟩
 have hbirths:(zr (s.L.set sl (some z))).map CE.birth=(zr s.L).map CE.birth:=by
  rw[hlive,Zf];refine ui (fun y hy => ?_)
  show CE.birth (if y.birth=x.birth then z else y)=y.birth
  by_cases c:y.birth=x.birth
  ·rw[zh c,hb,c]
  ·rw[zf c]
 have hkeys:(zr (s.L.set sl (some z))).map CE.key=(zr s.L).map CE.key:=by
  rw[hlive,Zf];refine ui (fun y hy => ?_)
  show CE.key (if y.birth=x.birth then z else y)=y.key
  by_cases c:y.birth=x.birth
  ·rw[zh c,hk];obtain⟨j,hj⟩:=xO.1 hy;have:=h.inc.uniq hj hx c;subst this;rw[hx]at hj;injection hj with hj;injection hj with hj
   rw[hj]
  ·rw[zf c]
 have hba : ∀ j,yM (s.L.set sl (some z)) j=yM s.L j:=fun j=>by
  by_cases c:sl=j
  ·subst c;rw[vM hx,vM (x:=z) (by rw[yj hi]),hb]
  ·exact KO c _
 have hbw:xj (s.L.set sl (some z))=(fun y=>(⟨yM s.L y.slot,y.cost⟩:Wt)):=by
  funext y
  unfold xj;rw[hba]
 refine⟨⟨h.cfg,h.lim,h.mc,h.mb,rfl,?_,fun y => ?_,hd1,fun t => ?_,fun y hy => ?_,?_,?_,h.evo,h.evt,h.now64,h.b64,?_⟩,?_,hr⟩
 ·show(zw ((xi s.lim s.A s.B ⟨sl,z.cost⟩).1++(xi s.lim s.A s.B ⟨sl,z.cost⟩).2.1)).Nodup
  exact((hp.map Wt.slot).nodup_iff).2 hnd
 ·show y∈(xi s.lim s.A s.B ⟨sl,z.cost⟩).1++(xi s.lim s.A s.B ⟨sl,z.cost⟩).2.1 ↔ ∃ q,(s.L.set sl (some z))[y.slot]? = some (some q)∧y.cost=q.cost
  rw[hp.mem_iff,yz,jr,h.ab,xa];constructor
  ·rintro(⟨⟨q,h1,h2⟩,h3⟩ | rfl)
   ·exact⟨q,(ZU hi).2 (.inl ⟨h3,h1⟩),h2⟩
   ·exact⟨z,(ZU hi).2 (.inr ⟨rfl,rfl⟩),rfl⟩
  ·rintro⟨q,h1,h2⟩;rcases(ZU hi).1 h1 with⟨h3,h4⟩ | ⟨h3,rfl⟩
   ·exact .inl ⟨⟨q,h4,h2⟩,h3⟩
   ·refine .inr ?_
    cases y
    simp at h2 h3;rw[h2,h3]
 ·show t∈ke s.now s.M sl z.dl z.birth ↔ ∃ q,(s.L.set sl (some z))[t.slot]? = some (some q)∧t.dl=q.dl∧t.birth=q.birth ∧ ¬ False
  rw[hd2,h.md0];constructor
  ·rintro(⟨⟨q,h1,h2,h3⟩,h4⟩ | rfl)
   ·exact⟨q,(ZU hi).2 (.inl ⟨h4,h1⟩),h2,h3,fun e=>e⟩
   ·exact⟨z,(ZU hi).2 (.inr ⟨rfl,rfl⟩),rfl,rfl,fun e=>e⟩
  ·rintro⟨q,h1,h2,h3,_⟩;rcases(ZU hi).1 h1 with⟨h4,h5⟩ | ⟨h4,rfl⟩
   ·exact .inl ⟨⟨q,h5,h2,h3⟩,h4⟩
   ·refine .inr ?_
    cases t
    simp at h2 h3 h4;rw[h2,h3,h4]
 ·rcases hbm y hy with rfl | ⟨k1,_⟩
  ·exact⟨hz,by rw[hb];exact(h.ok x hxm).2⟩
  ·exact h.ok y k1
 ·show(zr (s.L.set sl (some z))).Pairwise _
  have h1:=h.inc;unfold vu at h1;rw[← uw (R:=fun a b:Nat=>a<b) (f:=CE.birth),hbirths,uw];exact h1
 ·show(zr (s.L.set sl (some z))).Pairwise _
  have h1:=h.keys;rw[← uw (R:=fun a b:ByteArray=>a≠b) (f:=CE.key),hkeys,uw];exact h1
 ·show(s.L.set sl (some z)).length≤s.births∧_
  rw[xp];exact h.len
 ·obtain⟨u1,u2⟩:=zbC (lim:=s.lim) (f:=yM s.L) (sl:=sl) (c:=z.cost) (h.bornIff hx);rw[vM hx,← hb]at u1 u2;unfold YR Zp ZG Yq zG;dsimp only;rw[hbw,hlive,← hb,← h.lim];have ea:s.A.map (xj s.L)=s.A.map (fun y=>(⟨yM s.L y.slot,y.cost⟩:Wt)):=rfl;have eb:s.B.map (xj s.L)=s.B.map (fun y=>(⟨yM s.L y.slot,y.cost⟩:Wt)):=rfl;rw[ea,eb,u1,u2]
theorem Az4c9 {P:Prop}(h:P:=by
 have eb:s.B.map (xj s.L)=s.B.map (fun y=>(⟨yM s.L y.slot,y.cost⟩:Wt)):=rfl;rw[ea,eb,u1,u2]
 rfl):P:=h
theorem CaI.use(h:CaI NoP s)(hx:s.L[sl]? = some (some x)):CaI NoP (Zp s ⟨sl,x.cost⟩)∧zG (Zp s ⟨sl,x.cost⟩)=Yq (zG s) x.birth x.cost:=by
 have hp:=zag s.lim s.A s.B ⟨sl,x.cost⟩;have hmem : ∀ y,y∈(xi s.lim s.A s.B ⟨sl,x.cost⟩).1++(xi s.lim s.A s.B ⟨sl,x.cost⟩).2.1↔y∈s.A++s.B:=fun y=>by
  rw[hp.mem_iff,yz,jr,xa];constructor
  ·rintro(⟨h1,_⟩ | rfl)
   ·exact h1
   ·exact(h.ab ⟨sl,x.cost⟩).2 ⟨x,hx,rfl⟩
  ·intro hy;by_cases c:y.slot=sl
   ·refine .inr ?_;obtain⟨q,h1,h2⟩:=(h.ab y).1 hy;rw[c,hx]at h1;injection h1 with h1;injection h1 with h1
    cases y
    simp at c h2;rw[c,h2,h1]
   ·exact .inl ⟨hy,c⟩
 have hnd:(zw (zt (s.A++s.B) sl++[⟨sl,x.cost⟩])).Nodup:=by
  exact Azdyq
 refine⟨⟨h.cfg,h.lim,h.mc,h.mb,rfl,?_,fun y=>(hmem y).trans (h.ab y),h.due,h.md,h.ok,h.inc,h.keys,h.evo,h.evt,h.now64,h.b64,h.len⟩,?_⟩
 ·show(zw ((xi s.lim s.A s.B ⟨sl,x.cost⟩).1++(xi s.lim s.A s.B ⟨sl,x.cost⟩).2.1)).Nodup
  exact((hp.map Wt.slot).nodup_iff).2 hnd
 ·obtain⟨u1,u2⟩:=zbC (lim:=s.lim) (f:=yM s.L) (sl:=sl) (c:=x.cost) (h.bornIff hx);rw[vM hx]at u1 u2;unfold Zp Yq zG;dsimp only;rw[← h.lim];have ea:s.A.map (xj s.L)=s.A.map (fun y=>(⟨yM s.L y.slot,y.cost⟩:Wt)):=rfl;exact Az4c9
def kW(s:CaS)(z:CE):CaS := {s with births:=z.birth,L:=s.L++[some z],M:=ke s.now s.M s.L.length z.dl z.birth,A:=s.A++[⟨s.L.length,z.cost⟩],U:=Bu.of (s.A++[⟨s.L.length,z.cost⟩]) s.B}
def Ul(t:Bst)(z:CE):Bst := {t with births:=z.birth,E:=t.E++[z],A:=t.A++[⟨z.birth,z.cost⟩]}
theorem CaI.new(h:CaI NoP s)(hb:z.birth=s.births+1)(hz:z.Ok)(hk : ∀ x∈zr s.L,x.key≠z.key)(hd:s.now<z.dl∨z.dl=18446744073709551615)(hl:s.births<16) :
  CaI NoP (kW s z)∧zG (kW s z)=Ul (zG s) z∧uY s.now s.M s.L.length z.dl z.birth=0:=by
 have hnb:jR s.M s.L.length z.birth=false:=by
  cases hb':jR s.M s.L.length z.birth with
  | false=>rfl
  | true =>
   obtain⟨y,hy,e⟩:=YP.1 hb';obtain⟨q,h1,h2,h3⟩:=(h.md0 y).1 hy;rcases e with⟨e1,e2⟩ | ⟨e1,e2⟩
   ·rw[e1,xu (zH _)]at h1;cases h1
   ·have:=(h.ok q (xO.2 ⟨_,h1⟩)).2;omega
 obtain⟨hr,hd1,hd2⟩:=zaK (dl:=z.dl) h.due hnb (by have:=h.len;omega) hz.b0 hz.b1 hd hz.d1;have hget : ∀(j:Nat) (q:CE),(s.L++[some z])[j]? = some (some q)↔s.L[j]? = some (some q)∨(j=s.L.length∧q=z):=fun j q=>by
  rcases qs j s.L.length with c | c | c
  ·rw[uc c];exact⟨.inl,fun e=>e.elim (fun e=>e) (fun e=>by omega)⟩
  ·subst c;rw[kK (zH _),YD,xu (zH _)];simp;exact⟨fun e=>e.symm,fun e=>e.symm⟩
  ·rw[xu (by simp;omega),xu (by omega)];simp;omega
 have hlive:zr (s.L++[some z])=zr s.L++[z]:=YK _ _;have hlt : ∀ y∈s.A++s.B,y.slot<s.L.length:=fun y hy=>by obtain⟨q,h1,_⟩:=(h.ab y).1 hy;exact(zC.1 h1).1
 have hbw : ∀ y∈s.A++s.B,xj (s.L++[some z]) y=xj s.L y:=fun y hy=>by
  unfold xj yM;rw[uc (hlt y hy)]
 refine⟨⟨h.cfg,h.lim,h.mc,h.mb,rfl,?_,fun y => ?_,hd1,fun t => ?_,fun y hy => ?_,?_,?_,fun v hv => ?_,h.evt,h.now64,hz.b1,?_⟩,?_,hr⟩
 ·show(zw ((s.A++[⟨s.L.length,z.cost⟩])++s.B)).Nodup
  have hp:((s.A++[(⟨s.L.length,z.cost⟩:Wt)])++s.B).Perm ((s.A++s.B)++[⟨s.L.length,z.cost⟩]):=by
   rw[vr,vr];exact(List.perm_append_comm).append_left _
  refine((hp.map Wt.slot).nodup_iff).2 ?_;rw[xT,xq];refine⟨h.nd,by simp,fun a ha b hb' e => ?_⟩;obtain⟨y,hy,rfl⟩:=zD.1 ha;have hb2:b=s.L.length:=by simpa using hb'
  have:=hlt y hy;omega
 ·show y∈(s.A++[⟨s.L.length,z.cost⟩])++s.B ↔ ∃ q,(s.L++[some z])[y.slot]? = some (some q)∧y.cost=q.cost
  have e1:y∈(s.A++[(⟨s.L.length,z.cost⟩:Wt)])++s.B↔y∈s.A++s.B∨y=⟨s.L.length,z.cost⟩:=by
   simp only[List.mem_append,List.mem_singleton];constructor
   ·rintro((a | a) | a)
    ·exact .inl (.inl a)
    ·exact .inr a
    ·exact .inl (.inr a)
   ·rintro((a | a) | a)
    ·exact .inl (.inl a)
    ·exact .inr a
    ·exact .inl (.inr a)
  rw[e1,h.ab];constructor
  ·rintro(⟨q,h1,h2⟩ | rfl)
   ·exact⟨q,(hget _ _).2 (.inl h1),h2⟩
   ·exact⟨z,(hget _ _).2 (.inr ⟨rfl,rfl⟩),rfl⟩
  ·rintro⟨q,h1,h2⟩;rcases(hget _ _).1 h1 with h3 | ⟨h3,rfl⟩
   ·exact .inl ⟨q,h3,h2⟩
   ·refine .inr ?_
    cases y
    simp at h2 h3;rw[h2,h3]
 ·show t∈ke s.now s.M s.L.length z.dl z.birth ↔ ∃ q,(s.L++[some z])[t.slot]? = some (some q)∧t.dl=q.dl∧t.birth=q.birth ∧ ¬ False
  rw[hd2,h.md0];constructor
  ·rintro(⟨⟨q,h1,h2,h3⟩,h4⟩ | rfl)
   ·exact⟨q,(hget _ _).2 (.inl h1),h2,h3,fun e=>e⟩
   ·exact⟨z,(hget _ _).2 (.inr ⟨rfl,rfl⟩),rfl,rfl,fun e=>e⟩
  ·rintro⟨q,h1,h2,h3,_⟩;rcases(hget _ _).1 h1 with h4 | ⟨h4,rfl⟩
   ·exact .inl ⟨⟨q,h4,h2,h3⟩,fun e=>by have:=(zC.1 h4).1;omega⟩
   ·refine .inr ?_
    cases t
    simp at h2 h3 h4;rw[h2,h3,h4]
 ·have hy':y∈zr (s.L++[some z]):=hy;rw[hlive]at hy';rcases yz.1 hy' with k1 | k1
  ·obtain⟨k2,k3⟩:=h.ok y k1;exact⟨k2,by show y.birth≤z.birth;omega⟩
  ·rw[xa.1 k1];exact⟨hz,zH _⟩
 ·show(zr (s.L++[some z])).Pairwise _
  rw[hlive,ku];refine⟨h.inc,by simp,fun a ha b hb' => ?_⟩;rw[xa.1 hb'];have:=(h.ok a ha).2;omega
 ·show(zr (s.L++[some z])).Pairwise _
  rw[hlive,ku];refine⟨h.keys,by simp,fun a ha b hb' => ?_⟩;rw[xa.1 hb'];exact hk a ha
 ·obtain⟨a,b,c⟩:=h.evo v hv;exact⟨a,b,by show v.e.birth≤z.birth;omega⟩
 ·show(s.L++[some z]).length≤z.birth∧z.birth≤16
  have:=h.len;rw[zN]
  show _+1≤_∧_
  omega
 ·unfold kW Ul zG;dsimp only;rw[hlive,xT];have e1:s.A.map (xj (s.L++[some z]))=s.A.map (xj s.L):=ui (fun y hy=>hbw y (xE _ hy));have e2:s.B.map (xj (s.L++[some z]))=s.B.map (xj s.L):=ui (fun y hy=>hbw y (xA _ hy));have e3:[(⟨s.L.length,z.cost⟩:Wt)].map (xj (s.L++[some z]))=[⟨z.birth,z.cost⟩]:=by
   show[xj (s.L++[some z]) ⟨s.L.length,z.cost⟩]=_
   unfold xj;rw[vM (x:=z) (by simp)]
  rw[e1,e2,e3]
def U0(s:CaS)(c:Cfg)(mc mb:Nat):CaS := {s with cfg:=c,lim:=c.part,mc:=mc,mb:=mb,A:=(dem c.part s.A s.B).1,B:=(dem c.part s.A s.B).2.1,U:=Bu.of (dem c.part s.A s.B).1 (dem c.part s.A s.B).2.1}
def zbp(t:Bst)(c:Cfg):Bst := {t with cfg:=c,A:=(dem c.part t.A t.B).1,B:=(dem c.part t.A t.B).2.1}
theorem CaI.res(h:CaI NoP s){c:Cfg}{mc mb:Nat}(hc:c.ok)(h1:c.count=mc)(h2:c.bytes=mb):CaI NoP (U0 s c mc mb)∧zG (U0 s c mc mb)=zbp (zG s) c:=by
 have e:=Uf c.part s.A s.B;refine⟨⟨hc,rfl,h1,h2,rfl,?_,fun y => ?_,h.due,h.md,h.ok,h.inc,h.keys,h.evo,h.evt,h.now64,h.b64,h.len⟩,?_⟩
 ·show(zw ((dem c.part s.A s.B).1++(dem c.part s.A s.B).2.1)).Nodup
  rw[e];exact h.nd
 ·show y∈(dem c.part s.A s.B).1++(dem c.part s.A s.B).2.1↔_
  rw[e];exact h.ab y
 ·obtain⟨u1,u2⟩:=Vy (lim:=c.part) (f:=yM s.L) (A:=s.A) (B:=s.B);unfold U0 zbp zG;dsimp only;have ea:s.A.map (xj s.L)=s.A.map (fun y=>(⟨yM s.L y.slot,y.cost⟩:Wt)):=rfl;exact Az4c9
end
def yC(Fo:Nat→Prop)(w:World)(D:Nat→Prop)(p:Nat)(t:Bst):Prop :=
 ∃ b s,zu Fo w b s∧CaI NoP s∧b.p=p∧b.D=D∧zG s=t∧s.L.length≤2*(zr s.L).length+16∧s.evs.length≤1048576∧s.evs.length+(zr s.L).length≤1048577
def uV(Fo:Nat→Prop)(w:World)(D:Nat→Prop)(p:Nat)(t:Bst)(w':World):Prop := ∃ D',yC Fo w' D' p t∧Mod D w w'∧ye D D' w
def xR(t:Bst):Int:=if 1048576<t.evs.length+t.E.length then 7 else 0
def qA(t:Bst)(key:ByteArray):Option CE:=t.E.find? (fun x=>decide (x.key=key))
def vY(t:Bst)(tt:Nat):Bst:=um (xX t tt) 0
section
variable{Fo:Nat→Prop}{w w':World}{b:CaB}{s:CaS}{D:Nat→Prop}{p:Nat}{t:Bst}
theorem yC.pure(h:yC Fo w D p t)(hp:zb w w'):yC Fo w' D p t:=by
 obtain⟨b,s,h1,h2⟩:=h;exact⟨b,s,h1.pure hp,h2⟩
theorem yC.lt(h:yC Fo w D p t){k:Nat}(hk:D k):k<w.heap.size:=by
 obtain⟨b,s,h1,h2,_,e,_⟩:=h;subst e;exact h1.lt hk
theorem yC.beside{S:Nat→Prop}(h:yC Fo w D p t)(hm:Mod S w w')(hd : ∀ k,D k → ¬ S k)(hS : ∀ k,k<w.heap.size→S k→Fo k ∨ ∀ cs fz,w.heap[k]? ≠ some (.cells cs 5 fz))(h0 : ¬ S 0):yC Fo w' D p t:=by
 obtain⟨b,s,h1,h2,h3,e,h4⟩:=h;subst e;exact⟨b,s,h1.beside hm hd hS h0,h2,h3,rfl,h4⟩
theorem uV.trans{w1 w2:World}{D1:Nat→Prop}{t2:Bst}(hm:Mod D w w1)(hg:ye D D1 w)(h:uV Fo w1 D1 p t2 w2):uV Fo w D p t2 w2:=by
 obtain⟨D2,h1,h2,h3⟩:=h;refine⟨D2,h1,Mod.trans' hm h2 (fun _ _ e=>e) (fun i hi e=>(hg i e).elim (fun e=>e) (fun e=>by omega)),fun k hk => ?_⟩;rcases h3 k hk with e | e
 ·exact hg k e
 ·exact .inr (zJ hm.size e)
theorem CaI.noKey(h:CaI NoP s)(c:Nat)(hc:4194304≤c) : ∀ y∈s.A++s.B,yM s.L y.slot=0↔y.slot=c:=fun y hy=>by
 obtain⟨x,hx,_⟩:=(h.ab y).1 hy;rw[vM hx];have h1:=(h.ok x (xO.2 ⟨_,hx⟩)).1.b0;have h2:=h.sl_lt hx;exact⟨fun e=>by omega,fun e=>by omega⟩
theorem CaI.find_some(h:CaI NoP s){key:ByteArray}{x:CE}(hf:qA (zG s) key=some x) : ∃ sl,xG (zF s.L) key=some sl∧s.L[sl]? = some (some x)∧x.key=key:=by
 unfold qA at hf;have hx:x∈zr s.L:=qk hf;have hk:x.key=key:=by simpa using Y9 hf
 obtain⟨i,hi⟩:=xO.1 hx
 cases hfk:xG (zF s.L) key with
 | none =>
  unfold xG at hfk;have h1:=XY.1 hfk (some x.ent) (yh (Xb hi));rw[Uw.2 ⟨x.ent,rfl,hk⟩]at h1
  cases h1
 | some sl =>
  obtain⟨e,he,hke⟩:=VR hfk;unfold zF at he;rw[yu]at he
  cases ho:s.L[sl]? with
  | none=>rw[ho]at he;cases he
  | some o =>
   rw[ho]at he
   cases o with
   | none=>simp at he
   | some z =>
    have hz:z.ent=e:=by simpa using he
    have hzk:z.key=key:=by rw[← hke,← hz]
    have hzm:z∈zr s.L:=xO.2 ⟨sl,ho⟩;have hxz:z=x:=by
     have hkeys:=h.keys;rcases List.getElem_of_mem hzm with⟨i1,l1,e1⟩
     rcases List.getElem_of_mem hx with⟨i2,l2,e2⟩
     have hp:=XP.1 hkeys;rcases qs i1 i2 with c | c | c
     ·exact absurd (by rw[e1,e2,hzk,hk]) (hp i1 i2 l1 l2 c)
     ·subst c;rw[← e1,e2]
     ·exact absurd (by rw[e1,e2,hzk,hk]) (hp i2 i1 l2 l1 c)
    exact⟨sl,rfl,by rw[← hxz];exact ho,hk⟩
theorem CaI.find_none(_:CaI NoP s){key:ByteArray}(hf:qA (zG s) key=none):xG (zF s.L) key=none ∧ ∀ x∈zr s.L,x.key≠key:=by
 unfold qA at hf;have hn : ∀ x∈zr s.L,x.key≠key:=fun x hx e=>by
  have:=kY.1 hf x hx;simp[e]at this
 refine⟨?_,hn⟩
 cases hfk:xG (zF s.L) key with
 | none=>rfl
 | some sl =>
  obtain⟨e,he,hke⟩:=VR hfk;unfold zF at he;rw[yu]at he
  cases ho:s.L[sl]? with
  | none=>rw[ho]at he;cases he
  | some o =>
   rw[ho]at he
   cases o with
   | none=>simp at he
   | some z =>
    have hz:z.ent=e:=by simpa using he
    exact absurd (by rw[← hke,← hz]) (hn z (xO.2 ⟨sl,ho⟩))
theorem VX(s:CaS):ub s=xR (zG s):=by
 unfold ub xR zG;dsimp only;rw[← zhO]
theorem ZE(h:xR (zG s)=0):s.evs.length+(zr s.L).length≤1048576:=by
 unfold xR at h;split at h
 ·cases h
 ·rename_i c;show(zG s).evs.length+(zG s).E.length≤_;omega
theorem Xa(hi:jQ t.E)(tt:Nat):(xX t tt).sum=t.sum∧jQ (xX t tt).E∧(xX t tt).E.length≤t.E.length∧(xX t tt).now=max t.now tt∧(xX t tt).cfg=t.cfg∧(xX t tt).births=t.births :=
 Km (t := {t with now:=max t.now tt}) hi
theorem Qx(hi:jQ t.E)(k:Nat):(um t k).sum=t.sum∧jQ (um t k).E∧(um t k).E.length≤t.E.length∧(um t k).now=t.now∧(um t k).cfg=t.cfg∧(um t k).births=t.births:=Km hi
theorem CaI.exp_sum(h:CaI NoP s){tt:Nat}(ht:tt≤18446744073709551615)(hr:xR (zG s)=0):(zy s tt).evs.length+(zr (zy s tt).L).length≤1048576∧(zr (zy s tt).L).length≤(zr s.L).length:=by
 have h1:=ZE hr;obtain⟨_,_,h2⟩:=h.exp ht h1;obtain⟨h3,_,h4,_⟩:=Xa (t:=zG s) h.inc tt;rw[← h2]at h3 h4;exact⟨by show(zG (zy s tt)).sum≤_;rw[h3];exact h1,h4⟩
theorem CaI.fin(h:CaI NoP s)(hn:s.evs.length+(zr s.L).length≤1048576){t2:Bst}(ht:zG s=t2) :
  kR s yN∧CaI NoP (pkS (evS s yN))∧zG (pkS (evS s yN))=um t2 0∧(pkS (evS s yN)).L.length≤2*(zr (pkS (evS s yN)).L).length+16∧(pkS (evS s yN)).evs.length≤1048576∧(pkS (evS s yN)).evs.length+(zr (pkS (evS s yN)).L).length≤1048577:=by
 subst ht;obtain⟨h1,h2,h3,h4,_⟩:=h.run (keep:=yN) (keepN:=0) (h.noKey yN (by decide)) (.inl hn);obtain⟨k1,_,_⟩:=Qx (t:=zG s) h.inc 0;rw[← h3]at k1;have k2:(pkS (evS s yN)).evs.length+(zr (pkS (evS s yN)).L).length=s.evs.length+(zr s.L).length:=k1;exact⟨h1,h2,h3,h4,by omega,by omega⟩
theorem yC.of{b':CaB}{s':CaS}{t':Bst}(hC:zu Fo w' b' s')(hT:zx w w' b b')(hi:CaI NoP s'∧zG s'=t'∧s'.L.length≤2*(zr s'.L).length+16∧s'.evs.length≤1048576∧s'.evs.length+(zr s'.L).length≤1048577):uV Fo w b.D b.p t' w' :=
 ⟨b'.D,⟨b',s',hC,hi.1,hT.p,rfl,hi.2⟩,hT.mod,hT.grew⟩
def Qy(key:ByteArray)(t:Bst):Int:=vi [ZR key,xR t]
theorem zk0{key:ByteArray}(h:Qy key t=0):ZR key=0∧xR t=0:=by
 unfold Qy at h;have e:vi [ZR key,xR t]=if ZR key=0 then(if xR t=0 then 0 else xR t)else ZR key:=rfl
 rw[e]at h;by_cases c:ZR key=0
 ·rw[zh c]at h;by_cases c2:xR t=0
  ·exact⟨c,c2⟩
  ·rw[zf c2]at h;exact absurd h c2
 ·rw[zf c]at h;exact absurd h c
def zlr(t:Bst)(tt:Nat)(key:ByteArray):Bool × Bst:=match qA (xX t tt) key with
 | some x=>(true,um (vd 4 (xX t tt) x.birth) 0)
 | none=>(false,vY t tt)
theorem yC.now_(h:yC Fo w D p t):Calls prog 21 #[lkP p] w fun e w'=>e=.returned (.int .u64 t.now)∧w=w':=by
 obtain⟨b,s,h1,h2,rfl,rfl,rfl,_⟩:=h;exact zf9 h1
def zk6(t:Bst):Nat:=UO (ZV t.E)
theorem yC.births(h:yC Fo w D p t):Calls prog 82 #[lkP p] w fun e w'=>e=.returned (.int .u64 t.births)∧w=w':=by
 obtain⟨b,s,h1,h2,rfl,rfl,rfl,_⟩:=h;exact zij h1
theorem yC.config(h:yC Fo w D p t):Calls prog 32 #[lkP p] w fun e w'=>e=.returned t.cfg.v∧zb w w':=by
 obtain⟨b,s,h1,h2,rfl,rfl,rfl,_⟩:=h;exact zfD h1
end
section
variable{Fo:Nat→Prop}{w w':World}{b:CaB}{s:CaS}
def TcS(p c1 j bx i:Nat)(pt v:Value)(Y:World):Prop:=Y.cell? ⟨c1,0,none⟩=some (lkP p)∧Y.cell? ⟨p,j,none⟩=some pt∧Y.cell? ⟨bx,i,none⟩=some v
theorem ziD(L:List (Option CE))(i:Nat)(z:CE):zF (L.set i (some z))=(zF L).set i (some z.ent):=by unfold zF;rw[Yg];rfl
end

structure StC(w:World)(p:Nat)(key:ByteArray)(f v:Value)(cost q0 q4:Nat):Prop where
 z0:w.heap[q0]? = some (.cells #[lkP p] 23 (0,0))
 z1:w.heap[q0+1]? = some (.cells #[.string key] 9 (0,0))
 z2:w.heap[q0+2]? = some (.cells #[v] 45 (0,0))
 z3:w.heap[q0+3]? = some (.cells #[f] 69 (0,0))
 z4:w.heap[q4]? = some (.cells #[.int .i64 cost] 3 (0,0))
structure StN(D:Nat→Prop)(q0 q4:Nat):Prop where
 z0 : ¬ D q0
 z1 : ¬ D (q0+1)
 z2 : ¬ D (q0+2)
 z3 : ¬ D (q0+3)
 z4 : ¬ D q4
abbrev stA(q0 q4:Nat):Array Value:=#[.pointer (some ⟨q0,0,none⟩),.pointer (some ⟨q0+1,0,none⟩),.pointer (some ⟨q0+3,0,none⟩),.pointer (some ⟨q0+2,0,none⟩),.pointer (some ⟨q4,0,none⟩)]
section
variable{Fo S:Nat→Prop}{w w':World}{b:CaB}{s:CaS}{p cost q0 q4:Nat}{key:ByteArray}{f v:Value}
theorem StC.mod(h:StC w p key f v cost q0 q4)(hm:Mod S w w')(hn:StN S q0 q4):StC w' p key f v cost q0 q4 :=
 ⟨hm.heap hn.z0 h.z0,hm.heap hn.z1 h.z1,hm.heap hn.z2 h.z2,hm.heap hn.z3 h.z3,hm.heap hn.z4 h.z4⟩
theorem StC.pure(h:StC w p key f v cost q0 q4)(hm:zb w w'):StC w' p key f v cost q0 q4:=h.mod hm ⟨fun e=>e,fun e=>e,fun e=>e,fun e=>e,fun e=>e⟩
theorem StN.sub{D D':Nat→Prop}(h:StN D q0 q4)(hd : ∀ k,D' k→D k):StN D' q0 q4:=⟨fun e=>h.z0 (hd _ e),fun e=>h.z1 (hd _ e),fun e=>h.z2 (hd _ e),fun e=>h.z3 (hd _ e),fun e=>h.z4 (hd _ e)⟩
theorem StN.to{b':CaB}(h:StN b.D q0 q4)(ht:zx w w' b b')(hc:StC w p key f v cost q0 q4):StN b'.D q0 q4 :=
 ⟨ht.nd h.z0 (zl hc.z0),ht.nd h.z1 (zl hc.z1),ht.nd h.z2 (zl hc.z2),ht.nd h.z3 (zl hc.z3),ht.nd h.z4 (zl hc.z4)⟩
def zaR(Fo:Nat→Prop)(w:World)(b:CaB)(sl:Nat)(s':CaS)(e:Ending)(w':World):Prop:=e=.returned (.int .u32 (sl:Nat)) ∧ ∃ b',zu Fo w' b' s'∧zx w w' b b'
def jc(s:CaS)(sl:Nat)(x z:CE):CaS:=YR {s with evs:=s.evs++[⟨3,x,s.now⟩]} sl z
theorem zd8(h:zu Fo w b s)(hi:CaI NoP s){gf:Nat}{lf:Array Value}{a:Option Addr}{n c:Nat}(hc:StC w b.p key (.func (.func gf) #[] lf) (.slice a n c) cost q0 q4)(hnc:StN b.D q0 q4){vs:List UInt8}(hv:zn w (.slice a n c) 1 (zS vs))(hvn : ∀ g,uJ (.slice a n c)=some g → ¬ b.D g)(hvl:vs.length≤65536)(hk:key.size≤140737488355328){sl:Nat}{x:CE}(hf:xG (zF s.L) key=some sl)(hx:s.L[sl]? = some (some x))(hkx:x.key=key)(hcost:cost=key.size+vs.length+48){dl:Nat}(hdl:dl≤18446744073709551615)(hd:s.now<dl∨dl=18446744073709551615)(hev:s.evs.length<1048576)(hn:(s.A++s.B).length≤1048577)
  (eg : ∀ args w,(callFunc gf args).run prog w=.ok (.enter gf args) w) (hF : ∀ W,zb w W→Calls prog gf lf W (fun e w'=>e=.returned (.int .u64 dl)∧zb W w')) :
  Calls prog 57 (stA q0 q4) w (zaR Fo w b sl (jc s sl x ⟨key,vs,dl,x.birth⟩)):=by
 subst hcost;have hxo:=(hi.ok x (xO.2 ⟨_,hx⟩)).1;have hy:(⟨sl,x.cost⟩:Wt)∈s.A++s.B:=(hi.ab ⟨sl,x.cost⟩).2 ⟨x,hx,rfl⟩;have hsl:=hi.sl_lt hx;have hevo:=hi.evOk (k:=3) (by decide) (xO.2 ⟨_,hx⟩);have hfv:kN (zF s.L) key=(sl,0):=by unfold kN;rw[hf]
 have HFi:=za (fun(Y:World) (hY:zb w Y)=>Qe (h.dict.pure hY) key hk);unfold YO at HFi;rw[hfv]at HFi;have HH:=za h;have HCC:=za hc;have HNC:=za hnc;have HV:=za hv;have HVN:=za hvn;have HVL:=za hvl;have HF:=za hF;have HX:=za hx;have HY:=za hy;have HU:=za hi.U;have HCF:=za hi.cfg;have HLI:=za hi.lim;have HNN:=za hn;have HSL:=za hsl;have HXO:=za hxo;have HD64:=za hdl;have HEV:=za hev;have HEO:=za hevo;have HKX:=za hkx;have HK250:=za hxo.k1;rw[hkx]at HK250;have HR0:=za (hi.hit (z:=⟨key,vs,dl,x.birth⟩) hx rfl hkx.symm ⟨by rw[← hkx];exact hxo.k0,by rw[← hkx];exact hxo.k1,hvl,hdl,hxo.b0,hxo.b1⟩ hd).2.2;have HS:=za (fun(Y:World) (hY:zb w Y)=>(⟨zj Y q0 0 _ _ (0,0) (hY.heap (fun h=>h) hc.z0),zj Y b.p 0 _ _ (0,0) (hY.heap (fun h=>h) h.box),zj Y (q0+1) 0 _ _ (0,0) (hY.heap (fun h=>h) hc.z1)⟩:FdS b.p b.d q0 key Y));obtain⟨co,hco⟩:=zc (key.size+vs.length+48);have HCO:=za hco;rw[hco]at HCC;clear h hi hc hnc hv hvn hvl hk hf hx hkx hdl hd hev hn hF hxo hy hsl hevo hfv hco;go_enter func57,ntmps57;go_upto_region 1 with fail
 refine rHd (S:=FdS b.p b.d q0 key) (HS.out _ (Mod.refl _ _).drew) (fun h_ => ?_);refine hLd 0 ?_;refine hTk 1 ?_;refine hTk 2 ?_;refine hTk 3 ?_;refine hLd 4 ?_;refine hLd 5 ?_
 (refine hSt 6 (fun K hK => ?_);go_simp;refine zm (HFi.out _ (Mod.refl _ _).drew) ?_;rintro e u1 ⟨rfl,hq1⟩;refine hK.out _ _ ?_ (fun h_ => ?_);(· exact HS.out _ ((Mod.refl (fun _=>False) w).drew.trans hq1));clear hK K;refine clA ?_)
 refine hTk 7 ?_;refine hTk 8 ?_;refine hTk 9 ?_;refine hTk 10 ?_;refine hTk 11 ?_;refine hDn ?_;clear h_;have hp1:zb w u1:=(Mod.refl (fun _=>False) w).drew.trans hq1;have HP1:=za hp1;have z3:=hp1.heap (fun h=>h) HCC.out.z3;have HFu:=za (HF.out _ hp1);clear hq1 hp1 HFi HS;obtain⟨z3_0,z3_f,z3_l,H_z3⟩:=cr1 z3;clear z3;go_upto_region 3 with(go_at_fn gf;refine HFu.out.mono ?_;rintro e u2 ⟨rfl,hp2⟩)
 clear z3_0 z3_f z3_l;clear H_z3;have HP2:=za (HP1.out.trans hp2);clear hp2 HP1 HFu HF;have z0:=HP2.out.heap (fun h=>h) HCC.out.z0;have C2:=HH.out.pure HP2.out;have hb2:=C2.box;have HG:=za (JT C2.dict (Xb HX.out));have HC2:=za C2;clear C2;obtain⟨hb2_0,hb2_1,hb2_2,hb2_3,hb2_4,hb2_5,hb2_6,hb2_7,hb2_8,hb2_9,hb2_10,hb2_f,hb2_l,H_hb2⟩:=xz hb2;clear hb2;obtain⟨z0_0,z0_f,z0_l,H_z0⟩:=cr1 z0;clear z0;go_upto_region 5 with(go_at_call 53;refine HG.out.mono ?_;rintro e w2 ⟨ax,nx,cx,rfl,hby,hfr,hp2⟩)
 clear hb2_0 hb2_1 hb2_2 hb2_3 hb2_4 hb2_5 hb2_6 hb2_7 hb2_8 hb2_9 hb2_10 hb2_f hb2_l;clear z0_0 z0_f z0_l;clear H_hb2 H_z0;have hal:zb w2 (w2.alloc (.cells #[.string x.key,.slice ax nx cx,.int .u64 x.dl,.int .u64 x.birth] 47)):=(Mod.refl _ w2).alloc _;have hbx:=zi (w:=w2) (o := .cells #[.string x.key,.slice ax nx cx,.int .u64 x.dl,.int .u64 x.birth] 47 (0,0)) rfl;have hp3:=HP2.out.trans (hp2.trans hal);have hby3:=zA hby hal (fun _ _ h=>h);have hsz2:=(HP2.out.trans hp2).size;have C3:=HC2.out.pure (hp2.trans hal);generalize w2.alloc (.cells #[.string x.key,.slice ax nx cx,.int .u64 x.dl,.int .u64 x.birth] 47)=W3 at *;obtain⟨bx,hbe⟩:=zc w2.heap.size;rw[hbe]at hbx hsz2 ⊢;have HT:=za (zaf C3 (x:=⟨3,x,s.now⟩) HEO.out rfl HEV.out (yy.read hby3 (Yy x.val)));have hnx : ¬ b.D bx:=fun e=>by have:=HH.out.lt e;omega
 have HNX:=za hnx;have HBX:=za hbx;have HP3:=za hp3;have HC3:=za C3;have z0:=hp3.heap (fun h=>h) HCC.out.z0;clear hbe hal hp2 hby hfr hsz2 hp3 HG hby3 C3 hnx HC2 HP2;obtain⟨hbx_0,hbx_1,hbx_2,hbx_3,hbx_f,hbx_l,H_hbx⟩:=cr4 hbx;clear hbx;obtain⟨z0_0,z0_f,z0_l,H_z0⟩:=cr1 z0;clear z0;go_upto_region 6 with(go_at_call 58;refine HT.out.mono ?_;rintro e w4 ⟨rfl,b4,C4,T4⟩)
 clear hbx_0 hbx_1 hbx_2 hbx_3 hbx_f hbx_l;clear z0_0 z0_f z0_l;clear H_hbx H_z0 HT
 -- the value is laid in
 have HCC4:=za ((HCC.out.pure HP3.out).mod T4.mod HNC.out);have HNC4:=za (HNC.out.to T4 (HCC.out.pure HP3.out));have HBX4:=za (T4.mod.heap HNX.out HBX.out);have HNX4:=za (T4.nd HNX.out (zl HBX.out));have HV3:=za (HV.out.frame HP3.out (fun _ _ h=>h));have HV4:=za (HV3.out.frame T4.mod HVN.out);have HC4:=za C4;have HT4:=za T4;clear C4 T4;have hp5:zb w4 w4.drew:=(Mod.refl (fun _=>False) w4).drew;have hst:=zfF (HC4.out.pure hp5).dict (s:=sl) (x:=x.ent) (Xb HX.out) a n c vs (HV4.out.frame hp5 (fun _ _ h=>h)) HVL.out (dl:Int);have e5:(zF s.L).set sl (some (x.ent.with vs (dl:Int)))=zF (s.L.set sl (some ⟨x.key,vs,dl,x.birth⟩)):=(ziD s.L sl ⟨x.key,vs,dl,x.birth⟩).symm;dsimp only at hst;rw[e5]at hst;have HST:=za hst;have hb4:=(HC4.out.pure hp5).box;rw[HT4.out.p]at hb4;have HS2:=za (⟨zj w4.drew q0 0 _ _ (0,0) (hp5.heap (fun h=>h) HCC4.out.z0),zj w4.drew b.p 0 _ _ (0,0) hb4,zj w4.drew (q0+2) 0 _ _ (0,0) (hp5.heap (fun h=>h) HCC4.out.z2)⟩:TcS b.p q0 0 (q0+2) 0 (yV b4.d) (.slice a n c) w4.drew);clear hst e5 hb4 hp5;refine rHd (S:=TcS b.p q0 0 (q0+2) 0 (yV b4.d) (.slice a n c)) HS2.out (fun h_ => ?_);refine hLd 0 ?_;refine hTk 1 ?_;refine hTk 2 ?_;refine hTk 3 ?_;refine hLd 4 ?_;refine hTk 5 ?_;refine hLd 6 ?_;refine hTk 7 ?_
 (refine hSt 8 (fun K hK => ?_);go_simp;refine HST.out.mono ?_;rintro e u5 ⟨rfl,hr5,hm5⟩;refine hK.out _ _ ?_ (fun h_ => ?_);(· exact⟨hm5.cell (a:=⟨q0,0,none⟩) (fun e=>HNC4.out.z0 (.inr (.inl e))) h_.1,hm5.cell (a:=⟨b.p,0,none⟩) (fun e=>by have e2:b4.cl b.p=2:=HC4.out.sep.d _ e;rw[← HT4.out.p,HC4.out.sep.p]at e2;cases e2) h_.2.1,hm5.cell (a:=⟨q0+2,0,none⟩) (fun e=>HNC4.out.z2 (.inr (.inl e))) h_.2.2⟩);clear hK K;refine clA ?_)
 refine hDn ?_;clear h_;have hm5':Mod b4.Dd w4 u5:=Mod.trans' ((Mod.refl (fun _=>False) w4).drew) hm5 (fun _ _ h=>h.elim) (fun _ _ h=>h);obtain⟨b5,C5,T5⟩ : ∃ b5,zu Fo u5 b5 {s with evs:=s.evs++[⟨3,x,s.now⟩],L:=s.L.set sl (some ⟨x.key,vs,dl,x.birth⟩)}∧zx w4 u5 b4 b5:=⟨_,HC4.out.putDict (L':=s.L.set sl (some ⟨x.key,vs,dl,x.birth⟩)) hr5 hm5' (fun _ h => .inl h),zx.ofDict hm5' (fun _ h => .inl h)⟩;have HC5:=za C5;have HT5:=za T5;have HTT5:=za (HT4.out.trans T5);have HBX5:=za (T5.mod.heap HNX4.out HBX4.out);have HCC5:=za (HCC4.out.mod T5.mod HNC4.out);have HNC5:=za (HNC4.out.to T5 HCC4.out);have HNX5:=za (T5.nd HNX4.out (zl HBX4.out));clear hr5 hm5 hm5' C5 T5 HST HS2 HC4 HBX4 HCC4 HNC4 HNX4 HV4 HV3;go_upto_region 7 with fail
 have hp6:zb u5 u5.drew:=(Mod.refl (fun _=>False) u5).drew;have hds:=(HC5.out.pure hp6).due.set (s:=sl) (dl:=dl) (b:=x.birth) (by have:=HSL.out;omega) HD64.out HXO.out.b1 HR0.out;have HDS:=za hds;have hb5:=(HC5.out.pure hp6).box;rw[HTT5.out.p]at hb5;have HS3:=za (⟨zj u5.drew q0 0 _ _ (0,0) (hp6.heap (fun h=>h) HCC5.out.z0),zj u5.drew b.p 4 _ _ (0,0) hb5,zj u5.drew bx 3 _ _ (0,0) (hp6.heap (fun h=>h) HBX5.out)⟩:TcS b.p q0 4 bx 3 (lkP b5.t) (.int .u64 x.birth) u5.drew);clear hb5 hp6 hds;refine rHd (S:=TcS b.p q0 4 bx 3 (lkP b5.t) (.int .u64 x.birth)) HS3.out (fun h_ => ?_);refine hLd 0 ?_;refine hTk 1 ?_;refine hTk 2 ?_;refine hTk 3 ?_;refine hLd 4 ?_;refine hTk 5 ?_;refine hTk 6 ?_;refine hTk 7 ?_;refine hLd 8 ?_
 (refine hSt 9 (fun K hK => ?_);go_simp;refine HDS.out.mono ?_;rintro e u6 ⟨rfl,⟨D6,hr6,hg6⟩,hm6⟩;refine hK.out _ _ ?_ (fun h_ => ?_);(· exact⟨hm6.cell (a:=⟨q0,0,none⟩) (fun e=>HNC5.out.z0 (.inr (.inr (.inr (.inr (.inr (.inl e))))))) h_.1,hm6.cell (a:=⟨b.p,4,none⟩) (fun e=>by have e2:b5.cl b.p=6:=HC5.out.sep.t _ e;rw[← HTT5.out.p,HC5.out.sep.p]at e2;cases e2) h_.2.1,hm6.cell (a:=⟨bx,3,none⟩) (fun e=>HNX5.out (.inr (.inr (.inr (.inr (.inr (.inl e))))))) h_.2.2⟩);clear hK K;refine clA ?_)
 refine hDn ?_;clear h_;have hm6':Mod b5.Dt u5 u6:=Mod.trans' ((Mod.refl (fun _=>False) u5).drew) hm6 (fun _ _ h=>h.elim) (fun _ _ h=>h);obtain⟨b6,C6,T6⟩ : ∃ b6,zu Fo u6 b6 {s with evs:=s.evs++[⟨3,x,s.now⟩],L:=s.L.set sl (some ⟨x.key,vs,dl,x.birth⟩),M:=ke s.now s.M sl dl x.birth}∧zx u5 u6 b5 b6:=⟨_,HC5.out.putDue hr6 hm6' hg6,zx.ofDue hm6' hg6⟩;have HTT6:=za (HTT5.out.trans T6);have hco2:co≤1099511627776:=by have:=HCO.out;have:=HK250.out;have:=HVL.out;omega
 have HUse:=za (zdb C6 (y:=⟨sl,x.cost⟩) HY.out (nc:=co) hco2 HU.out HCF.out HLI.out HNN.out);rw[HTT6.out.p]at HUse;dsimp only at HUse;have h06:=T6.mod.heap HNC5.out.z0 HCC5.out.z0;have h46:=T6.mod.heap HNC5.out.z4 HCC5.out.z4;have HC6:=za C6;clear hr6 hg6 hm6 hm6' C6 T6 HDS HS3 HC5 HT5 HBX5 HCC5 HNC5 hco2;obtain⟨h46_0,h46_f,h46_l,H_h46⟩:=cr1 h46;clear h46;obtain⟨h06_0,h06_f,h06_l,H_h06⟩:=cr1 h06;clear h06
 go_wp2_with (go_at_call 61;refine HUse.out.mono ?_;rintro e w7 ⟨rfl,b7,C7,T7⟩)
 go_ret;refine⟨rfl,b7,?_,(zx.pure HP3.out).trans (HTT6.out.trans T7)⟩;unfold jc YR;have ez:(⟨key,vs,dl,x.birth⟩:CE).cost=co:=HCO.out;rw[ez];rw[HKX.out]at C7;exact C7
end
section
variable{Fo S:Nat→Prop}{w w':World}{b:CaB}{s:CaS}{p cost q0 q4:Nat}{key:ByteArray}{f v:Value}
def SnS(p d q0:Nat)(key:ByteArray)(v:Value)(Y:World):Prop:=Y.cell? ⟨q0,0,none⟩=some (lkP p)∧Y.cell? ⟨p,0,none⟩=some (yV d)∧Y.cell? ⟨q0+1,0,none⟩=some (.string key)∧Y.cell? ⟨q0+2,0,none⟩=some v
theorem zfG(h:zu Fo w b s)(hi:CaI NoP s){gf:Nat}{lf:Array Value}{a:Option Addr}{n c:Nat}(hc:StC w b.p key (.func (.func gf) #[] lf) (.slice a n c) cost q0 q4)(hnc:StN b.D q0 q4){vs:List UInt8}(hv:zn w (.slice a n c) 1 (zS vs))(hvn : ∀ g,uJ (.slice a n c)=some g → ¬ b.D g)(hk0:0<key.size)(hk:key.size≤250)(hvl:vs.length≤65536)(hf:xG (zF s.L) key=none)(hcost:cost=key.size+vs.length+48){dl:Nat}(hdl:dl≤18446744073709551615)(hd:s.now<dl∨dl=18446744073709551615)(hn:(s.A++s.B).length≤1048576)(hl:s.L.length<4194304)(hb:s.births<18446744073709551615)
  (hr:uY s.now s.M s.L.length dl (s.births+1)=0)
  (eg : ∀ args w,(callFunc gf args).run prog w=.ok (.enter gf args) w) (hF : ∀ W,zb w W→Calls prog gf lf W (fun e w'=>e=.returned (.int .u64 dl)∧zb W w')) :
  Calls prog 57 (stA q0 q4) w (zaR Fo w b s.L.length (kW s ⟨key,vs,dl,s.births+1⟩)):=by
 subst hcost;have hfv:kN (zF s.L) key=(0,9):=by unfold kN;rw[hf]
 have HFi:=za (fun(Y:World) (hY:zb w Y)=>Qe (h.dict.pure hY) key (by omega));unfold YO at HFi;rw[hfv]at HFi;have hlE:(zF s.L).length=s.L.length:=by unfold zF;rw[yB]
 have hsn:s.L.length∉zw (s.A++s.B):=fun e=>by
  obtain⟨y,hy,e2⟩:=zD.1 e;obtain⟨q,h1,_⟩:=(hi.ab y).1 hy;have:=(zC.1 h1).1;omega
 have hsum:zq (s.A++s.B)≤1152922604118474752:=by
  have k3:zq (s.A++s.B)≤(s.A++s.B).length*1099511627776:=YY (fun x hx=>(hi.sg.rng x hx).2);have k4:(s.A++s.B).length*1099511627776≤1048576*1099511627776:=YN _ hn;omega
 have HH:=za h;have HCC:=za hc;have HNC:=za hnc;have HV:=za hv;have HVN:=za hvn;have HVL:=za hvl;have HF:=za hF;have HFN:=za hf;have HU:=za hi.U;have HNN:=za hn;have HD64:=za hdl;have HK0:=za hk0;have HK:=za hk;have HL:=za hl;have HBB:=za hb;have HLE:=za hlE;have HSN:=za hsn;have HSU:=za hsum;have HR:=za hr;have HS:=za (fun(Y:World) (hY:zb w Y)=>(⟨zj Y q0 0 _ _ (0,0) (hY.heap (fun h=>h) hc.z0),zj Y b.p 0 _ _ (0,0) (hY.heap (fun h=>h) h.box),zj Y (q0+1) 0 _ _ (0,0) (hY.heap (fun h=>h) hc.z1)⟩:FdS b.p b.d q0 key Y));obtain⟨co,hco⟩:=zc (key.size+vs.length+48);have HCO:=za hco;rw[hco]at HCC;obtain⟨nb,hnb⟩:=zc (s.births+1);have HNB:=za hnb;obtain⟨sl,hsl⟩:=zc s.L.length;have HSL:=za hsl;rw[hnb,hsl]at HR;rw[hsl]at HLE HSN HL;rw[hnb,hsl];clear h hi hc hnc hv hvn hvl hk hk0 hf hdl hd hn hF hfv hco hnb hl hb hlE hsn hsum hr hsl;go_enter func57,ntmps57;go_upto_region 1 with fail
 refine rHd (S:=FdS b.p b.d q0 key) (HS.out _ (Mod.refl _ _).drew) (fun h_ => ?_);refine hLd 0 ?_;refine hTk 1 ?_;refine hTk 2 ?_;refine hTk 3 ?_;refine hLd 4 ?_;refine hLd 5 ?_
 (refine hSt 6 (fun K hK => ?_);go_simp;refine zm (HFi.out _ (Mod.refl _ _).drew) ?_;rintro e u1 ⟨rfl,hq1⟩;refine hK.out _ _ ?_ (fun h_ => ?_);(· exact HS.out _ ((Mod.refl (fun _=>False) w).drew.trans hq1));clear hK K;refine clA ?_)
 refine hTk 7 ?_;refine hTk 8 ?_;refine hTk 9 ?_;refine hTk 10 ?_;refine hTk 11 ?_;refine hDn ?_;clear h_;have hp1:zb w u1:=(Mod.refl (fun _=>False) w).drew.trans hq1;have HP1:=za hp1;have z3:=hp1.heap (fun h=>h) HCC.out.z3;have HFu:=za (HF.out _ hp1);clear hq1 hp1 HFi HS;obtain⟨z3_0,z3_f,z3_l,H_z3⟩:=cr1 z3;clear z3;go_upto_region 3 with(go_at_fn gf;refine HFu.out.mono ?_;rintro e u2 ⟨rfl,hp2⟩)
 clear z3_0 z3_f z3_l;clear H_z3;have HP2:=za (HP1.out.trans hp2);clear hp2 HP1 HFu HF;have z0:=HP2.out.heap (fun h=>h) HCC.out.z0;have C2:=HH.out.pure HP2.out;have hb2:=C2.box;have hnx:=zc5 C2.ctr (by have:=HBB.out;omega);have e1:nxV s.births=(nb,0):=by unfold nxV;rw[zf (by have:=HBB.out;omega),HNB.out]
 have e2:nxS s.births=nb:=by unfold nxS;rw[zf (by have:=HBB.out;omega),HNB.out]
 unfold Jm at hnx;rw[e1,e2]at hnx;have HNx:=za hnx;have HC2:=za C2;clear C2 hnx e1 e2;obtain⟨hb2_0,hb2_1,hb2_2,hb2_3,hb2_4,hb2_5,hb2_6,hb2_7,hb2_8,hb2_9,hb2_10,hb2_f,hb2_l,H_hb2⟩:=xz hb2;clear hb2;obtain⟨z0_0,z0_f,z0_l,H_z0⟩:=cr1 z0;clear z0;go_upto_region 11 with(go_at_call 62;refine HNx.out.mono ?_;rintro e w3 ⟨rfl,hr3,hm3⟩)
 clear hb2_0 hb2_1 hb2_2 hb2_3 hb2_4 hb2_5 hb2_6 hb2_7 hb2_8 hb2_9 hb2_10 hb2_f hb2_l;clear z0_0 z0_f z0_l;clear H_hb2 H_z0;obtain⟨b3,C3,T3⟩ : ∃ b3,zu Fo w3 b3 {s with births:=nb}∧zx u2 w3 b b3:=⟨_,HC2.out.putCtr hr3 hm3,zx.ofCtr hm3⟩;have HCC3:=za ((HCC.out.pure HP2.out).mod T3.mod HNC.out);have HNC3:=za (HNC.out.to T3 (HCC.out.pure HP2.out));have hv2:=HV.out.frame HP2.out (fun _ _ h=>h);have HVN3:=za (fun g hg=>T3.nd (HVN.out g hg) (hv2.lt (by decide) hg));have HV3:=za (hv2.frame T3.mod HVN.out);have HC3:=za C3;have HT3:=za T3;clear hr3 hm3 C3 T3 HNx HC2 hv2
 -- the entry is laid in
 have hp4:zb w3 w3.drew:=(Mod.refl (fun _=>False) w3).drew;have hin:=zjP (HC3.out.pure hp4).dict (CE.ent ⟨key,vs,dl,nb⟩) ⟨HK0.out,HK.out,HVL.out,by have:=HNB.out;show(0:Int)<(nb:Int);omega⟩ (by rw[HLE.out];exact HL.out) HFN.out a n c (HV3.out.frame hp4 (fun _ _ h=>h));have e5:zF s.L++[some (CE.ent ⟨key,vs,dl,nb⟩)]=zF (s.L++[some ⟨key,vs,dl,nb⟩]):=by unfold zF;rw[xT];rfl
 unfold zcB at hin;dsimp only at hin;rw[HLE.out,e5]at hin;have HIN:=za hin;have hb3:=(HC3.out.pure hp4).box;rw[HT3.out.p]at hb3;have HS2:=za (⟨zj w3.drew q0 0 _ _ (0,0) (hp4.heap (fun h=>h) HCC3.out.z0),zj w3.drew b.p 0 _ _ (0,0) hb3,zj w3.drew (q0+1) 0 _ _ (0,0) (hp4.heap (fun h=>h) HCC3.out.z1),zj w3.drew (q0+2) 0 _ _ (0,0) (hp4.heap (fun h=>h) HCC3.out.z2)⟩:SnS b.p b3.d q0 key (.slice a n c) w3.drew);clear hin e5 hb3 hp4;refine rHd (S:=SnS b.p b3.d q0 key (.slice a n c)) HS2.out (fun h_ => ?_);refine hLd 0 ?_;refine hTk 1 ?_;refine hTk 2 ?_;refine hTk 3 ?_;refine hLd 4 ?_;refine hLd 5 ?_;refine hLd 6 ?_;refine hTk 7 ?_;refine hTk 8 ?_;refine hTk 9 ?_
 (refine hSt 10 (fun K hK => ?_);go_simp;refine HIN.out.mono ?_;rintro e u5 ⟨rfl,D5,hr5,hm5,hg5⟩;refine hK.out _ _ ?_ (fun h_ => ?_);(· exact⟨hm5.cell (a:=⟨q0,0,none⟩) (fun e=>HNC3.out.z0 (.inr (.inl e))) h_.1,hm5.cell (a:=⟨b.p,0,none⟩) (fun e=>by have e2:b3.cl b.p=2:=HC3.out.sep.d _ e;rw[← HT3.out.p,HC3.out.sep.p]at e2;cases e2) h_.2.1,hm5.cell (a:=⟨q0+1,0,none⟩) (fun e=>HNC3.out.z1 (.inr (.inl e))) h_.2.2.1,hm5.cell (a:=⟨q0+2,0,none⟩) (fun e=>HNC3.out.z2 (.inr (.inl e))) h_.2.2.2⟩);clear hK K;refine clA ?_)
 refine hTk 11 ?_;refine hTk 12 ?_;refine hTk 13 ?_;refine hTk 14 ?_;refine hDn ?_;clear h_;have hm5':Mod b3.Dd w3 u5:=Mod.trans' ((Mod.refl (fun _=>False) w3).drew) hm5 (fun _ _ h=>h.elim) (fun _ _ h=>h);obtain⟨b5,C5,T5⟩ : ∃ b5,zu Fo u5 b5 {s with births:=nb,L:=s.L++[some ⟨key,vs,dl,nb⟩]}∧zx w3 u5 b3 b5:=⟨_,HC3.out.putDict (L':=s.L++[some ⟨key,vs,dl,nb⟩]) hr5 hm5' hg5,zx.ofDict hm5' hg5⟩;have HTT5:=za (HT3.out.trans T5);have HCC5:=za (HCC3.out.mod T5.mod HNC3.out);have HNC5:=za (HNC3.out.to T5 HCC3.out);have hb64:nb≤18446744073709551615:=by have:=HNB.out;have:=HBB.out;omega
 have HDS:=za (C5.due.set (s:=sl) (dl:=dl) (b:=nb) (by have:=HL.out;omega) HD64.out hb64 HR.out);have hb5:=C5.box;rw[HTT5.out.p]at hb5;have z0:=HCC5.out.z0;have HC5:=za C5;clear hr5 hm5 hm5' hg5 C5 T5 HIN HS2 HC3 HV3 HVN3 HCC3 HNC3 hb64;obtain⟨hb5_0,hb5_1,hb5_2,hb5_3,hb5_4,hb5_5,hb5_6,hb5_7,hb5_8,hb5_9,hb5_10,hb5_f,hb5_l,H_hb5⟩:=xz hb5;clear hb5;obtain⟨z0_0,z0_f,z0_l,H_z0⟩:=cr1 z0;clear z0;go_upto_region 13 with(go_at_call 60;refine HDS.out.mono ?_;rintro e u6 ⟨rfl,⟨D6,hr6,hg6⟩,hm6⟩)
 clear hb5_0 hb5_1 hb5_2 hb5_3 hb5_4 hb5_5 hb5_6 hb5_7 hb5_8 hb5_9 hb5_10 hb5_f hb5_l;clear z0_0 z0_f z0_l;clear H_hb5 H_z0;obtain⟨b6,C6,T6⟩ : ∃ b6,zu Fo u6 b6 {s with births:=nb,L:=s.L++[some ⟨key,vs,dl,nb⟩],M:=ke s.now s.M sl dl nb}∧zx u5 u6 b5 b6:=⟨_,HC5.out.putDue hr6 hm6 hg6,zx.ofDue hm6 hg6⟩;have HTT6:=za (HTT5.out.trans T6);have HCC6:=za (HCC5.out.mod T6.mod HNC5.out);have HNC6:=za (HNC5.out.to T6 HCC5.out);have HC6:=za C6;clear hr6 hg6 hm6 C6 T6 HDS HC5 HCC5 HNC5
 -- the order
 have hco2:co≤1099511627776:=by have:=HCO.out;have:=HK.out;have:=HVL.out;omega
 have HCO2:=za hco2;have hp7:zb u6 u6.drew:=(Mod.refl (fun _=>False) u6).drew;have HAd:=za (zf5 (HC6.out.pure hp7).order (x:=⟨sl,co⟩) HL.out hco2 HSN.out);have hb6:=(HC6.out.pure hp7).box;rw[HTT6.out.p]at hb6;have HS7:=za (⟨zj u6.drew q0 0 _ _ (0,0) (hp7.heap (fun h=>h) HCC6.out.z0),zj u6.drew b.p 2 _ _ (0,0) hb6,zj u6.drew q4 0 _ _ (0,0) (hp7.heap (fun h=>h) HCC6.out.z4)⟩:TcS b.p q0 2 q4 0 (lkP b6.o) (.int .i64 co) u6.drew);clear hb6 hp7 hco2;refine rHd (S:=TcS b.p q0 2 q4 0 (lkP b6.o) (.int .i64 co)) HS7.out (fun h_ => ?_);refine hLd 0 ?_;refine hTk 1 ?_;refine hTk 2 ?_;refine hTk 3 ?_;refine hLd 4 ?_;refine hTk 5 ?_;refine hLd 6 ?_
 (refine hSt 7 (fun K hK => ?_);go_simp;refine HAd.out.mono ?_;rintro e u7 ⟨rfl,⟨D7,hr7,hg7⟩,hm7⟩;refine hK.out _ _ ?_ (fun h_ => ?_);(· exact⟨hm7.cell (a:=⟨q0,0,none⟩) (fun e=>HNC6.out.z0 (.inr (.inr (.inr (.inl e))))) h_.1,hm7.cell (a:=⟨b.p,2,none⟩) (fun e=>by have e2:b6.cl b.p=4:=HC6.out.sep.o _ e;rw[← HTT6.out.p,HC6.out.sep.p]at e2;cases e2) h_.2.1,hm7.cell (a:=⟨q4,0,none⟩) (fun e=>HNC6.out.z4 (.inr (.inr (.inr (.inl e))))) h_.2.2⟩);clear hK K;refine clA ?_)
 refine hDn ?_;clear h_;have hm7':Mod b6.Do u6 u7:=Mod.trans' ((Mod.refl (fun _=>False) u6).drew) hm7 (fun _ _ h=>h.elim) (fun _ _ h=>h);obtain⟨b7,C7,T7⟩ : ∃ b7,zu Fo u7 b7 {s with births:=nb,L:=s.L++[some ⟨key,vs,dl,nb⟩],M:=ke s.now s.M sl dl nb,A:=s.A++[⟨sl,co⟩]}∧zx u6 u7 b6 b7:=⟨_,HC6.out.putOrder hr7 hm7' hg7,zx.ofOrder hm7' hg7⟩;have HTT7:=za (HTT6.out.trans T7);have HCC7:=za (HCC6.out.mod T7.mod HNC6.out);have HNC7:=za (HNC6.out.to T7 HCC6.out);have HC7:=za C7;clear hr7 hg7 hm7 hm7' C7 T7 HAd HS7 HC6 HCC6 HNC6;go_upto_region 14 with fail
 have hp8:zb u7 u7.drew:=(Mod.refl (fun _=>False) u7).drew;have hbu:=(HC7.out.pure hp8).used;dsimp only at hbu;rw[HU.out]at hbu;have HBa:=za (Qs hbu (tg:=0) (x:=⟨sl,co⟩) (by omega) HCO2.out (by have:=HNN.out;omega) HSU.out);have hb7:=(HC7.out.pure hp8).box;rw[HTT7.out.p]at hb7;have HS8:=za (⟨zj u7.drew q0 0 _ _ (0,0) (hp8.heap (fun h=>h) HCC7.out.z0),zj u7.drew b.p 3 _ _ (0,0) hb7,zj u7.drew q4 0 _ _ (0,0) (hp8.heap (fun h=>h) HCC7.out.z4)⟩:TcS b.p q0 3 q4 0 (buP b7.u) (.int .i64 co) u7.drew);clear hb7 hp8 hbu;refine rHd (S:=TcS b.p q0 3 q4 0 (buP b7.u) (.int .i64 co)) HS8.out (fun h_ => ?_);refine hLd 0 ?_;refine hTk 1 ?_;refine hTk 2 ?_;refine hTk 3 ?_;refine hLd 4 ?_;refine hLd 5 ?_
 (refine hSt 6 (fun K hK => ?_);go_simp;refine HBa.out.mono ?_;rintro e u8 ⟨rfl,hr8,hm8⟩;refine hK.out _ _ ?_ (fun h_ => ?_);(· exact⟨hm8.cell (a:=⟨q0,0,none⟩) (fun e=>HNC7.out.z0 (.inr (.inr (.inr (.inr (.inl e)))))) h_.1,hm8.cell (a:=⟨b.p,3,none⟩) (fun e=>by have e3:b.p=b7.u:=e;have e2:=HC7.out.sep.u;rw[← e3,← HTT7.out.p,HC7.out.sep.p]at e2;cases e2) h_.2.1,hm8.cell (a:=⟨q4,0,none⟩) (fun e=>HNC7.out.z4 (.inr (.inr (.inr (.inr (.inl e)))))) h_.2.2⟩);clear hK K;refine clA ?_)
 refine hDn ?_;clear h_;have hm8':Mod (fun k=>k=b7.u) u7 u8:=Mod.trans' ((Mod.refl (fun _=>False) u7).drew) hm8 (fun _ _ h=>h.elim) (fun _ _ h=>h);have HC8:=za (HC7.out.putUsed hr8 hm8');have HT8:=za (HTT7.out.trans (zx.ofUsed hm8'));clear hr8 hm8 hm8' HC7 HCC7 HNC7;go_wp2;go_ret;refine⟨rfl,b7,?_,(zx.pure HP2.out).trans HT8.out⟩;unfold kW;have ez:(⟨key,vs,dl,nb⟩:CE).cost=co:=HCO.out;rw[ez,HSL.out];exact HC8.out
end
section
variable{Fo S:Nat→Prop}{w w':World}{b:CaB}{s:CaS}{p cost q0 q4:Nat}{key:ByteArray}
def kP(cost:Nat)(bytes:Int):Int:=if (cost:Int)≤bytes then 0 else 12
theorem zim(cost:Nat)(bytes:Int)(W:World):Calls prog 50 #[.bool (decide ((cost:Int)≤bytes)),.int .i64 12] W fun e w'=>e=.returned (.int .i64 (kP cost bytes))∧W=w':=by
 have h:=zgp (decide ((cost:Int)≤bytes)) 12 W;have e:(if decide ((cost:Int)≤bytes)=true then(0:Int)else 12)=kP cost bytes:=by
  unfold kP;by_cases c:(cost:Int)≤bytes
  ·rw[zh c,zh (by simpa using c)]
  ·rw[zf c,zf (by simpa using c)]
 rw[e]at h;exact h
def setE(s:CaS)(ks n:Nat):Int:=vi [vh ks n 1,kP (uy ks n) s.cfg.bytes,ub s]
def SeS(p q0 q4 cost:Nat)(bytes:Int)(Y:World):Prop:=Y.cell? ⟨q0,0,none⟩=some (lkP p)∧Y.cell? ⟨q4,0,none⟩=some (.int .i64 cost)∧Y.cell? ⟨p,7,none⟩=some (.int .i64 bytes)
def UQ(Fo:Nat→Prop)(w:World)(b:CaB)(s':CaS)(e:Ending)(w':World):Prop:=e=.returned (.int .i64 0) ∧ ∃ b',zu Fo w' b' s'∧zx w w' b b'
theorem zau(h:zu Fo w b s)(t:Nat){gf:Nat}{lf:Array Value}(hev:s.evs.length≤1048576)(hk:key.size≤140737488355328){a:Option Addr}{n c:Nat}(hn:n≤140737488355328)(he:setE s key.size n=0)(hbt:s.births<18446744073709551615){s9:CaS}
    (hR : ∀(Y:World) (q0 q4:Nat),zb w Y→StC Y b.p key (.func (.func gf) #[] lf) (.slice a n c) (uy key.size n) q0 q4→w.heap.size≤q0→w.heap.size≤q4→Calls prog 56 #[lkP b.p,.int .u64 t,.func (.func 57) #[] (stA q0 q4)] Y (ZH Fo Y b s9)) :
    Calls prog 33 #[lkP b.p,.int .u64 t,.string key,.slice a n c,.func (.func gf) #[] lf] w (UQ Fo w b s9):=by
  have hp0:zb w ((((w.alloc (.cells #[lkP b.p] 23)).alloc (.cells #[.string key] 9)).alloc (.cells #[.slice a n c] 45)).alloc (.cells #[.func (.func gf) #[] lf] 69)):=((((Mod.refl _ w).alloc _).alloc _).alloc _).alloc _;have hb0:=zL (o := .cells #[.func (.func gf) #[] lf] 69) (zL (o := .cells #[.slice a n c] 45) (zL (o := .cells #[.string key] 9) (zi (w:=w) (o := .cells #[lkP b.p] 23 (0,0)) rfl)));have hb1:=zL (o := .cells #[.func (.func gf) #[] lf] 69) (zL (o := .cells #[.slice a n c] 45) (zi (w:=w.alloc (.cells #[lkP b.p] 23)) (o := .cells #[.string key] 9 (0,0)) (n:=w.heap.size+1) (by simp)));have hb2:=zL (o := .cells #[.func (.func gf) #[] lf] 69) (zi (w:=(w.alloc (.cells #[lkP b.p] 23)).alloc (.cells #[.string key] 9)) (o := .cells #[.slice a n c] 45 (0,0)) (n:=w.heap.size+2) (by simp));have hb3:=zi (w:=((w.alloc (.cells #[lkP b.p] 23)).alloc (.cells #[.string key] 9)).alloc (.cells #[.slice a n c] 45)) (o := .cells #[.func (.func gf) #[] lf] 69 (0,0)) (n:=w.heap.size+3) (by simp);have HCo:=za (fun W=>zhA key a n c W hk hn);have HRn:=za hR;obtain⟨co,hco⟩:=zc (uy key.size n);obtain⟨ee,hee⟩:=zc (vh key.size n 1);obtain⟨be,hbe⟩:=zc (kP co s.cfg.bytes);rw[hco,hee]at HCo;rw[hco]at HRn;unfold setE at he;rw[hco,hee,hbe]at he;have HBg:=za (fun W=>zim co s.cfg.bytes W);rw[hbe]at HBg;have hc:=zeg h ee be hev;rw[he]at hc;have HC:=za hc;have HN:=za (fun(Y:World) (hY:zb w Y)=>YC (h.pure hY));have HBX:=za (fun(Y:World) (hY:zb w Y)=>zj Y b.p 7 _ _ (0,0) (hY.heap (fun h=>h) h.box));have HLa:=za (fun(Y:World) (hY:zb w Y)=>zak (h.pure hY).ctr);have HBo:=za (fun(Y:World) (hY:zb w Y)=>hY.heap (fun h=>h) h.box);obtain⟨by_,hby⟩:=zc s.cfg.bytes;rw[hby]at HBg HBX;obtain⟨bb,hbb⟩:=zc (decide ((co:Int)≤by_));rw[hbb]at HBg;obtain⟨nb,hnb⟩:=zc s.births;rw[hnb]at HLa hbt;have hne:((nb:Int)==18446744073709551615)=false:=by rw[kr];omega
  clear h hev hc he hco hee hbe hk hn hby hbt hR hnb;go_enter func33,ntmps33;go_upto_region 1 with fail
  generalize(((w.alloc (.cells #[lkP b.p] 23)).alloc (.cells #[.string key] 9)).alloc (.cells #[.slice a n c] 45)).alloc (.cells #[.func (.func gf) #[] lf] 69)=W1 at *;obtain⟨n0,hn0⟩:=zc w.heap.size;have HN0:=za hn0;rw[hn0]at hb0 hb1 hb2 hb3 ⊢;rw[show n0+1+1=n0+2 from rfl];clear hn0;have HB0:=za hb0;have HP0:=za hp0;have HB1:=za hb1;have HB2:=za hb2;have HB3:=za hb3;clear hb0 hp0 hb3;obtain⟨hb1_0,hb1_f,hb1_l,H_hb1⟩:=cr1 hb1;clear hb1;obtain⟨hb2_0,hb2_f,hb2_l,H_hb2⟩:=cr1 hb2;clear hb2;go_upto_region 2 with(go_at_call 48;refine(HCo.out _).mono ?_;rintro e w2 ⟨rfl,hp2⟩)
  clear hb1_0 hb1_f hb1_l;clear hb2_0 hb2_f hb2_l;clear H_hb1 H_hb2;have hal:zb w2 (w2.alloc (.cells #[.int .i64 co] 3)):=(Mod.refl _ w2).alloc _;have hbc:=zi (w:=w2) (o := .cells #[.int .i64 co] 3 (0,0)) rfl;have hp3:=hp2.trans hal;generalize w2.alloc (.cells #[.int .i64 co] 3)=W3 at *;obtain⟨q4,hq4⟩:=zc w2.heap.size;have HQ4:=za (show n0≤q4 by have:=(HP0.out.trans hp2).size;have:=HN0.out;omega);rw[hq4]at hbc ⊢;clear hq4 hal;have HP3:=za (HP0.out.trans hp3);have HSt:=za (⟨hp3.heap (fun h=>h) HB0.out,hp3.heap (fun h=>h) HB1.out,hp3.heap (fun h=>h) HB2.out,hp3.heap (fun h=>h) HB3.out,hbc⟩:StC W3 b.p key (.func (.func gf) #[] lf) (.slice a n c) co n0 q4);have HS:=za (fun(Y:World) (hY:zb W3 Y)=>(⟨zj Y n0 0 _ _ (0,0) (hY.heap (fun h=>h) (hp3.heap (fun h=>h) HB0.out)),zj Y q4 0 _ _ (0,0) (hY.heap (fun h=>h) hbc),HBX.out Y (HP3.out.trans hY)⟩:SeS b.p n0 q4 co by_ Y));have hd3:zb W3 W3.drew:=(Mod.refl (fun _=>False) W3).drew;have HD3:=za hd3;clear hbc hp2 hp3 hd3 HB1 HB2 HB3;refine rHd (S:=SeS b.p n0 q4 co by_) (HS.out _ HD3.out) (fun h_ => ?_);refine hLd 0 ?_;refine hTk 1 ?_;refine hLd 2 ?_
  (refine hSt 3 (fun K hK => ?_);go_simp;refine(HN.out _ (HP3.out.trans HD3.out)).mono ?_;rintro e u1 ⟨rfl,rfl⟩;refine hK.out _ _ ?_ (fun h_ => ?_);(· exact HS.out _ HD3.out);clear hK K;refine clA ?_)
  refine hTk 4 ?_;refine hLd 5 ?_;refine hLd 6 ?_;refine hTk 7 ?_;refine hTk 8 ?_;refine hTk 9 ?_;refine hLd 10 ?_;refine hTk 11 ?_;refine hTk 12 ?_
  (refine hSt 13 (fun K hK => ?_);go_simp;(try rw[hbb]);refine(HBg.out _).mono ?_;rintro e u1 ⟨rfl,rfl⟩;refine hK.out _ _ ?_ (fun h_ => ?_);(· exact HS.out _ HD3.out);clear hK K;refine clA ?_)
  (refine hSt 14 (fun K hK => ?_);go_simp;refine hK.out _ _ ?_ (fun h_ => ?_);(· exact HS.out _ (HD3.out.trans ((Mod.refl _ _).alloc _)));clear hK K;refine clA ?_)
  (refine hSt 15 (fun K hK => ?_);go_simp;refine(HC.out _ (HP3.out.trans HD3.out)).mono ?_;rintro e u2 ⟨rfl,hq2⟩;refine hK.out _ _ ?_ (fun h_ => ?_);(· exact HS.out _ (HD3.out.trans hq2));clear hK K;refine clA ?_)
  refine hTk 16 ?_;refine hDn ?_;clear h_;have hp4:zb W3 u2:=HD3.out.trans hq2;have HP5:=za (HP3.out.trans hp4);have z0:=hp4.heap (fun h=>h) HSt.out.z0;have hb5:=HBo.out _ HP5.out;have HLa5:=za (HLa.out _ HP5.out);have HRn5:=za (HRn.out u2 n0 q4 HP5.out (HSt.out.pure hp4) (Nat.le_of_eq HN0.out) (by have:=HN0.out;have:=HQ4.out;omega));clear hq2 HC HS hp4 HRn;obtain⟨z0_0,z0_f,z0_l,H_z0⟩:=cr1 z0;clear z0;obtain⟨hb5_0,hb5_1,hb5_2,hb5_3,hb5_4,hb5_5,hb5_6,hb5_7,hb5_8,hb5_9,hb5_10,hb5_f,hb5_l,H_hb5⟩:=xz hb5;clear hb5
  go_wp2_with (first
    | (go_at_call 51;refine HLa5.out.mono ?_;rintro e w6 ⟨rfl,rfl⟩)
    | (go_at_call 56;refine HRn5.out.mono ?_;rintro e w7 ⟨rfl,b7,C7,T7⟩))
  go_ret;exact⟨rfl,b7,C7,(zx.pure HP5.out).trans T7⟩
theorem Az1d3 {P:Prop}(h:P:=by
 rintro e w' ⟨rfl,b2,k1,k2⟩;exact⟨_,_,b2,fun _=>True,rfl,k1,k2.toX,hR,trivial,fun _ _ _ _ _ _=>trivial,fun _ _=>⟨rfl,rfl⟩⟩):P:=h
theorem zeS(h:zu Fo w b s){t:Nat}(ht:t≤18446744073709551615)(hev:s.evs.length≤1048576){gf:Nat}{lf:Array Value}{a:Option Addr}{n c:Nat}(he:setE s key.size n=0)(hbt:s.births<18446744073709551615)(hlv:uN 1 (tmS s t) (xk s t))(hi:CaI NoP (zy s t)){vs:List UInt8}(hv:zn w (.slice a n c) 1 (zS vs))(hvn : ∀ g,uJ (.slice a n c)=some g → ¬ b.D g)(hk0:0<key.size)(hk:key.size≤250)(hvl:vs.length≤65536)(hco:uy key.size n=key.size+vs.length+48)(hf:xG (zF (zy s t).L) key=none){dl:Nat}(hdl:dl≤18446744073709551615)(hd:(zy s t).now<dl∨dl=18446744073709551615)(hn:((zy s t).A++(zy s t).B).length≤1048576)(hl:(zy s t).L.length<4194304)(hbs:(zy s t).births=s.births)(hr:uY (zy s t).now (zy s t).M (zy s t).L.length dl ((zy s t).births+1)=0)(hR:kR (kW (zy s t) ⟨key,vs,dl,(zy s t).births+1⟩) (zy s t).L.length)
  (eg : ∀ args w,(callFunc gf args).run prog w=.ok (.enter gf args) w) (hF : ∀ W b1,zu Fo W b1 (zy s t)→zx w W b b1→Calls prog gf lf W (fun e w'=>e=.returned (.int .u64 dl)∧zb W w')) :
  Calls prog 33 #[lkP b.p,.int .u64 t,.string key,.slice a n c,.func (.func gf) #[] lf] w (UQ Fo w b (pkS (evS (kW (zy s t) ⟨key,vs,dl,(zy s t).births+1⟩) (zy s t).L.length))):=by
 have hnl:n=vs.length:=by have:=kD hv;rw[uT]at this;omega
 refine zau h t hev (by omega) (by omega) he hbt (fun Y q0 q4 hY hSt l0 l4 => ?_);have hnn:StN b.D q0 q4:=⟨fun e=>by have:=h.lt e;omega,fun e=>by have:=h.lt e;omega,fun e=>by have:=h.lt e;omega,fun e=>by have:=h.lt e;omega,fun e=>by have:=h.lt e;omega⟩;refine(K8 (h.pure hY) ht hlv (X:=fun _=>False) (fun k hk=>hk.elim) (enters_of func57 (by kernel_rfl) rfl) (QE:=fun keep s2 _=>keep=(zy s t).L.length∧s2=kW (zy s t) ⟨key,vs,dl,(zy s t).births+1⟩) (fun W b1 hC hT => ?_)).mono ?_
 ·have hT0:zx w W b b1:=(zx.pure hY).trans hT;refine(zfG hC hi (key:=key) (hc:=by rw[hT.p];exact hSt.mod hT.mod hnn) (hnn.to hT hSt) ((hv.frame hY (fun _ _ h=>h)).frame hT.mod hvn) (fun g hg=>hT0.nd (hvn g hg) (hv.lt (by decide) hg)) hk0 hk hvl hf hco hdl hd hn hl (by rw[hbs];exact hbt) hr eg (fun Z hZ=>hF Z b1 (hC.pure hZ) (hT0.trans (zx.pure hZ)))).mono ?_;exact Az1d3
 ·rintro e w' ⟨rfl,keep,s2,b',hC,hT,rfl,rfl⟩;exact⟨rfl,b',hC,hT.none⟩
theorem zjN(h:zu Fo w b s){t:Nat}(ht:t≤18446744073709551615)(hev:s.evs.length≤1048576){gf:Nat}{lf:Array Value}{a:Option Addr}{n c:Nat}(he:setE s key.size n=0)(hbt:s.births<18446744073709551615)(hlv:uN 1 (tmS s t) (xk s t))(hi:CaI NoP (zy s t)){vs:List UInt8}(hv:zn w (.slice a n c) 1 (zS vs))(hvn : ∀ g,uJ (.slice a n c)=some g → ¬ b.D g)(hk:key.size≤250)(hvl:vs.length≤65536)(hco:uy key.size n=key.size+vs.length+48){sl:Nat}{x:CE}(hf:xG (zF (zy s t).L) key=some sl)(hx:(zy s t).L[sl]? = some (some x))(hkx:x.key=key){dl:Nat}(hdl:dl≤18446744073709551615)(hd:(zy s t).now<dl∨dl=18446744073709551615)(hee:(zy s t).evs.length<1048576)(hn:((zy s t).A++(zy s t).B).length≤1048577)(hR:kR (jc (zy s t) sl x ⟨key,vs,dl,x.birth⟩) sl)
  (eg : ∀ args w,(callFunc gf args).run prog w=.ok (.enter gf args) w) (hF : ∀ W b1,zu Fo W b1 (zy s t)→zx w W b b1→Calls prog gf lf W (fun e w'=>e=.returned (.int .u64 dl)∧zb W w')) :
  Calls prog 33 #[lkP b.p,.int .u64 t,.string key,.slice a n c,.func (.func gf) #[] lf] w (UQ Fo w b (pkS (evS (jc (zy s t) sl x ⟨key,vs,dl,x.birth⟩) sl))):=by
 have hnl:n=vs.length:=by have:=kD hv;rw[uT]at this;omega
 refine zau h t hev (by omega) (by omega) he hbt (fun Y q0 q4 hY hSt l0 l4 => ?_);have hnn:StN b.D q0 q4:=⟨fun e=>by have:=h.lt e;omega,fun e=>by have:=h.lt e;omega,fun e=>by have:=h.lt e;omega,fun e=>by have:=h.lt e;omega,fun e=>by have:=h.lt e;omega⟩;refine(K8 (h.pure hY) ht hlv (X:=fun _=>False) (fun k hk=>hk.elim) (enters_of func57 (by kernel_rfl) rfl) (QE:=fun keep s2 _=>keep=sl∧s2=jc (zy s t) sl x ⟨key,vs,dl,x.birth⟩) (fun W b1 hC hT => ?_)).mono ?_
 ·have hT0:zx w W b b1:=(zx.pure hY).trans hT;refine(zd8 hC hi (key:=key) (hc:=by rw[hT.p];exact hSt.mod hT.mod hnn) (hnn.to hT hSt) ((hv.frame hY (fun _ _ h=>h)).frame hT.mod hvn) (fun g hg=>hT0.nd (hvn g hg) (hv.lt (by decide) hg)) hvl (by omega) hf hx hkx hco hdl hd hee hn eg (fun Z hZ=>hF Z b1 (hC.pure hZ) (hT0.trans (zx.pure hZ)))).mono ?_;exact Az1d3
 ·rintro e w' ⟨rfl,keep,s2,b',hC,hT,rfl,rfl⟩;exact⟨rfl,b',hC,hT.none⟩
end
section
variable{Fo:Nat→Prop}{w w':World}{b:CaB}{s:CaS}{D:Nat→Prop}{p:Nat}{t:Bst}
theorem zfQ(W:World):Calls prog 34 #[] W fun e w'=>e=.returned (.int .u64 (18446744073709551615:Nat))∧zb W w':=by
 go_enter func34,ntmps34;go_wp2;go_ret;exact⟨rfl,Mod.refl _ _⟩
theorem zcR(h:zu Fo w b s){c1 ttl:Nat}(h1:w.heap[c1]? = some (.cells #[lkP b.p] 23 (0,0)))(h2:w.heap[c1+1]? = some (.cells #[.int .u64 ttl] 37 (0,0)))(hn:s.now≤18446744073709551615)(ht:ttl≤18446744073709551615) :
  Calls prog 36 #[.pointer (some ⟨c1,0,none⟩),.pointer (some ⟨c1+1,0,none⟩)] w fun e w'=>e=.returned (.int .u64 (km s.now ttl:Nat))∧zb w w':=by
 have HAD:=za (fun W=>zdH hn ht W);obtain⟨dl,hdl⟩:=zc (km s.now ttl);rw[hdl]at HAD ⊢;have HS1:=za (⟨zj w.drew c1 0 _ _ (0,0) h1,zj w.drew b.p 4 _ _ (0,0) h.box,zj w.drew (c1+1) 0 _ _ (0,0) h2⟩:TcS b.p c1 4 (c1+1) 0 (lkP b.t) (.int .u64 ttl) w.drew);have HNo:=za (h.due.pure ((Mod.refl (fun _=>False) w).drew)).nowOk;clear h h1 h2 hn ht hdl;go_enter func36,ntmps36;go_upto_region 1 with fail
 refine rHd (S:=TcS b.p c1 4 (c1+1) 0 (lkP b.t) (.int .u64 ttl)) HS1.out (fun h_ => ?_);refine hLd 0 ?_;refine hTk 1 ?_;refine hTk 2 ?_;refine hTk 3 ?_;refine hLd 4 ?_;refine hLd 6 ?_
 (refine hSt 5 (fun K hK => ?_);go_simp;refine HNo.out.mono ?_;rintro e u1 ⟨rfl,rfl⟩;refine hK.out _ _ ?_ (fun h_ => ?_);(· exact h_);clear hK K;refine clA ?_)
 (refine hSt 7 (fun K hK => ?_);go_simp;refine(HAD.out _).mono ?_;rintro e u2 ⟨rfl,rfl⟩;refine hK.out _ _ ?_ (fun h_ => ?_);(· exact h_);clear hK K;refine clA ?_)
 refine hTk 8 ?_;refine hDn ?_;clear h_;go_wp2;go_ret;exact⟨rfl,(Mod.refl _ _).drew⟩
def Zv(t:Bst)(ks n:Nat):Int:=vi [vh ks n 1,kP (uy ks n) t.cfg.bytes,xR t]
def jw(t:Bst)(tt:Nat)(key:ByteArray)(vs:List UInt8)(dl:Nat→Nat):Bst:=match qA (xX t tt) key with
 | some x=>um (ZG {xX t tt with evs:=(xX t tt).evs++[⟨3,x,(xX t tt).now⟩]} ⟨key,vs,dl (xX t tt).now,x.birth⟩) x.birth
 | none=>um (Ul (xX t tt) ⟨key,vs,dl (xX t tt).now,(xX t tt).births+1⟩) ((xX t tt).births+1)
theorem zhW{ks n:Nat}(h:Zv t ks n=0):vh ks n 1=0∧kP (uy ks n) t.cfg.bytes=0∧xR t=0:=by
 unfold Zv at h;have e:vi [vh ks n 1,kP (uy ks n) t.cfg.bytes,xR t]=if vh ks n 1=0 then(if kP (uy ks n) t.cfg.bytes=0 then(if xR t=0 then 0 else xR t)else kP (uy ks n) t.cfg.bytes)else vh ks n 1:=rfl
 rw[e]at h;by_cases c:vh ks n 1=0
 ·rw[zh c]at h;by_cases c2:kP (uy ks n) t.cfg.bytes=0
  ·rw[zh c2]at h;by_cases c3:xR t=0
   ·exact⟨c,c2,c3⟩
   ·rw[zf c3]at h;exact absurd h c3
  ·rw[zf c2]at h;exact absurd h c2
 ·rw[zf c]at h;exact absurd h c
theorem zgt{ks n:Nat}(h:vh ks n 1=0):0<ks∧ks≤250∧n≤65536:=by
 unfold vh kJ at h;by_cases c:0<ks∧ks≤250
 ·refine⟨c.1,c.2,?_⟩;simp[c.1,c.2]at h;omega
 ·exfalso;simp at h;split at h
  ·cases h
  ·rename_i c2;simp at c2;omega
theorem CaI.finK(h:CaI NoP s){keep:Nat}{z:CE}(hz:s.L[keep]? = some (some z))(hn:s.evs.length+(zr s.L).length≤1048577){t2:Bst}(ht:zG s=t2) :
  kR s keep∧CaI NoP (pkS (evS s keep))∧zG (pkS (evS s keep))=um t2 z.birth∧(pkS (evS s keep)).L.length≤2*(zr (pkS (evS s keep)).L).length+16∧(pkS (evS s keep)).evs.length≤1048576∧(pkS (evS s keep)).evs.length+(zr (pkS (evS s keep)).L).length≤1048577:=by
 subst ht;have hb:=h.bornIff hz;rw[vM hz]at hb;obtain⟨h1,h2,h3,h4,h5⟩:=h.run (keep:=keep) (keepN:=z.birth) hb (.inr ⟨hn,z.cost,(h.ab ⟨keep,z.cost⟩).2 ⟨z,hz,rfl⟩⟩);obtain⟨k1,_,_⟩:=Qx (t:=zG s) h.inc z.birth;rw[← h3]at k1;have k2:(pkS (evS s keep)).evs.length+(zr (pkS (evS s keep)).L).length=s.evs.length+(zr s.L).length:=k1;have k3:=U6 (h5 z hz);exact⟨h1,h2,h3,h4,by omega,by omega⟩
theorem zgY(t:Bst)(z:CE):(ZG t z).E.length=t.E.length∧(ZG t z).evs=t.evs:=⟨by unfold ZG Yq;simp,rfl⟩
theorem yC.setC(h:yC Fo w D p t){tt:Nat}(ht:tt≤18446744073709551615){gf:Nat}{lf:Array Value}{key:ByteArray}{a:Option Addr}{n c:Nat}(hr:Zv t key.size n=0)(hbt:t.births<16){vs:List UInt8}(hv:zn w (.slice a n c) 1 (zS vs))(hvn : ∀ g,uJ (.slice a n c)=some g → ¬ D g){dl:Nat→Nat}(hdl:dl (max t.now tt)≤18446744073709551615)(hd:max t.now tt<dl (max t.now tt)∨dl (max t.now tt)=18446744073709551615)
  (eg : ∀ args w,(callFunc gf args).run prog w=.ok (.enter gf args) w) (hF : ∀ W b1 s1,zu Fo W b1 s1→b1.p=p→s1.now=max t.now tt→Mod D w W→Calls prog gf lf W (fun e w'=>e=.returned (.int .u64 (dl (max t.now tt):Nat))∧zb W w')) :
  Calls prog 33 #[lkP p,.int .u64 tt,.string key,.slice a n c,.func (.func gf) #[] lf] w fun e w'=>e=.returned (.int .i64 0)∧uV Fo w D p (jw t tt key vs dl) w':=by
 obtain⟨b,s,h1,h2,rfl,rfl,rfl,h3,h4,h5⟩:=h;obtain⟨he1,he2,hr0⟩:=zhW hr;obtain⟨hk0,hk,hn6⟩:=zgt he1;have hnl:n=vs.length:=by have:=kD hv;rw[uT]at this;omega
 obtain⟨k1,k2,k3⟩:=h2.exp ht (ZE hr0);obtain⟨hsum,hlive⟩:=h2.exp_sum ht hr0;have hnow:(zy s tt).now=max s.now tt:=by
  have e:=congrArg Bst.now k3;exact e.trans (Xa (t:=zG s) h2.inc tt).2.2.2.1
 have hbirths:(zy s tt).births=s.births:=by
  have e:=congrArg Bst.births k3;exact e.trans (Xa (t:=zG s) h2.inc tt).2.2.2.2.2
 have hseE:setE s key.size n=0:=by
  unfold setE;rw[VX];exact hr
 have hco:uy key.size n=key.size+vs.length+48:=by unfold uy;rw[zh he1,hnl]
 have hlen2:(zy s tt).L.length=s.L.length:=by
  have : ∀(l:List Nat) (q:CaS),(xg 1 q l).L.length=q.L.length:=by
   intro l
   induction l with
   | nil=>intro q;rfl
   | cons y l ih=>intro q;exact(ih (xJ 1 q y)).trans zbz.2.2.2.2.2.2
  exact this _ _
 have hll:(zr s.L).length≤1048576:=by have:=ZE hr0;omega
 have hF' : ∀ W b1,zu Fo W b1 (zy s tt)→zx w W b b1→Calls prog gf lf W (fun e w'=>e=.returned (.int .u64 (dl (max s.now tt):Nat))∧zb W w'):=fun W b1 hC hT=>hF W b1 _ hC hT.p hnow hT.mod
 unfold jw;rw[← k3]
 cases hl:qA (zG (zy s tt)) key with
 | none =>
  obtain⟨f1,f2⟩:=k2.find_none hl;have hz:(CE.Ok ⟨key,vs,dl (max s.now tt),(zy s tt).births+1⟩):=⟨hk0,hk,by show vs.length≤_;omega,hdl,Nat.succ_pos _,by show(zy s tt).births+1≤_;rw[hbirths];have:(zG s).births<16:=hbt;show s.births+1≤_;have e:(zG s).births=s.births:=rfl;omega⟩;obtain⟨n1,n2,n3⟩:=k2.new (z:=⟨key,vs,dl (max s.now tt),(zy s tt).births+1⟩) rfl hz f2 (by rw[hnow];exact hd) (by rw[hbirths];exact hbt);have hget:(kW (zy s tt) ⟨key,vs,dl (max s.now tt),(zy s tt).births+1⟩).L[(zy s tt).L.length]? = some (some ⟨key,vs,dl (max s.now tt),(zy s tt).births+1⟩):=by
   show((zy s tt).L++[_])[(zy s tt).L.length]? = _
   simp
  have hs2:(kW (zy s tt) ⟨key,vs,dl (max s.now tt),(zy s tt).births+1⟩).evs.length+(zr (kW (zy s tt) ⟨key,vs,dl (max s.now tt),(zy s tt).births+1⟩).L).length≤1048577:=by
   show(zy s tt).evs.length+(zr ((zy s tt).L++[_])).length≤_
   rw[YK,zN]
   show _+(_+1)≤_
   omega
  obtain⟨q1,q2⟩:=n1.finK hget hs2 n2;refine(zeS h1 ht h4 hseE (xV (show s.births<16 from hbt) (by decide)) k1 k2 hv hvn hk0 hk (by omega) hco f1 hdl (by rw[hnow];exact hd) (by rw[k2.lenAB];omega) (by rw[hlen2];omega) hbirths n3 q1 eg hF').mono ?_;rintro e w' ⟨rfl,b',hC,hT⟩;refine⟨rfl,?_⟩;have hn9:(zG (zy s tt)).now=max s.now tt:=hnow;dsimp only;rw[hn9];exact yC.of hC hT q2
 | some x =>
  obtain⟨sl,f1,f2,f3⟩:=k2.find_some hl;have hxm:=xO.2 ⟨_,f2⟩;have hxo:=(k2.ok x hxm).1;have ht1:=k2.tell (v:=⟨3,x,(zy s tt).now⟩) (k2.evOk (by decide) hxm) rfl (k2.ok x hxm).2;have hlp:0<(zr (zy s tt).L).length:=U6 hxm;obtain⟨n1,n2,n3⟩:=ht1.hit (z:=⟨key,vs,dl (max s.now tt),x.birth⟩) f2 rfl f3.symm ⟨hk0,hk,by show vs.length≤_;omega,hdl,hxo.b0,hxo.b1⟩ (by rw[hnow];exact hd);have hget:(jc (zy s tt) sl x ⟨key,vs,dl (max s.now tt),x.birth⟩).L[sl]? = some (some ⟨key,vs,dl (max s.now tt),x.birth⟩):=by
   show((zy s tt).L.set sl _)[sl]? = _
   rw[yj (zC.1 f2).1]
  have hs2:(jc (zy s tt) sl x ⟨key,vs,dl (max s.now tt),x.birth⟩).evs.length+(zr (jc (zy s tt) sl x ⟨key,vs,dl (max s.now tt),x.birth⟩).L).length≤1048577:=by
   have e1:(zr (jc (zy s tt) sl x ⟨key,vs,dl (max s.now tt),x.birth⟩).L).length=(zr (zy s tt).L).length:=by
    have e:=congrArg Bst.E n2;have e2:=congrArg List.length e;exact e2.trans (zgY _ _).1
   rw[e1]
   show((zy s tt).evs++[_]).length+_≤_
   rw[zN]
   show _+1+_≤_
   omega
  have n2':zG (jc (zy s tt) sl x ⟨key,vs,dl (max s.now tt),x.birth⟩)=ZG {zG (zy s tt)with evs:=(zG (zy s tt)).evs++[⟨3,x,(zG (zy s tt)).now⟩]} ⟨key,vs,dl (max s.now tt),x.birth⟩:=n2;have n1':CaI NoP (jc (zy s tt) sl x ⟨key,vs,dl (max s.now tt),x.birth⟩):=n1;obtain⟨q1,q2⟩:=n1'.finK hget hs2 n2';refine(zjN h1 ht h4 hseE (xV (show s.births<16 from hbt) (by decide)) k1 k2 hv hvn hk (by omega) hco f1 f2 f3 hdl (by rw[hnow];exact hd) (by omega) (by rw[k2.lenAB];omega) q1 eg hF').mono ?_;rintro e w' ⟨rfl,b',hC,hT⟩;refine⟨rfl,?_⟩;have hn9:(zG (zy s tt)).now=max s.now tt:=hnow;dsimp only;rw[show dl (zG (zy s tt)).now=dl (max s.now tt)from congrArg dl hn9];exact yC.of hC hT q2
theorem yC.Set(h:yC Fo w D p t){tt:Nat}(ht:tt≤18446744073709551615){key:ByteArray}{a:Option Addr}{n c:Nat}(hr:Zv t key.size n=0)(hbt:t.births<16){vs:List UInt8}(hv:zn w (.slice a n c) 1 (zS vs))(hvn : ∀ g,uJ (.slice a n c)=some g → ¬ D g) :
  Calls prog 17 #[lkP p,.int .u64 tt,.string key,.slice a n c] w fun e w'=>e=.returned (.int .i64 0)∧uV Fo w D p (jw t tt key vs (fun _=>18446744073709551615)) w':=by
 have HC:=za (h.setC ht (gf:=34) (lf:=#[]) hr hbt hv hvn (dl:=fun _=>18446744073709551615) (zH _) (.inr rfl) (enters_of func34 (by kernel_rfl) rfl) (fun W _ _ _ _ _ _=>zfQ W));clear h hr hbt hv hvn;go_enter func17,ntmps17
 go_wp2_with (go_at_call 33;refine HC.out.mono ?_;rintro e w1 ⟨rfl,hg⟩)
 go_ret;exact⟨rfl,hg⟩
theorem yC.none_(h:yC Fo w D p t):Calls prog 35 #[lkP p] w fun e w'=>e=.returned (.bool false)∧w=w':=by
 obtain⟨b,s,h1,h2,rfl,rfl,rfl,_⟩:=h;exact YC h1
theorem yC.SetTTL(h:yC Fo w D p t){tt ttl:Nat}(ht:tt≤18446744073709551615)(hl:ttl≤18446744073709551615)(hl0:0<ttl){key:ByteArray}{a:Option Addr}{n c:Nat}(hr:Zv t key.size n=0)(hbt:t.births<16){vs:List UInt8}(hv:zn w (.slice a n c) 1 (zS vs))(hvn : ∀ g,uJ (.slice a n c)=some g → ¬ D g)(hn64:t.now≤18446744073709551615) :
    Calls prog 18 #[lkP p,.int .u64 tt,.string key,.slice a n c,.int .u64 ttl] w fun e w'=>e=.returned (.int .i64 0)∧uV Fo w D p (jw t tt key vs (fun q=>km q ttl)) w':=by
  have hp0:zb w ((w.alloc (.cells #[lkP p] 23)).alloc (.cells #[.int .u64 ttl] 37)):=((Mod.refl _ w).alloc _).alloc _;have hb1:=zL (o := .cells #[.int .u64 ttl] 37) (zi (w:=w) (o := .cells #[lkP p] 23 (0,0)) rfl);have hb2:=zi (w:=w.alloc (.cells #[lkP p] 23)) (o := .cells #[.int .u64 ttl] 37 (0,0)) (n:=w.heap.size+1) (by simp);have hlt:=fun k (hk:D k)=>h.lt hk
  have HN:=za (h.pure hp0).none_;have HC:=za ((h.pure hp0).setC ht (gf:=36) (lf:=#[.pointer (some ⟨w.heap.size,0,none⟩),.pointer (some ⟨w.heap.size+1,0,none⟩)]) hr hbt (hv.frame hp0 (fun _ _ h=>h)) hvn (dl:=fun q=>km q ttl) (by show km _ _≤_;unfold km;split<;>omega) (by show _<km _ _∨km _ _=_;unfold km;split<;>omega) (enters_of func36 (by kernel_rfl) rfl) (fun W b1 s1 hC hp1 hn1 hm=>by
    have:=zcR hC (c1:=w.heap.size) (ttl:=ttl) (by rw[hp1];exact hm.heap (fun e=>by have:=hlt _ e;omega) hb1) (hm.heap (fun e=>by have:=hlt _ e;omega) hb2) (by rw[hn1];omega) hl;rw[hn1]at this;exact this))
  have HP:=za hp0;have hne:((ttl:Int)==0)=false:=by rw[kr];omega
  clear h hr hbt hv hvn hp0 hlt hl0 hl ht hn64;go_enter func18,ntmps18;go_upto_region 1 with fail
  generalize(w.alloc (.cells #[lkP p] 23)).alloc (.cells #[.int .u64 ttl] 37)=W1 at *;obtain⟨n0,hn0⟩:=zc w.heap.size;rw[hn0]at hb1 hb2 HC ⊢;clear hn0;obtain⟨hb1_0,hb1_f,hb1_l,H_hb1⟩:=cr1 hb1;clear hb1;obtain⟨hb2_0,hb2_f,hb2_l,H_hb2⟩:=cr1 hb2;clear hb2
  go_wp2_with (first
    | (go_at_call 35;refine HN.out.mono ?_;rintro e w' ⟨rfl,rfl⟩)
    | (go_at_call 33;refine HC.out.mono ?_;rintro e w1 ⟨rfl,hg⟩))
  go_ret;obtain⟨D2,g1,g2,g3⟩:=hg;exact⟨rfl,D2,g1,Mod.trans' HP.out g2 (fun _ _ e=>e.elim) (fun _ _ e=>e),fun k hk=>(g3 k hk).imp (fun e=>e) (fun e=>zJ HP.out.size e)⟩
end
section
variable{Fo:Nat→Prop}{w w':World}{b:CaB}{s:CaS}{D:Nat→Prop}{p:Nat}{t:Bst}
def zcG(o:Option CE):List UInt8:=(o.map CE.val).getD []
def zlk(t:Bst)(tt:Nat)(key:ByteArray):Option CE × Bst:=match qA (xX t tt) key with
 | some x=>(some x,um (Yq (xX t tt) x.birth x.cost) 0)
 | none=>(none,vY t tt)
def zkS(Fo:Nat→Prop)(w:World)(D:Nat→Prop)(p:Nat)(r:Option CE × Bst)(e:Ending)(w':World):Prop :=
 ∃ a n c,e=.returned (.tuple #[.slice a n c,.bool r.1.isSome,.int .i64 0])∧zn w' (.slice a n c) 1 (zS (zcG r.1))∧uV Fo w D p r.2 w'
theorem zbZ(w:World):zn w (.slice none 0 0) 1 (zS []):=⟨none,0,0,rfl,rfl,by decide,fun _=>rfl,fun a h=>by cases h⟩
theorem CaI.exp_frame(h:CaI NoP s){tt:Nat}(ht:tt≤18446744073709551615)(hr:xR (zG s)=0):(zy s tt).now=max s.now tt∧(zy s tt).births=s.births∧((zy s tt).A++(zy s tt).B).length≤1048576:=by
 obtain⟨k1,k2,k3⟩:=h.exp ht (ZE hr);obtain⟨hsum,hlive⟩:=h.exp_sum ht hr;have:=ZE hr;refine⟨?_,?_,by rw[k2.lenAB];omega⟩
 ·have e:=congrArg Bst.now k3;exact e.trans (Xa (t:=zG s) h.inc tt).2.2.2.1
 ·have e:=congrArg Bst.births k3;exact e.trans (Xa (t:=zG s) h.inc tt).2.2.2.2.2
end
section
variable{Fo:Nat→Prop}{w w':World}
def Xr(cfg:Cfg)(mc mb births now:Nat):CaS:=⟨cfg,[],births,cfg.part,[],[],mc,mb,⟨0,0,0,0⟩,now,[],[]⟩
def zc1(Fo:Nat→Prop)(w:World)(s:CaS)(e:Ending)(w':World):Prop := ∃ b,e=.returned (lkP b.p)∧zu Fo w' b s∧zb w w' ∧ ∀ k,b.D k→w.heap.size≤k
def Kb(p d c o u t v:Nat)(Dd Do Dt:Nat→Prop)(n2 n3 n4 n5 n6 n7 n8:Nat):CaB :=
 ⟨p,d,c,o,u,t,v,Dd,Do,Dt,[],xf 1,fun k=>if k<n2 then 0 else if k<n3 then 4 else if k<n4 then 5 else if k<n5 then 2 else if k<n6 then 3 else if k<n7 then 6 else if k<n8 then 7 else 1⟩
theorem zgz{cfg:Cfg}{mc mb births now:Nat}{p d c o u t v:Nat}{Dd Do Dt:Nat→Prop}{W2 W3 W4 W5 W6 W7 W8 W9:World}
  (h0:0<W2.heap.size) (hS:y3 W3 Do o cfg.part [] []) (pS:zb W2 W3) (gS : ∀ k,Do k→W2.heap.size≤k)
  (hB:yO W4 u mc mb ⟨0,0,0,0⟩) (pB:zb W3 W4) (gB:W3.heap.size≤u)
  (hD:zU (fun k=>Fo k∨k<W4.heap.size) W5 Dd d cfg.seed cfg.same [] (xf 1)) (pD:zb W4 W5) (gD : ∀ k,Dd k→W4.heap.size≤k)
  (hC:Ctr W6 c births) (pC:zb W5 W6) (gC:W5.heap.size≤c)
  (hT:yb W7 Dt t now []) (pT:zb W6 W7) (gT : ∀ k,Dt k→W6.heap.size≤k)
  (hE:xL (fun k=>Fo k∨k<W7.heap.size) W8 v []) (pE:zb W7 W8) (gE:W7.heap.size≤v)
  (hp:W9.heap[p]? = some (.cells #[yV d,jx c,lkP o,buP u,lkP t,lkP v,.int .i64 cfg.count,.int .i64 cfg.bytes,.int .i64 cfg.prot,.int .u64 cfg.seed,.bool cfg.same] 60 (0,0))) (pP:zb W8 W9) (gP:W8.heap.size≤p) (hTab:xt W2) (hFo : ∀ k,Fo k→k<W2.heap.size) :
  zu Fo W9 (Kb p d c o u t v Dd Do Dt W2.heap.size W3.heap.size W4.heap.size W5.heap.size W6.heap.size W7.heap.size W8.heap.size) (Xr cfg mc mb births now):=by
 have s3:=pS.size;have s4:=pB.size;have s5:=pD.size;have s6:=pC.size;have s7:=pT.size;have s8:=pE.size;have s9:=pP.size;have lS : ∀ k,Do k→k<W3.heap.size:=fun k hk=>hS.lt hk
 have lB:u<W4.heap.size:=zl hB.box;have lD : ∀ k,Dd k→k<W5.heap.size:=fun k hk=>hD.lt hk
 have lC:c<W6.heap.size:=zl hC;have lT : ∀ k,Dt k→k<W7.heap.size:=fun k hk=>hT.lt hk
 have lE:v<W8.heap.size:=hE.lt (.inl rfl);have lP:p<W9.heap.size:=zl hp;have p89:=pP;have p79:=pE.trans p89;have p69:=pT.trans p79;have p59:=pC.trans p69;have p49:=pD.trans p59;have p39:=pB.trans p49;obtain⟨b,hb⟩:=zc (Kb p d c o u t v Dd Do Dt W2.heap.size W3.heap.size W4.heap.size W5.heap.size W6.heap.size W7.heap.size W8.heap.size);have hDD : ∀ k,b.D k→k=p∨Dd k∨k=c∨Do k∨k=u∨Dt k∨k=v:=fun k hk=>by
  subst hb;rcases hk with e | e | e | e | e | e | e
  ·exact .inl e
  ·exact .inr (.inl e)
  ·exact .inr (.inr (.inl e))
  ·exact .inr (.inr (.inr (.inl e)))
  ·exact .inr (.inr (.inr (.inr (.inl e))))
  ·exact .inr (.inr (.inr (.inr (.inr (.inl e)))))
  ·rcases e with e | ⟨n,hn,_⟩
   ·exact .inr (.inr (.inr (.inr (.inr (.inr e)))))
   ·cases hn
 have hlt : ∀ k,Fo k∨b.D k→k<W9.heap.size:=fun k hk=>by
  rcases hk with e | e
  ·have:=hFo k e;omega
  ·rcases hDD k e with rfl | e | rfl | e | rfl | e | rfl
   ·exact lP
   ·have:=lD k e;omega
   ·omega
   ·have:=lS k e;omega
   ·omega
   ·have:=lT k e;omega
   ·omega
 have hd9:zU (fun k=>Fo k∨b.D k) W9 Dd d cfg.seed cfg.same [] (xf 1):=(hD.add (T:=Dd) (fun k hk=>hD.holds hk)).refo p59 (fun k hk=>by
  rcases hk with e | e
  ·exact .inl (.inl (.inl e))
  ·rcases hDD k e with rfl | e | rfl | e | rfl | e | rfl
   ·exact .inr (by omega)
   ·exact .inl (.inr e)
   ·exact .inr gC
   ·exact .inl (.inl (.inr (by have:=lS k e;omega)))
   ·exact .inl (.inl (.inr (by omega)))
   ·exact .inr (by have:=gT k e;omega)
   ·exact .inr (by omega)) hlt
 have he9:xL (fun k=>Fo k∨b.D k) W9 v []:=by
  obtain⟨k0,k1,k2,k3,k4,k5,h1⟩:=hE.add (T:=fun k=>k=v) (fun k hk=>by subst hk;exact hE.holds (.inl rfl));refine⟨k0,k1,k2,k3,k4,k5,h1.refo p89 (fun k hk => ?_) hlt⟩;rcases hk with e | e
  ·exact .inl (.inl (.inl e))
  ·rcases hDD k e with rfl | e | rfl | e | rfl | e | rfl
   ·exact .inr gP
   ·exact .inl (.inl (.inr (by have:=lD k e;omega)))
   ·exact .inl (.inl (.inr (by omega)))
   ·exact .inl (.inl (.inr (by have:=lS k e;omega)))
   ·exact .inl (.inl (.inr (by omega)))
   ·exact .inl (.inl (.inr (by have:=lT k e;omega)))
   ·exact .inl (.inr rfl)
 rw[hb];have e1:b.p=p∧b.d=d∧b.c=c∧b.o=o∧b.u=u∧b.t=t∧b.v=v∧b.Dd=Dd∧b.Do=Do∧b.Dt=Dt∧b.ns=[]∧b.Gs=xf 1:=by subst hb;exact⟨rfl,rfl,rfl,rfl,rfl,rfl,rfl,rfl,rfl,rfl,rfl,rfl⟩
 obtain⟨q1,q2,q3,q4,q5,q6,q7,q8,q9,q10,q11,q12⟩:=e1;refine⟨?_,?_,?_,?_,?_,?_,?_,?_,?_,hTab.pure (pS.trans p39)⟩
 ·rw[q1,q2,q3,q4,q5,q6,q7];exact hp
 ·rw[q8,q2,q12];exact hd9
 ·rw[q3];exact hC.pure p69
 ·rw[q9,q4];exact hS.pure p39
 ·rw[q5];exact hB.pure p49
 ·rw[q10,q6];exact hT.pure p79
 ·rw[q7,q11];exact he9
 ·rw[q11];rfl
 ·subst hb;refine⟨?_,fun k hk => ?_,?_,fun k hk => ?_,?_,fun k hk => ?_,fun k hk => ?_,?_⟩
  ·show(if p<_ then(0:Nat)else _)=1
   rw[zf (by omega),zf (by omega),zf (by omega),zf (by omega),zf (by omega),zf (by omega),zf (by omega)]
  ·have:=gD k hk;have:=lD k hk
   show(if k<_ then(0:Nat)else _)=2
   rw[zf (by omega),zf (by omega),zf (by omega),zh (by omega)]
  ·show(if c<_ then(0:Nat)else _)=3
   rw[zf (by omega),zf (by omega),zf (by omega),zf (by omega),zh (by omega)]
  ·have:=gS k hk;have:=lS k hk
   show(if k<_ then(0:Nat)else _)=4
   rw[zf (by omega),zh (by omega)]
  ·show(if u<_ then(0:Nat)else _)=5
   rw[zf (by omega),zf (by omega),zh (by omega)]
  ·have:=gT k hk;have:=lT k hk
   show(if k<_ then(0:Nat)else _)=6
   rw[zf (by omega),zf (by omega),zf (by omega),zf (by omega),zf (by omega),zh (by omega)]
  ·rcases hk with e | ⟨n,hn,_⟩
   ·have e':k=v:=e;subst e'
    show(if k<_ then(0:Nat)else _)=7
    rw[zf (by omega),zf (by omega),zf (by omega),zf (by omega),zf (by omega),zf (by omega),zh (by omega)]
   ·cases hn
  ·show(if 0<_ then(0:Nat)else _)=0
   rw[zh h0]
def MdS(c1:Nat)(mc mb pr sd:Int)(sm:Bool)(Y:World):Prop:=Y.cell? ⟨c1,0,none⟩=some (.int .i64 mc)∧Y.cell? ⟨c1,1,none⟩=some (.int .i64 mb)∧Y.cell? ⟨c1,2,none⟩=some (.int .i64 pr)∧Y.cell? ⟨c1,3,none⟩=some (.int .u64 sd)∧Y.cell? ⟨c1,4,none⟩=some (.bool sm)
theorem ze6{mc mb:Nat}{pr:Int}{sd:Nat}{sm:Bool}(hc:Cfg.ok ⟨mc,mb,pr,sd,sm⟩)(hsd:sd<18446744073709551616){now births:Nat}(hn:now<18446744073709551616)(w:World)(hT:xt w)(hFo : ∀ k,Fo k→k<w.heap.size) :
  Calls prog 40 #[.agg #[.int .i64 mc,.int .i64 mb,.int .i64 pr,.int .u64 sd,.bool sm],.int .u64 now,.int .u64 births] w (zc1 Fo w (Xr ⟨mc,mb,pr,sd,sm⟩ mc mb births now)):=by
 have hpr:=Cfg.part_rng hc;have hPa:=fun W=>zaC hc W
 dsimp only[Cfg.v]at hPa;obtain⟨pt,hpt⟩:=zc (Cfg.part ⟨mc,mb,pr,sd,sm⟩);rw[hpt]at hpr hPa;have HPa:=za hPa;have HSn:=za (fun W=>zia hpr.1 hpr.2.1 W);have hc1:1≤mc∧mc≤1048576:=by have h1:=hc.1;have h2:=hc.2.1;dsimp only at h1 h2;omega
 have hc2:1≤mb∧mb≤1099511627776:=by have h1:=hc.2.2.1;have h2:=hc.2.2.2.1;dsimp only at h1 h2;omega
 have HBn:=za (fun W=>zjT hc1 hc2 W);have HHn:=za (fun W=>zi6 (sd:Int) sm W);have HDn:=za (fun W (hW : ∀ k,Fo k→k<W.heap.size)=>zfc (Fo:=fun k=>Fo k∨k<W.heap.size) sd sm hsd W (fun k hk=>hk.elim (hW k) (fun e=>e)));have HCn:=za (fun W=>zdF births W);have HTn:=za (fun W=>zi0 W hn);have HEn:=za (fun W (hW : ∀ k,Fo k→k<W.heap.size)=>zfN (Fo:=fun k=>Fo k∨k<W.heap.size) W (fun k hk=>hk.elim (hW k) (fun e=>e)));have hal:zb w (w.alloc (.cells #[.int .i64 mc,.int .i64 mb,.int .i64 pr,.int .u64 sd,.bool sm] 29)):=(Mod.refl _ w).alloc _;have z:=zi (w:=w) (o := .cells #[.int .i64 mc,.int .i64 mb,.int .i64 pr,.int .u64 sd,.bool sm] 29 (0,0)) rfl;have HP1:=za hal;have HTB:=za hT;have HFO:=za hFo;have HPT:=za hpt;clear hc hpr hPa hc1 hc2 hal hT hFo hpt hn hsd;go_enter func40,ntmps40;go_upto_region 1 with fail
 generalize w.alloc (.cells #[.int .i64 mc,.int .i64 mb,.int .i64 pr,.int .u64 sd,.bool sm] 29)=W1 at *;obtain⟨c1,hc1⟩:=zc w.heap.size;have HC1:=za hc1;rw[hc1]at z ⊢;have Z:=za z;clear hc1;obtain⟨z_0,z_1,z_2,z_3,z_4,z_f,z_l,H_z⟩:=cr5 z;clear z;go_upto_region 2 with(go_at_call 69;refine(HPa.out _).mono ?_;rintro e W2 ⟨rfl,hp2⟩)
 clear z_0 z_1 z_2 z_3 z_4 z_f z_l;clear H_z;have HP2:=za (HP1.out.trans hp2);have z2:=hp2.heap (fun h=>h) Z.out;have Z2:=za z2;clear hp2;go_upto_region 3 with(go_at_call 70;refine(HSn.out _).mono ?_;rintro e W3 ⟨o,l0,l1,bm,Do,D0,D1,Dm,rfl,hS,pS,gS⟩)
 have HS3:=za (⟨l0,l1,bm,D0,D1,Dm,hS⟩:y3 W3 Do o pt [] []);have PS:=za pS;have GS:=za gS;have z3:=pS.heap (fun h=>h) Z2.out;have Z3:=za z3;clear hS pS gS z2;obtain⟨z3_0,z3_1,z3_2,z3_3,z3_4,z3_f,z3_l,H_z3⟩:=cr5 z3;clear z3;go_upto_region 4 with(go_at_call 71;refine(HBn.out _).mono ?_;rintro e W4 ⟨rfl,hB,pB⟩)
 clear z3_0 z3_1 z3_2 z3_3 z3_4 z3_f z3_l;clear H_z3;have HB4:=za hB;have PB:=za pB;have z4:=pB.heap (fun h=>h) Z3.out;have HP4:=za ((HP2.out.trans PS.out).trans pB);have hst:=HP4.out.size;have HFO4:=za (fun k (hk:Fo k)=>xV (HFO.out k hk) hst);clear hst;obtain⟨u,hu⟩:=zc W3.heap.size;rw[hu]at HB4 ⊢;have HU:=za hu;have HS:=za (fun(Y:World) (hY:zb W4 Y)=>(⟨zj Y c1 0 _ _ (0,0) (hY.heap (fun h=>h) z4),zj Y c1 1 _ _ (0,0) (hY.heap (fun h=>h) z4),zj Y c1 2 _ _ (0,0) (hY.heap (fun h=>h) z4),zj Y c1 3 _ _ (0,0) (hY.heap (fun h=>h) z4),zj Y c1 4 _ _ (0,0) (hY.heap (fun h=>h) z4)⟩:MdS c1 mc mb pr sd sm Y));have hd4:zb W4 W4.drew:=(Mod.refl (fun _=>False) W4).drew;have HD4:=za hd4;clear hB pB hu z4 hd4;refine rHd (S:=MdS c1 mc mb pr sd sm) (HS.out _ HD4.out) (fun h_ => ?_);refine hTk 0 ?_;refine hLd 1 ?_;refine hTk 2 ?_;refine hLd 3 ?_;refine hTk 6 ?_;refine hTk 8 ?_;refine hTk 9 ?_;refine hTk 10 ?_;refine hLd 14 ?_
 (refine hSt 4 (fun K hK => ?_);go_simp;refine(HHn.out _).mono ?_;rintro e w5 ⟨rfl,hp5⟩;refine hK.out _ _ ?_ (fun h_ => ?_);(· exact HS.out _ (HD4.out.trans hp5));clear hK K;refine clA ?_)
 (refine hSt 5 (fun K hK => ?_);go_simp;refine zm (HDn.out _ (fun k hk=>xV (HFO4.out k hk) (HD4.out.trans hp5).size)) ?_;rintro e w6 ⟨d,Dd,rfl,hDd,hp6,gD⟩;refine hK.out _ _ ?_ (fun h_ => ?_);(· exact HS.out _ ((HD4.out.trans hp5).trans hp6));clear hK K;refine clA ?_)
 (refine hSt 7 (fun K hK => ?_);go_simp;refine(HCn.out _).mono ?_;rintro e w7 ⟨rfl,hCt,hp7,gC⟩;refine hK.out _ _ ?_ (fun h_ => ?_);(· exact HS.out _ (((HD4.out.trans hp5).trans hp6).trans hp7));clear hK K;refine clA ?_)
 (refine hSt 11 (fun K hK => ?_);go_simp;refine(HTn.out _).mono ?_;rintro e w8 ⟨tt,Dt,rfl,hDu,hp8,gT⟩;refine hK.out _ _ ?_ (fun h_ => ?_);(· exact HS.out _ ((((HD4.out.trans hp5).trans hp6).trans hp7).trans hp8));clear hK K;refine clA ?_)
 (refine hSt 12 (fun K hK => ?_);go_simp;refine zm (HEn.out _ (fun k hk=>xV (HFO4.out k hk) ((((HD4.out.trans hp5).trans hp6).trans hp7).trans hp8).size)) ?_;rintro e w9 ⟨rfl,hEv,hp9⟩;refine hK.out _ _ ?_ (fun h_ => ?_);(· exact HS.out _ (((((HD4.out.trans hp5).trans hp6).trans hp7).trans hp8).trans hp9));clear hK K;refine clA ?_)
 refine hTk 13 ?_;refine hTk 15 ?_
 (refine hSt 16 (fun K hK => ?_);go_simp;refine hK.out _ _ ?_ (fun h_ => ?_);(· exact HS.out _ ((((((HD4.out.trans hp5).trans hp6).trans hp7).trans hp8).trans hp9).trans ((Mod.refl _ _).alloc _)));clear hK K;refine clA ?_)
 refine hTk 17 ?_;refine hDn ?_;clear h_;have hal:zb w9 (w9.alloc (.cells #[yV d,jx w6.heap.size,lkP o,buP u,lkP tt,lkP w8.heap.size,.int .i64 mc,.int .i64 mb,.int .i64 pr,.int .u64 sd,.bool sm] 60)):=(Mod.refl _ w9).alloc _;have hbx:=zi (w:=w9) (o := .cells #[yV d,jx w6.heap.size,lkP o,buP u,lkP tt,lkP w8.heap.size,.int .i64 mc,.int .i64 mb,.int .i64 pr,.int .u64 sd,.bool sm] 60 (0,0)) rfl;have p45:=HD4.out.trans hp5;have hm:=zgz (Fo:=Fo) (cfg:=⟨mc,mb,pr,sd,sm⟩) (births:=births) (now:=now) (W2:=W2) (by have:=HTB.out.lt;have:=HP2.out.size;omega) (by rw[HPT.out];exact HS3.out) PS.out GS.out HB4.out PB.out (Nat.le_of_eq HU.out) (hDd.refo (Mod.refl _ _) (fun k hk => .inl (hk.imp (fun e=>e) (fun e=>xV e p45.size))) (fun k hk=>xV (hk.elim (HFO4.out k) (fun e=>e)) (p45.trans hp6).size)) (p45.trans hp6) (fun k hk=>zJ p45.size (gD k hk)) hCt hp7 (zH _) hDu hp8 gT (show xL (fun k=>Fo k∨k<w8.heap.size) w9 w8.heap.size []from⟨_,_,_,_,_,_,hEv⟩) hp9 (zH _) hbx hal (zH _) (HTB.out.pure HP2.out) (fun k hk=>xV (HFO.out k hk) HP2.out.size);have hpp:=(((((HP4.out.trans p45).trans hp6).trans hp7).trans hp8).trans hp9).trans hal;have HM:=za hm;have HPP:=za hpp;have hge : ∀ k,(Kb w9.heap.size d w6.heap.size o u tt w8.heap.size Dd Do Dt W2.heap.size W3.heap.size W4.heap.size w6.heap.size w7.heap.size w8.heap.size w9.heap.size).D k→w.heap.size≤k:=fun k hk=>by
  have z1:=HP2.out.size;have z2:=PS.out.size;have z3:=PB.out.size;have z4:=p45.size;have z5:=hp6.size;have z6:=hp7.size;have z7:=hp8.size;have z8:=hp9.size;have z9:=HU.out;rcases hk with e | e | e | e | e | e | e
  ·have e':k=w9.heap.size:=e;omega
  ·have:=gD k e;omega
  ·have e':k=w6.heap.size:=e;omega
  ·have:=GS.out k e;omega
  ·have e':k=u:=e;omega
  ·have:=gT k e;omega
  ·rcases e with e | ⟨n,hn,_⟩
   ·have e':k=w8.heap.size:=e;omega
   ·cases hn
 have HGE:=za hge;clear hp5 hDd hp6 gD hCt hp7 gC hDu hp8 gT hEv hp9 hal hbx p45 hm hpp hge;go_wp2;go_ret;exact⟨_,rfl,HM.out,HPP.out,HGE.out⟩
end
end
end Go.Proofs.YtpadepliilhmhaaGreatDoor
