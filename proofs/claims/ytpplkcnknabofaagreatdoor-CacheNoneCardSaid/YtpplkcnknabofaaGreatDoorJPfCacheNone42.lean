/- Lemmas and contracts of functions. No condition. -/
import Derived.Test.YtpplkcnknabofaaGreatDoorJPfCacheNone41
namespace Go.Proofs.YtpplkcnknabofaaGreatDoor
open _root_.Go.Proofs.Tryz
set_option maxRecDepth 100000
set_option maxHeartbeats 20000000
set_option linter.all false
section
open Go.RowKit Go.Shelf
structure Bst where
 cfg:Cfg
 now:Nat
 births:Nat
 E:List CE
 A:List Wt
 B:List Wt
 evs:List Ev
def zu(L:List (Option CE)):List CE:=L.filterMap id
def yj(L:List (Option CE))(sl:Nat):Nat:=match L[sl]? with
 | some (some x)=>x.birth
 | _=>0
def y9(L:List (Option CE))(y:Wt):Wt:=⟨yj L y.slot,y.cost⟩
def zD(s:CaS):Bst:=⟨s.cfg,s.now,s.births,zu s.L,s.A.map (y9 s.L),s.B.map (y9 s.L),s.evs⟩
def uS(L:List (Option CE)):Prop:=(zu L).Pairwise (fun x y=>x.birth<y.birth)
section
variable{L:List (Option CE)}{x y:CE}{i j:Nat}
theorem vT(h:L[i]? = some (some x)):yj L i=x.birth:=by unfold yj;rw[h]
theorem xJ:x∈zu L ↔ ∃ i:Nat,L[i]? = some (some x):=by
 unfold zu;rw[List.mem_filterMap];constructor
 ·rintro⟨o,ho,e⟩;obtain⟨i,hi⟩:=ug ho;exact⟨i,by rw[hi,show o=some x from e]⟩
 ·rintro⟨i,hi⟩;exact⟨some x,yd hi,rfl⟩
theorem XI(A B:List (Option CE)):zu (A++B)=zu A++zu B:=List.filterMap_append
theorem zc3(L:List (Option CE)):(zu L).length=zV (zB L):=by
 induction L with
 | nil=>rfl
 | cons o L ih =>
  cases o with
  | none =>
   have e1:zu (none::L)=zu L:=rfl;have e2:zV (zB (none::L))=zV (zB L):=by unfold zV zB;simp
   rw[e1,e2,ih]
  | some x =>
   have e1:zu (some x::L)=x::zu L:=rfl;have e2:zV (zB (some x::L))=zV (zB L)+1:=by unfold zV zB;simp
   rw[e1,e2,qz,ih]
theorem zfc{α:Type}{L:List α}{i:Nat}{x:α}(h:L[i]? = some x):L=L.take i++x::L.drop (i+1):=by
 obtain⟨h1,h2⟩:=zF.1 h;subst h2;rw[← kU h1,Yy]
theorem Vb(h:L[i]? = some (some x)):zu L=zu (L.take i)++x::zu (L.drop (i+1)):=by
 have e:=congrArg zu (zfc h);rw[XI]at e;exact e
theorem uS.lt(h:uS L)(hij:i<j)(hi:L[i]? = some (some x))(hj:L[j]? = some (some y)):x.birth<y.birth:=by
 have hy:y∈zu (L.drop (i+1)):=xJ.2 ⟨j-(i+1),by rw[List.getElem?_drop,show i+1+(j-(i+1))=j by omega];exact hj⟩;unfold uS at h;rw[Vb hi]at h;exact(ko.1 (j5.1 h).2.1).1 y hy
theorem uS.uniq(h:uS L)(hi:L[i]? = some (some x))(hj:L[j]? = some (some y))(e:x.birth=y.birth):i=j:=by
 rcases qU i j with c | c | c
 ·have:=h.lt c hi hj;omega
 ·exact c
 ·have:=h.lt c hj hi;omega
theorem Qu{α:Type}{L:List α}{i:Nat}(hi:i<L.length)(a:α):L.set i a=L.take i++a::L.drop (i+1):=by
 rw[List.set_eq_take_append_cons_drop,zk hi]
theorem uS.filter(h:uS L)(hi:L[i]? = some (some x)):(zu L).filter (fun y=>decide (y.birth≠x.birth))=zu (L.take i)++zu (L.drop (i+1)):=by
 have h':=h;unfold uS at h';rw[Vb hi]at h' ⊢;obtain⟨_,h2,h3⟩:=j5.1 h';obtain⟨h4,_⟩:=ko.1 h2;rw[Ym,k9,zh (by simp)]
 congr 1
 ·exact jf.2 (fun y hy=>by have:=h3 y hy x ym;simp;omega)
 ·exact jf.2 (fun y hy=>by have:=h4 y hy;simp;omega)
theorem zgO(h:uS L)(hi:L[i]? = some (some x)):zu (L.set i none)=(zu L).filter (fun y=>decide (y.birth≠x.birth)):=by
 rw[h.filter hi,Qu (zF.1 hi).1,XI]
 rfl
theorem zlz(h:uS L)(hi:L[i]? = some (some x))(z:CE):zu (L.set i (some z))=(zu L).map (fun y=>if y.birth=x.birth then z else y):=by
 have h':=h;unfold uS at h';rw[Vb hi]at h';rw[Qu (zF.1 hi).1,XI,Vb hi];obtain⟨_,h2,h3⟩:=j5.1 h';obtain⟨h4,_⟩:=ko.1 h2;rw[xK,Zh,zk rfl];have e1:(zu (L.take i)).map (fun y=>if y.birth=x.birth then z else y)=zu (L.take i):=by
  conv=>rhs;rw[← List.map_id (zu (L.take i))]
  exact uc (fun y hy=>by have:=h3 y hy x ym;rw[zh (by omega)];rfl)
 have e2:(zu (L.drop (i+1))).map (fun y=>if y.birth=x.birth then z else y)=zu (L.drop (i+1)):=by
  conv=>rhs;rw[← List.map_id (zu (L.drop (i+1)))]
  exact uc (fun y hy=>by have:=h4 y hy;rw[zh (by omega)];rfl)
 rw[e1,e2]
 rfl
theorem zbV : ∀ {E:List CE},E.Pairwise (fun x y=>x.birth<y.birth)→x∈E→E.find? (fun y=>y.birth==x.birth)=some x
 | [],_,h=>by cases h
 | z::E,h,hx=>by
  obtain⟨h1,h2⟩:=ko.1 h;rcases yu.1 hx with rfl | hx
  ·simp[List.find?_cons]
  ·have:=h1 x hx;rw[List.find?_cons,show(z.birth==x.birth)=false from uE.2 (by omega)];exact zbV h2 hx
theorem Jt(h:i≠j)(o:Option CE):yj (L.set i o) j=yj L j:=by unfold yj;rw[yx h]
theorem KY(h:uS L)(hx:L[i]? = some (some x)) : ∀ {A:List Wt},(∀ y∈A,∃ z,L[y.slot]? = some (some z))→(zw A i).map (y9 (L.set i none))=zw (A.map (y9 L)) x.birth
 | [],_=>rfl
 | y::A,hA=>by
  have ih:=KY h hx (A:=A) (fun y hy=>hA y (yB _ hy));obtain⟨z,hz⟩:=hA y ym;unfold zw at ih ⊢;rw[Zh,k9,k9];by_cases c:y.slot=i
  ·have hb:(y9 L y).slot=x.birth:=by unfold y9;rw[c];exact vT hx
   rw[zh (by simpa using c),zh (by simpa using hb)];exact ih
  ·have hb:(y9 L y).slot≠x.birth:=fun e=>by
    have e2:(y9 L y).slot=z.birth:=vT hz;exact c (h.uniq hz hx (by rw[← e2,e]))
   rw[zk (by simpa using c),zk (by simpa using hb),Zh,ih]
   congr 1
   unfold y9;rw[Jt (fun e=>c e.symm)]
end
def vg(k:Nat)(t:Bst)(n:Nat):Bst:=match t.E.find? (fun x=>x.birth==n)with
 | some x => {t with E:=t.E.filter (fun y=>decide (y.birth≠n)),A:=zw t.A n,B:=zw t.B n,evs:=t.evs++[⟨k,x,t.now⟩]}
 | none=>t
structure CaI(P:Nat→Prop)(s:CaS):Prop where
 cfg:s.cfg.ok
 lim:s.lim=s.cfg.part
 mc:s.cfg.count=s.mc
 mb:s.cfg.bytes=s.mb
 U:s.U=Bu.of s.A s.B
 nd:(zA (s.A++s.B)).Nodup
 ab : ∀ y:Wt,y∈s.A++s.B ↔ ∃ x,s.L[y.slot]? = some (some x)∧y.cost=x.cost
 due:yN s.now s.M
 md : ∀ t:Td,t∈s.M ↔ ∃ x,s.L[t.slot]? = some (some x)∧t.dl=x.dl∧t.birth=x.birth ∧ ¬ P t.slot
 ok : ∀ x∈zu s.L,x.Ok∧x.birth≤s.births
 inc:uS s.L
 keys:(zu s.L).Pairwise (fun x y=>x.key≠y.key)
 evo : ∀ v∈s.evs,v.Ok∧v.tm≤s.now∧v.e.birth≤s.births
 evt:s.evs.Pairwise (fun v u=>v.tm≤u.tm)
 now64:s.now≤18446744073709551615
 b64:s.births≤18446744073709551615
 len:s.L.length≤s.births∧s.births≤16
section
variable{P:Nat→Prop}{s:CaS}{k sl:Nat}{x:CE}
theorem zfm{now:Nat}{M:List Td}(h:yN now M){s:Nat}(hs:s<4194304):yN now (vB M s) ∧ ∀ y,y∈vB M s↔y∈M∧y.slot≠s:=by
 unfold vB;rcases VF M s with⟨_,hh,x,e1,rfl,_,e3,e4⟩ | ⟨hno,er,e1,e2⟩
 ·rw[e1];dsimp only;rw[zk rfl];obtain⟨h1,h2,_,_⟩:=h.out e4 (ZH h.ord);exact⟨h1,h2⟩
 ·rw[e1];dsimp only;rw[zh e2];refine⟨h,fun y=>⟨fun hy=>⟨hy,fun e => ?_⟩,fun hy=>hy.1⟩⟩;rcases hno with c | c
  ·exact c hs
  ·rw[uH.2 ⟨y,hy,e⟩]at c;cases c
theorem YU{L:List (Option CE)}{i j:Nat}{z:CE}:(L.set i none)[j]? = some (some z)↔L[j]? = some (some z)∧j≠i:=by
 rw[Xz];by_cases c:i=j
 ·subst c;rw[zk rfl];by_cases c2:i<L.length
  ·rw[zk c2];exact⟨fun e=>(by injection e with e;cases e),fun e=>absurd rfl e.2⟩
  ·rw[zh c2];exact⟨fun e=>(by cases e),fun e=>absurd rfl e.2⟩
 ·rw[zh c];exact⟨fun e=>⟨e,fun q=>c q.symm⟩,fun e=>e.1⟩
theorem CaI.sl_lt(h:CaI P s)(hx:s.L[sl]? = some (some x)):sl<4194304:=by have:=(zF.1 hx).1;have:=h.len;omega
theorem CaI.sg(h:CaI P s):SgL s.A s.B:=⟨h.nd,fun y hy=>by
 obtain⟨x,hx,e⟩:=(h.ab y).1 hy;have h1:=(h.ok x (xJ.2 ⟨_,hx⟩)).1;refine⟨h.sl_lt hx,?_⟩;rw[e];unfold CE.cost;have:=h1.k1;have:=h1.v1;omega⟩
theorem zal(hx:s.L[sl]? = some (some x)):xk k s sl=lvS s k x ⟨sl,x.cost⟩:=by unfold xk;rw[hx]
theorem CaI.lv(h:CaI P s)(hx:s.L[sl]? = some (some x))(hev:Ev.Ok ⟨k,x,s.now⟩):CaI P (xk k s sl)∧zD (xk k s sl)=vg k (zD s) x.birth:=by
 rw[zal hx];have hsl:=h.sl_lt hx;have hxm:x∈zu s.L:=xJ.2 ⟨sl,hx⟩;have hlive:=zgO h.inc hx;obtain⟨hd1,hd2⟩:=zfm h.due hsl;have hy:(⟨sl,x.cost⟩:Wt)∈s.A++s.B:=(h.ab ⟨sl,x.cost⟩).2 ⟨x,hx,rfl⟩;have hU:=(Bu.of_rem h.sg hy).2;have hsub : ∀ z,z∈zu (s.L.set sl none)→z∈zu s.L:=fun z hz=>by rw[hlive]at hz;exact(qT.1 hz).1
 refine⟨⟨h.cfg,h.lim,h.mc,h.mb,?_,?_,fun y => ?_,hd1,fun t => ?_,fun z hz=>h.ok z (hsub z hz),?_,?_,fun v hv => ?_,?_,h.now64,h.b64,?_⟩,?_⟩
 ·show s.U.rem (gOf s.B sl) x.cost=_
  rw[h.U];exact hU
 ·show(zA (zw s.A sl++zw s.B sl)).Nodup
  rw[← j7];exact h.nd.sublist (List.Sublist.map _ qg)
 ·show y∈zw s.A sl++zw s.B sl ↔ ∃ z,(s.L.set sl none)[y.slot]? = some (some z)∧y.cost=z.cost
  rw[← j7,jG,h.ab];constructor
  ·rintro⟨⟨z,h1,h2⟩,h3⟩;exact⟨z,YU.2 ⟨h1,h3⟩,h2⟩
  ·rintro⟨z,h1,h2⟩;obtain⟨h3,h4⟩:=YU.1 h1;exact⟨⟨z,h3,h2⟩,h4⟩
 ·show t∈vB s.M sl ↔ ∃ z,(s.L.set sl none)[t.slot]? = some (some z)∧t.dl=z.dl∧t.birth=z.birth ∧ ¬ P t.slot
  rw[hd2,h.md];constructor
  ·rintro⟨⟨z,h1,h2⟩,h3⟩;exact⟨z,YU.2 ⟨h1,h3⟩,h2⟩
  ·rintro⟨z,h1,h2⟩;obtain⟨h3,h4⟩:=YU.1 h1;exact⟨⟨z,h3,h2⟩,h4⟩
 ·show(zu (s.L.set sl none)).Pairwise _
  rw[hlive];exact h.inc.sublist qg
 ·show(zu (s.L.set sl none)).Pairwise _
  rw[hlive];exact h.keys.sublist qg
 ·rcases yF.1 hv with hv | hv
  ·exact h.evo v hv
  ·rw[xh.1 hv];exact⟨hev,zG _,(h.ok x hxm).2⟩
 ·show(s.evs++[_]).Pairwise _
  rw[j5];refine⟨h.evt,by simp,fun v hv u hu => ?_⟩;rw[xh.1 hu];exact(h.evo v hv).2.1
 ·show(s.L.set sl none).length≤s.births∧_
  rw[xH];exact h.len
 ·have hf:=zbV h.inc hxm;have e1:=KY h.inc hx (A:=s.A) (fun y hy=>by obtain⟨z,hz,_⟩:=(h.ab y).1 (xQ _ hy);exact⟨z,hz⟩);have e2:=KY h.inc hx (A:=s.B) (fun y hy=>by obtain⟨z,hz,_⟩:=(h.ab y).1 (xC _ hy);exact⟨z,hz⟩);unfold vg zD lvS;dsimp only;rw[hf,hlive,e1,e2]
theorem zdw:(xk k s sl).now=s.now∧(xk k s sl).cfg=s.cfg∧(xk k s sl).births=s.births∧(xk k s sl).mc=s.mc∧(xk k s sl).mb=s.mb∧(xk k s sl).lim=s.lim∧(xk k s sl).L.length=s.L.length:=by
 unfold xk;split
 ·exact⟨rfl,rfl,rfl,rfl,rfl,rfl,xH⟩
 ·exact⟨rfl,rfl,rfl,rfl,rfl,rfl,rfl⟩
theorem zlh(hx:s.L[sl]? = some (some x)):(xk k s sl).L=s.L.set sl none∧(xk k s sl).evs.length=s.evs.length+1:=by
 rw[zal hx];exact⟨rfl,by show(s.evs++[_]).length=_;rw[zR];rfl⟩
theorem CaI.leaves : ∀ {l:List Nat} {s:CaS},CaI P s→(∀ sl∈l,∃ x,s.L[sl]? = some (some x)∧Ev.Ok ⟨k,x,s.now⟩)→l.Nodup→s.evs.length+l.length≤1048576 →
  xz k s l∧CaI P (yJ k s l)∧zD (yJ k s l)=(l.map (yj s.L)).foldl (vg k) (zD s)∧(∀ j z,(yJ k s l).L[j]? = some (some z)↔s.L[j]? = some (some z)∧j∉l)
 | [],s,h,_,_,_=>⟨trivial,h,rfl,fun j z=>⟨fun e=>⟨e,by simp⟩,fun e=>e.1⟩⟩
 | sl::l,s,h,hl,hnd,hn=>by
  obtain⟨x,hx,hev⟩:=hl sl ym;obtain⟨hn1,hn2⟩:=xe.1 hnd;obtain⟨h1,h2⟩:=h.lv hx hev;obtain⟨h3,h4⟩:=zlh (k:=k) hx;have hfr:=zdw (k:=k) (s:=s) (sl:=sl);have hne : ∀ q∈l,q≠sl:=fun q hq e=>hn1 (e ▸ hq)
  obtain⟨k1,k2,k3,k4⟩:=CaI.leaves (l:=l) h1 (fun q hq=>by
   obtain⟨z,hz,hev2⟩:=hl q (yB _ hq);exact⟨z,by rw[h3];exact YU.2 ⟨hz,hne q hq⟩,by rw[hfr.1];exact hev2⟩) hn2 (by simp at hn;omega)
  refine⟨⟨⟨x,hx,(h.ab ⟨sl,x.cost⟩).2 ⟨x,hx,rfl⟩,hev,by simp at hn;omega,h.U⟩,k1⟩,k2,?_,fun j z => ?_⟩
  ·have e1:l.map (yj (xk k s sl).L)=l.map (yj s.L):=uc (fun q hq=>by rw[h3];exact Jt (fun e=>hne q hq e.symm) _);rw[Zh,List.foldl_cons,vT hx,← h2,← e1];exact k3
  ·have e2:yJ k s (sl::l)=yJ k (xk k s sl) l:=rfl;rw[e2,k4,h3,YU,yu,not_or];exact⟨fun e=>⟨e.1.1,e.1.2,e.2⟩,fun e=>⟨⟨e.1,e.2.1⟩,e.2.2⟩⟩
end
def td0(x:CE):Td:=⟨0,x.dl,x.birth⟩
def Yh(t:Td):Td:=⟨0,t.dl,t.birth⟩
def Z0(E:List CE):List Td:=E.foldr (fun x M=>xW M (td0 x)) []
def JI(E:List CE)(tt:Nat):List Nat:=(ud tt (Z0 E)).map Td.birth
def yX(t:Bst)(tt:Nat):Bst:=(JI t.E (max t.now tt)).foldl (vg 1) {t with now:=max t.now tt}
theorem VR : ∀ E:List CE,(Z0 E).Perm (E.map td0)
 | []=>List.Perm.refl _
 | x::E=>qr.trans ((VR E).cons _)
theorem Kf : ∀ {E:List CE},E.Pairwise (fun x y=>x.birth<y.birth)→(Z0 E).Pairwise bef
 | [],_=>List.Pairwise.nil
 | x::E,h=>by
  obtain⟨h1,h2⟩:=ko.1 h;refine Xx (Kf h2) (fun y hy e => ?_);obtain⟨z,hz,rfl⟩:=zI.1 ((VR E).mem_iff.1 hy);have:=h1 z hz;have e2:z.birth=x.birth:=e;omega
theorem zjU{R:Td→Td→Prop}(hR : ∀ a b,R a b→R b a→False){A B:List Td}(h1:A.Pairwise R)(h2:B.Pairwise R)(hm : ∀ x,x∈A↔x∈B):A.Perm B:=by
 have n1:A.Nodup:=h1.imp (fun {a b} k e=>by subst e;exact hR _ _ k k);have n2:B.Nodup:=h2.imp (fun {a b} k e=>by subst e;exact hR _ _ k k);exact(List.perm_ext_iff_of_nodup n1 n2).2 hm
theorem zk0{L:List (Option CE)}{M:List Td}(hs:M.Pairwise bef)(hm : ∀ t:Td,t∈M ↔ ∃ x,L[t.slot]? = some (some x)∧t.dl=x.dl∧t.birth=x.birth)(hi:uS L):M.map Yh=Z0 (zu L):=by
 have h1:(M.map Yh).Pairwise bef:=by
  rw[uO];exact hs.imp (fun {a b} h=>h)
 refine ZR h1 (Kf hi) (zjU (R:=bef) (fun a b=>Xb) h1 (Kf hi) (fun t => ?_));rw[(VR _).mem_iff,zI,zI];constructor
 ·rintro⟨y,hy,rfl⟩;obtain⟨x,hx,e1,e2⟩:=(hm y).1 hy;exact⟨x,xJ.2 ⟨_,hx⟩,by unfold td0 Yh;rw[e1,e2]⟩
 ·rintro⟨x,hx,rfl⟩;obtain⟨i,hi2⟩:=xJ.1 hx;exact⟨⟨i,x.dl,x.birth⟩,(hm _).2 ⟨x,hi2,rfl,rfl⟩,rfl⟩
theorem zec(tt:Nat)(M:List Td):ud tt (M.map Yh)=(ud tt M).map Yh:=by
 unfold ud;rw[List.takeWhile_map]
 rfl
section
variable{s:CaS}{t:Nat}
abbrev NoP:Nat→Prop:=fun _=>False
theorem CaI.md0(h:CaI NoP s)(t:Td):t∈s.M ↔ ∃ x,s.L[t.slot]? = some (some x)∧t.dl=x.dl∧t.birth=x.birth:=by
 rw[h.md];exact⟨fun⟨x,a,b,c,_⟩=>⟨x,a,b,c⟩,fun⟨x,a,b,c⟩=>⟨x,a,b,c,fun e=>e⟩⟩
theorem CaI.sortM(h:CaI NoP s):s.M.map Yh=Z0 (zu s.L):=zk0 h.due.ord h.md0 h.inc
theorem CaI.lenM(h:CaI NoP s):s.M.length=(zu s.L).length:=by
 have e:=congrArg List.length h.sortM;rw[yt,(VR _).length_eq,yt]at e;exact e
theorem CaI.fresh(h:CaI NoP s){x:CE}(hx:x∈zu s.L):s.now<x.dl∨x.dl=18446744073709551615:=by
 obtain⟨i,hi⟩:=xJ.1 hx;exact(h.due.rng ⟨i,x.dl,x.birth⟩ ((h.md0 _).2 ⟨x,hi,rfl,rfl⟩)).2.1
theorem CaI.tm(h:CaI NoP s)(ht:t≤18446744073709551615):CaI (fun q=>q∈yD s t) (tmS s t)∧(yD s t).Nodup∧(∀ sl∈yD s t,∃ x,s.L[sl]? = some (some x)∧Ev.Ok ⟨1,x,max s.now t⟩)∧(yD s t).map (yj s.L)=JI (zu s.L) (max s.now t)∧(yD s t).length≤(zu s.L).length:=by
 have h64:=h.now64;have hmx:max s.now t≤18446744073709551615:=by omega
 have hd:=(h.due.exp (tt:=max s.now t) (by omega) hmx).2.2.2;obtain⟨e1,e2⟩:=zak hmx h.due.ord;have hin : ∀ y∈ud (max s.now t) s.M,y∈s.M∧jc (max s.now t) y=true:=fun y hy=>by rw[e1]at hy;exact qT.1 hy
 refine⟨⟨h.cfg,h.lim,h.mc,h.mb,h.U,h.nd,h.ab,hd,fun y => ?_,h.ok,h.inc,h.keys,fun v hv => ?_,h.evt,hmx,h.b64,h.len⟩,?_,fun sl hsl => ?_,?_,?_⟩
 ·show y∈jq (max s.now t) s.M ↔ ∃ x,s.L[y.slot]? = some (some x)∧y.dl=x.dl∧y.birth=x.birth ∧ ¬ y.slot∈yD s t
  rw[e2,qT];constructor
  ·rintro⟨hy,hp⟩;obtain⟨x,a,b,c⟩:=(h.md0 y).1 hy;refine⟨x,a,b,c,fun hc => ?_⟩;obtain⟨z,hz,ez⟩:=zI.1 hc;obtain⟨k1,k2⟩:=hin z hz;rw[h.due.slots z k1 y hy ez]at k2;rw[k2]at hp
   cases hp
  ·rintro⟨x,a,b,c,d⟩;have hy:=(h.md0 y).2 ⟨x,a,b,c⟩;refine⟨hy,?_⟩
   cases hp:jc (max s.now t) y with
   | false=>rfl
   | true=>exact absurd (zI.2 ⟨y,by rw[e1];exact qT.2 ⟨hy,hp⟩,rfl⟩) d
 ·obtain⟨a,b,c⟩:=h.evo v hv;exact⟨a,by show v.tm≤max s.now t;omega,c⟩
 ·show((ud (max s.now t) s.M).map Td.slot).Nodup
  refine uO.2 ?_;have hp:(ud (max s.now t) s.M).Pairwise bef:=h.due.ord.sublist (VV _);refine hp.imp_of_mem (fun {a b} ha hb hab e => ?_);have:=h.due.slots a (hin a ha).1 b (hin b hb).1 e;subst this;exact Xb hab hab
 ·obtain⟨y,hy,rfl⟩:=zI.1 hsl;obtain⟨k1,k2⟩:=hin y hy;obtain⟨x,a,b,c⟩:=(h.md0 y).1 k1;refine⟨x,a,⟨zG _,by show(1:Nat)≤5;omega⟩,(h.ok x (xJ.2 ⟨_,a⟩)).1,hmx,?_⟩;unfold jc at k2;unfold kE;rw[b]at k2;simp at k2 ⊢;omega
 ·unfold JI;rw[← h.sortM,zec];unfold yD;rw[jh,jh];refine uc (fun y hy => ?_);obtain⟨x,a,b,c⟩:=(h.md0 y).1 (hin y hy).1
  show yj s.L y.slot=y.birth
  rw[vT a,c]
 ·unfold yD;rw[yt,← h.lenM];exact(VV _).length_le
theorem CaI.exp(h:CaI NoP s)(ht:t≤18446744073709551615)(hn:s.evs.length+(zu s.L).length≤1048576) :
  xz 1 (tmS s t) (yD s t)∧CaI NoP (zj s t)∧zD (zj s t)=yX (zD s) t:=by
 obtain⟨h1,h2,h3,h4,h5⟩:=h.tm ht;obtain⟨k1,k2,k3,k4⟩:=h1.leaves (k:=1) (l:=yD s t) h3 h2 (by show s.evs.length+_≤_;omega);refine⟨k1,⟨k2.cfg,k2.lim,k2.mc,k2.mb,k2.U,k2.nd,k2.ab,k2.due,fun y => ?_,k2.ok,k2.inc,k2.keys,k2.evo,k2.evt,k2.now64,k2.b64,k2.len⟩,?_⟩
 ·show y∈(yJ 1 (tmS s t) (yD s t)).M ↔ ∃ x,(yJ 1 (tmS s t) (yD s t)).L[y.slot]? = some (some x)∧y.dl=x.dl∧y.birth=x.birth ∧ ¬ False
  rw[k2.md];constructor
  ·rintro⟨x,a,b,c,d⟩;exact⟨x,a,b,c,fun e=>e⟩
  ·rintro⟨x,a,b,c,d⟩;exact⟨x,a,b,c,((k4 _ _).1 a).2⟩
 ·show zD (yJ 1 (tmS s t) (yD s t))=_
  rw[k3]
  show((yD s t).map (yj s.L)).foldl (vg 1) _=_
  rw[h4]
  rfl
end
section
variable{s:CaS}
theorem CaI.packok(h:CaI NoP s):zcF s:=⟨by
 have:=h.len;unfold Xl;have e:decide (16<(s.L.length:Int))=false:=zQ (by omega);rw[e];simp⟩
theorem CaI.pk(h:CaI NoP s):CaI NoP (pkS s)∧zD (pkS s)=zD s∧(pkS s).L.length≤2*(zu s.L).length+16:=⟨h,rfl,by have:=h.len;show s.L.length≤_;omega⟩
end
def vP(t:Bst)(keep:Nat):Bst:=(vX t.cfg.count.toNat t.cfg.bytes.toNat keep (t.A++t.B)).foldl (vg 2) t
theorem zba{f:Nat→Nat}{cn by_:Nat} : ∀ {zs:List Wt} {n c:Nat},vA cn by_ (zs.map (fun y=>(⟨f y.slot,y.cost⟩:Wt))) n c=(vA cn by_ zs n c).map f
 | [],_,_=>rfl
 | z::zs,n,c=>by
  rw[Zh,vA,vA];split
  ·rw[Zh,zba]
  ·rfl
theorem zjF{f:Nat→Nat}{cn by_ keep keepN:Nat}{zs:List Wt}(hk : ∀ y∈zs,f y.slot=keepN↔y.slot=keep):vX cn by_ keepN (zs.map (fun y=>(⟨f y.slot,y.cost⟩:Wt)))=(vX cn by_ keep zs).map f:=by
 unfold vX;have e1:kN keepN (zs.map (fun y=>(⟨f y.slot,y.cost⟩:Wt)))=(kN keep zs).map (fun y=>(⟨f y.slot,y.cost⟩:Wt)):=by
  unfold kN;rw[List.filter_map]
  congr 1
  refine XK (fun y hy => ?_)
  show(!kR keepN ⟨f y.slot,y.cost⟩)=(!kR keep y)
  unfold kR;have:=hk y hy;by_cases c:y.slot=keep
  ·rw[zL (show(⟨f y.slot,y.cost⟩:Wt).slot=keepN from this.2 c),zL c]
  ·rw[zQ (show ¬ (⟨f y.slot,y.cost⟩:Wt).slot=keepN from fun e=>c (this.1 e)),zQ c]
 have e2:zv (zs.map (fun y=>(⟨f y.slot,y.cost⟩:Wt)))=zv zs:=by unfold zv;simp[Function.comp_def]
 rw[e1,e2,yt,zba]
theorem Qg{cn by_:Nat} : ∀ {zs:List Wt} {n c:Nat},(vA cn by_ zs n c).Sublist (zA zs)
 | [],_,_=>by simp[vA,zA]
 | z::zs,n,c=>by
  rw[vA];split
  ·exact(Qg (zs:=zs)).cons_cons _
  ·exact List.nil_sublist _
theorem zjN{cn by_ keep:Nat}{zs:List Wt}:(vX cn by_ keep zs).Sublist (zA zs)∧keep∉vX cn by_ keep zs:=by
 unfold vX;refine⟨Qg.trans (List.Sublist.map _ qg),fun h => ?_⟩;obtain⟨y,hy,e⟩:=zI.1 (Qg.subset h);have:=(qT.1 hy).2;unfold kR at this;simp[e]at this
section
variable{s:CaS}{keep keepN:Nat}
theorem CaI.lenAB(h:CaI NoP s):(s.A++s.B).length=(zu s.L).length:=by
 have h1:((s.A++s.B).map (fun y=>yj s.L y.slot)).Nodup:=by
  have hnd:=h.nd;unfold zA at hnd;refine uO.2 ((uO.1 hnd).imp_of_mem (fun {a b} ha hb hab e=>hab ?_));obtain⟨x,hx,_⟩:=(h.ab a).1 ha;obtain⟨y,hy,_⟩:=(h.ab b).1 hb;exact h.inc.uniq hx hy (by rw[← vT hx,← vT hy];exact e)
 have h2:((zu s.L).map CE.birth).Nodup:=uO.2 (h.inc.imp (fun {a b} hab e=>by omega));have hp:((s.A++s.B).map (fun y=>yj s.L y.slot)).Perm ((zu s.L).map CE.birth):=(List.perm_ext_iff_of_nodup h1 h2).2 (fun n=>by
  rw[zI,zI];constructor
  ·rintro⟨y,hy,rfl⟩;obtain⟨x,hx,_⟩:=(h.ab y).1 hy;exact⟨x,xJ.2 ⟨_,hx⟩,(vT hx).symm⟩
  ·rintro⟨x,hx,rfl⟩;obtain⟨i,hi⟩:=xJ.1 hx;exact⟨⟨i,x.cost⟩,(h.ab _).2 ⟨x,hi,rfl⟩,vT hi⟩)
 have:=hp.length_eq;rw[yt,yt]at this;exact this
theorem CaI.ev(h:CaI NoP s)(hk : ∀ y∈s.A++s.B,yj s.L y.slot=keepN↔y.slot=keep)(hn:s.evs.length+(zu s.L).length≤1048576∨(s.evs.length+(zu s.L).length≤1048577 ∧ ∃ c,(⟨keep,c⟩:Wt)∈s.A++s.B)) :
  xz 2 s (ui s keep)∧CaI NoP (evS s keep)∧zD (evS s keep)=vP (zD s) keepN ∧ ∀ z,s.L[keep]? = some (some z)→z∈zu (evS s keep).L:=by
 obtain⟨hs1,hs2⟩:=zjN (cn:=s.mc) (by_:=s.mb) (keep:=keep) (zs:=s.A++s.B);have hnd:(ui s keep).Nodup:=h.nd.sublist hs1;have hlen:s.evs.length+(ui s keep).length≤1048576:=by
  have h1:=hs1.length_le;have h2:(zA (s.A++s.B)).length=(zu s.L).length:=by unfold zA;rw[yt,h.lenAB]
  rw[h2]at h1;have e:ui s keep=vX s.mc s.mb keep (s.A++s.B):=rfl;rcases hn with hn | ⟨hn,c,hc⟩
  ·rw[e];omega
  ·have h3:(vX s.mc s.mb keep (s.A++s.B)).length<(zA (s.A++s.B)).length:=by
    refine Nat.lt_of_le_of_ne hs1.length_le (fun e2 => ?_);have e3:=hs1.eq_of_length e2;exact hs2 (by rw[e3];exact zI.2 ⟨_,hc,rfl⟩)
   rw[e];omega
 obtain⟨k1,k2,k3,k4⟩:=h.leaves (k:=2) (l:=ui s keep) (fun sl hsl=>by
  obtain⟨y,hy,rfl⟩:=zI.1 (hs1.subset hsl);obtain⟨x,hx,_⟩:=(h.ab y).1 hy;have hm:=xJ.2 ⟨_,hx⟩;have hf:=h.fresh hm;refine⟨x,hx,⟨by show(1:Nat)≤2;omega,by show(2:Nat)≤5;omega⟩,(h.ok x hm).1,h.now64,?_⟩
  show kE x.dl s.now=false
  unfold kE;rcases hf with hf | hf
  ·simp;omega
  ·simp[hf]) hnd hlen
 refine⟨k1,k2,?_,fun z hz=>xJ.2 ⟨keep,(k4 keep z).2 ⟨hz,hs2⟩⟩⟩
 show zD (yJ 2 s (ui s keep))=_
 rw[k3];unfold vP;have e1:(zD s).A++(zD s).B=(s.A++s.B).map (fun y=>(⟨yj s.L y.slot,y.cost⟩:Wt)):=by
  rw[xK];rfl
 rw[e1];have c1:(zD s).cfg.count.toNat=s.mc:=by show s.cfg.count.toNat=_;rw[h.mc];rfl
 have c2:(zD s).cfg.bytes.toNat=s.mb:=by show s.cfg.bytes.toNat=_;rw[h.mb];rfl
 rw[c1,c2,zjF (f:=yj s.L) hk]
 rfl
theorem CaI.run(h:CaI NoP s)(hk : ∀ y∈s.A++s.B,yj s.L y.slot=keepN↔y.slot=keep)(hn:s.evs.length+(zu s.L).length≤1048576∨(s.evs.length+(zu s.L).length≤1048577 ∧ ∃ c,(⟨keep,c⟩:Wt)∈s.A++s.B)) :
  xX s keep∧CaI NoP (pkS (evS s keep))∧zD (pkS (evS s keep))=vP (zD s) keepN∧(pkS (evS s keep)).L.length≤2*(zu (pkS (evS s keep)).L).length+16 ∧ ∀ z,s.L[keep]? = some (some z)→z∈zu (pkS (evS s keep)).L:=by
 obtain⟨h1,h2,h3,h9⟩:=h.ev hk hn;obtain⟨h4,h5,h6⟩:=h2.pk;have h7:zu (pkS (evS s keep)).L=zu (evS s keep).L:=congrArg Bst.E h5;refine⟨⟨h1,h.U,?_,h.mc,h.mb,h2.packok⟩,h4,h5.trans h3,by rw[h7];exact h6,by rw[h7];exact h9⟩;rw[h.lenAB];omega
end
def Bst.sum(t:Bst):Nat:=t.evs.length+t.E.length
def qm(E:List CE):Prop:=E.Pairwise (fun x y=>x.birth<y.birth)
theorem zdk{x:CE} : ∀ {E:List CE},qm E→x∈E→(E.filter (fun y=>decide (y.birth≠x.birth))).length+1=E.length
 | [],_,h=>by cases h
 | z::E,h,hx=>by
  obtain⟨h1,h2⟩:=ko.1 h;rcases yu.1 hx with rfl | hx
  ·rw[k9,zh (by simp)];have e:E.filter (fun y=>decide (y.birth≠x.birth))=E:=jf.2 (fun y hy=>by have:=h1 y hy;simp;omega);rw[e]
   rfl
  ·have:=h1 x hx;rw[k9,zk (by simp;omega),qz,qz,zdk h2 hx]
theorem QP{k:Nat}{t:Bst}{n:Nat}(h:qm t.E):(vg k t n).sum=t.sum∧qm (vg k t n).E∧(vg k t n).E.length≤t.E.length∧(vg k t n).now=t.now∧(vg k t n).cfg=t.cfg∧(vg k t n).births=t.births:=by
 unfold vg
 cases hf:t.E.find? (fun x=>x.birth==n)with
 | none=>exact⟨rfl,h,zG _,rfl,rfl,rfl⟩
 | some x =>
  have hx:=Zo hf;have hb:x.birth=n:=by simpa using Xe hf
  subst hb;have h1:=zdk h hx;refine⟨?_,h.sublist qg,List.length_filter_le _ _,rfl,rfl,rfl⟩;unfold Bst.sum;dsimp only;rw[zR,List.length_singleton];omega
theorem Ug{k:Nat} : ∀ {l:List Nat} {t:Bst},qm t.E→(l.foldl (vg k) t).sum=t.sum∧qm (l.foldl (vg k) t).E∧(l.foldl (vg k) t).E.length≤t.E.length∧(l.foldl (vg k) t).now=t.now∧(l.foldl (vg k) t).cfg=t.cfg∧(l.foldl (vg k) t).births=t.births
 | [],t,h=>⟨rfl,h,zG _,rfl,rfl,rfl⟩
 | n::l,t,h=>by
  obtain⟨h1,h2,h3,h4,h5,h6⟩:=QP (k:=k) (n:=n) h;obtain⟨k1,k2,k3,k4,k5,k6⟩:=Ug (k:=k) (l:=l) h2;exact⟨k1.trans h1,k2,zH k3 h3,k4.trans h4,k5.trans h5,k6.trans h6⟩
theorem zlx{lim:Int}{f:Nat→Nat}(B:List Wt):jp lim (B.map (fun y=>(⟨f y.slot,y.cost⟩:Wt)))=jp lim B:=by
 unfold jp zv;simp[Function.comp_def]
theorem V1{lim:Int}{f:Nat→Nat} : ∀ {B A:List Wt},(dem lim (A.map (fun y=>(⟨f y.slot,y.cost⟩:Wt))) (B.map (fun y=>(⟨f y.slot,y.cost⟩:Wt)))).1=(dem lim A B).1.map (fun y=>⟨f y.slot,y.cost⟩)∧(dem lim (A.map (fun y=>(⟨f y.slot,y.cost⟩:Wt))) (B.map (fun y=>(⟨f y.slot,y.cost⟩:Wt)))).2.1=(dem lim A B).2.1.map (fun y=>⟨f y.slot,y.cost⟩)
 | [],A=>⟨rfl,rfl⟩
 | b::B,A=>by
  have hn:=zlx (lim:=lim) (f:=f) (b::B)
  cases h:jp lim (b::B)with
  | false =>
   rw[h]at hn;rw[V2 h,V2 hn];exact⟨rfl,rfl⟩
  | true =>
   rw[h]at hn;have e:(b::B).map (fun y=>(⟨f y.slot,y.cost⟩:Wt))=⟨f b.slot,b.cost⟩::B.map (fun y=>(⟨f y.slot,y.cost⟩:Wt)):=rfl;rw[e]at hn ⊢;rw[VQ h,VQ hn];have ih:=V1 (lim:=lim) (f:=f) (B:=B) (A:=A++[b]);rw[xK]at ih;exact ih
theorem J7(lim:Int)(A B:List Wt):(dem lim A B).1++(dem lim A B).2.1=A++B:=by
 obtain⟨ys,B2,e1,e2⟩:=UP lim B A;rw[e2,e1];simp
theorem zdB(lim:Int)(A B:List Wt)(x:Wt):((xw lim A B x).1++(xw lim A B x).2.1).Perm (zw (A++B) x.slot++[x]):=by
 unfold xw;split
 ·rw[J7,j7,vH,vH];exact(List.perm_append_comm).append_left _
 ·rw[J7,j7,vH]
def YR(t:Bst)(n c:Nat):Bst := {t with A:=(xw t.cfg.part t.A t.B ⟨n,c⟩).1,B:=(xw t.cfg.part t.A t.B ⟨n,c⟩).2.1}
theorem QX{f:Nat→Nat}{sl:Nat}{A:List Wt}(h : ∀ y∈A,f y.slot=f sl↔y.slot=sl):zw (A.map (fun y=>(⟨f y.slot,y.cost⟩:Wt))) (f sl)=(zw A sl).map (fun y=>⟨f y.slot,y.cost⟩):=by
 unfold zw;rw[List.filter_map]
 congr 1
 refine XK (fun y hy => ?_);have:=h y hy
 show decide (f y.slot≠f sl)=decide (y.slot≠sl)
 exact decide_eq_decide.2 (not_congr this)
theorem zbj{lim:Int}{f:Nat→Nat}{sl c:Nat}{A B:List Wt}(h : ∀ y∈A++B,f y.slot=f sl↔y.slot=sl) :
  (xw lim (A.map (fun y=>(⟨f y.slot,y.cost⟩:Wt))) (B.map (fun y=>(⟨f y.slot,y.cost⟩:Wt))) ⟨f sl,c⟩).1=(xw lim A B ⟨sl,c⟩).1.map (fun y=>⟨f y.slot,y.cost⟩)∧(xw lim (A.map (fun y=>(⟨f y.slot,y.cost⟩:Wt))) (B.map (fun y=>(⟨f y.slot,y.cost⟩:Wt))) ⟨f sl,c⟩).2.1=(xw lim A B ⟨sl,c⟩).2.1.map (fun y=>⟨f y.slot,y.cost⟩):=by
 have e1:=QX (A:=A) (f:=f) (sl:=sl) (fun y hy=>h y (xQ _ hy));have e2:=QX (A:=B) (f:=f) (sl:=sl) (fun y hy=>h y (xC _ hy));unfold xw;dsimp only;rw[e1,e2];by_cases e:lim = -1
 ·rw[zk e,zk e];have e3:=V1 (lim:=lim) (f:=f) (A:=zw A sl++[⟨sl,c⟩]) (B:=zw B sl);rw[xK]at e3;exact e3
 ·rw[zh e,zh e];have e3:=V1 (lim:=lim) (f:=f) (A:=zw A sl) (B:=zw B sl++[⟨sl,c⟩]);rw[xK]at e3;exact e3
theorem zbK{now:Nat}{M:List Td}{s dl b:Nat}(h:yN now M)(hb:j9 M s b=false)(hs:s<4194304)(h0:0<b)(h1:b≤18446744073709551615)(hd:now<dl∨dl=18446744073709551615)(hd1:dl≤18446744073709551615) :
  kq now M s dl b=0∧yN now (u9 now M s dl b) ∧ ∀ y,y∈u9 now M s dl b↔(y∈M∧y.slot≠s)∨y=⟨s,dl,b⟩:=by
 have hr:kq now M s dl b=0:=by
  unfold kq;rw[zk ⟨hs,by omega⟩,zh (by omega),hb]
  rfl
 have hno : ∀ y∈M,y.slot≠s→y.birth≠b:=fun y hy h1 h2=>by
  have:=XG.2 ⟨y,hy,.inr ⟨h1,h2⟩⟩;rw[hb]at this
  cases this
 obtain⟨N,hN,hD,hm⟩ : ∃ N,jx M s=N∧yN now N ∧ ∀ y,y∈N↔y∈M∧y.slot≠s:=by
  refine⟨jx M s,rfl,?_⟩;unfold jx
  cases hh:xO M s with
  | false =>
   rw[zh (by decide)];exact⟨h,fun y=>⟨fun hy=>⟨hy,fun e=>by rw[uH.2 ⟨y,hy,e⟩]at hh;cases hh⟩,fun hy=>hy.1⟩⟩
  | true =>
   rw[zk rfl];obtain⟨x,k1,k2,k3,k4⟩:=Ul (VM.2 hh);subst k2;obtain⟨h1,h2,_,_⟩:=h.out k4 (ZH h.ord);exact⟨h1,h2⟩
 refine⟨hr,?_,fun y => ?_⟩
 ·unfold u9;rw[zk hr,hN];exact hD.put (fun y hy=>((hm y).1 hy).2) (fun y hy=>hno y ((hm y).1 hy).1 ((hm y).1 hy).2) ⟨hs,hd,hd1,h0,h1⟩
 ·unfold u9;rw[zk hr,hN,Zw,hm];exact⟨fun e=>e.elim .inr .inl,fun e=>e.elim .inr .inl⟩
section
variable{s:CaS}{sl:Nat}{x z:CE}
theorem CaI.evOk(h:CaI NoP s){k:Nat}(hk:2≤k∧k≤5)(hx:x∈zu s.L):Ev.Ok ⟨k,x,s.now⟩:=by
 refine⟨⟨by show 1≤k;omega,by show k≤5;omega⟩,(h.ok x hx).1,h.now64,?_⟩;have hf:=h.fresh hx
 show kE x.dl s.now=(k==1)
 rw[uE.2 (show k≠1 by omega)];unfold kE;rcases hf with hf | hf
 ·simp;omega
 ·simp[hf]
theorem CaI.tell(h:CaI NoP s){v:Ev}(hv:v.Ok)(ht:v.tm=s.now)(hb:v.e.birth≤s.births):CaI NoP {s with evs:=s.evs++[v]}:=by
 refine⟨h.cfg,h.lim,h.mc,h.mb,h.U,h.nd,h.ab,h.due,h.md,h.ok,h.inc,h.keys,fun u hu => ?_,?_,h.now64,h.b64,h.len⟩
 ·rcases yF.1 hu with hu | hu
  ·exact h.evo u hu
  ·rw[xh.1 hu];exact⟨hv,by show v.tm≤s.now;omega,hb⟩
 ·show(s.evs++[v]).Pairwise _
  rw[j5];refine⟨h.evt,by simp,fun u hu q hq => ?_⟩;rw[xh.1 hq,ht];exact(h.evo u hu).2.1
theorem Y8{L:List (Option CE)}{i j:Nat}{z q:CE}(hi:i<L.length):(L.set i (some z))[j]? = some (some q)↔(j≠i∧L[j]? = some (some q))∨(j=i∧q=z):=by
 rw[Xz];by_cases c:i=j
 ·subst c;rw[zk rfl,zk hi];exact⟨fun e => .inr ⟨rfl,by injection e with e;injection e with e;exact e.symm⟩,fun e=>e.elim (fun e=>absurd rfl e.1) (fun e=>by rw[e.2])⟩
 ·rw[zh c];exact⟨fun e => .inl ⟨fun q=>c q.symm,e⟩,fun e=>e.elim (fun e=>e.2) (fun e=>absurd e.1.symm c)⟩
theorem CaI.notBusy(h:CaI NoP s)(hx:s.L[sl]? = some (some x)):j9 s.M sl x.birth=false:=by
 cases hb:j9 s.M sl x.birth with
 | false=>rfl
 | true =>
  obtain⟨y,hy,e⟩:=XG.1 hb;obtain⟨q,h1,h2,h3⟩:=(h.md0 y).1 hy;rcases e with⟨e1,e2⟩ | ⟨e1,e2⟩
  ·rw[e1,hx]at h1;injection h1 with h1;injection h1 with h1
   subst h1;exact absurd h3 e2
  ·exact absurd (h.inc.uniq h1 hx (by rw[← h3,e2])) e1
def kW(s:CaS)(sl:Nat)(z:CE):CaS:=us {s with L:=s.L.set sl (some z),M:=u9 s.now s.M sl z.dl z.birth} ⟨sl,z.cost⟩
def Zg(t:Bst)(z:CE):Bst:=YR {t with E:=t.E.map (fun y=>if y.birth=z.birth then z else y)} z.birth z.cost
theorem CaI.bornIff(h:CaI NoP s)(hx:s.L[sl]? = some (some x)) : ∀ y∈s.A++s.B,yj s.L y.slot=yj s.L sl↔y.slot=sl:=fun y hy=>by
 obtain⟨q,hq,_⟩:=(h.ab y).1 hy;rw[vT hq,vT hx];exact⟨fun e=>h.inc.uniq hq hx e,fun e=>by rw[e,hx]at hq;injection hq with hq;injection hq with hq;rw[hq]⟩
theorem Az6ih {P:Prop}(h:P:=by
 unfold zA;rw[xK,xD];refine⟨h.nd.sublist (List.Sublist.map _ qg),by simp,fun a ha b hb' e => ?_⟩;obtain⟨y,hy,rfl⟩:=zI.1 ha;have hb2:b=sl:=by simpa using hb'
 exact(jG.1 hy).2 (by rw[e,hb2])):P:=h
theorem CaI.hit(h:CaI NoP s)(hx:s.L[sl]? = some (some x))(hb:z.birth=x.birth)(hk:z.key=x.key)(hz:z.Ok)(hd:s.now<z.dl∨z.dl=18446744073709551615) :
  CaI NoP (kW s sl z)∧zD (kW s sl z)=Zg (zD s) z∧kq s.now s.M sl z.dl z.birth=0:=by
 have hsl:=h.sl_lt hx;have hi:=(zF.1 hx).1;have hxm:x∈zu s.L:=xJ.2 ⟨sl,hx⟩;have hlive:=zlz h.inc hx z;obtain⟨hr,hd1,hd2⟩:=zbK (dl:=z.dl) h.due (h.notBusy hx) hsl (by rw[← hb];exact hz.b0) (by rw[← hb];exact hz.b1) hd hz.d1;rw[← hb]at hr hd1 hd2;have hp:=zdB s.lim s.A s.B ⟨sl,z.cost⟩;have hnd:(zA (zw (s.A++s.B) sl++[⟨sl,z.cost⟩])).Nodup:=by
  exact Az6ih
 have hbm : ∀ y∈zu (s.L.set sl (some z)),y=z∨(y∈zu s.L∧y.birth≠x.birth):=fun y hy=>by
  rw[hlive]at hy;obtain⟨q,hq,e⟩:=zI.1 hy;by_cases c:q.birth=x.birth
  ·rw[zk c]at e;exact .inl e.symm
  ·rw[zh c]at e;subst e;exact .inr ⟨hq,c⟩
 have hbirths:(zu (s.L.set sl (some z))).map CE.birth=(zu s.L).map CE.birth:=by
  rw[hlive,jh];refine uc (fun y hy => ?_)
  show CE.birth (if y.birth=x.birth then z else y)=y.birth
  by_cases c:y.birth=x.birth
  ·rw[zk c,hb,c]
  ·rw[zh c]
 have hkeys:(zu (s.L.set sl (some z))).map CE.key=(zu s.L).map CE.key:=by
  rw[hlive,jh];refine uc (fun y hy => ?_)
  show CE.key (if y.birth=x.birth then z else y)=y.key
  by_cases c:y.birth=x.birth
  ·rw[zk c,hk];obtain⟨j,hj⟩:=xJ.1 hy;have:=h.inc.uniq hj hx c;subst this;rw[hx]at hj;injection hj with hj;injection hj with hj
   rw[hj]
  ·rw[zh c]
 have hba : ∀ j,yj (s.L.set sl (some z)) j=yj s.L j:=fun j=>by
  by_cases c:sl=j
  ·subst c;rw[vT hx,vT (x:=z) (by rw[yo hi]),hb]
  ·exact Jt c _
 have hbw:y9 (s.L.set sl (some z))=(fun y=>(⟨yj s.L y.slot,y.cost⟩:Wt)):=by
  funext y
  unfold y9;rw[hba]
 refine⟨⟨h.cfg,h.lim,h.mc,h.mb,rfl,?_,fun y => ?_,hd1,fun t => ?_,fun y hy => ?_,?_,?_,h.evo,h.evt,h.now64,h.b64,?_⟩,?_,hr⟩
 ·show(zA ((xw s.lim s.A s.B ⟨sl,z.cost⟩).1++(xw s.lim s.A s.B ⟨sl,z.cost⟩).2.1)).Nodup
  exact((hp.map Wt.slot).nodup_iff).2 hnd
 ·show y∈(xw s.lim s.A s.B ⟨sl,z.cost⟩).1++(xw s.lim s.A s.B ⟨sl,z.cost⟩).2.1 ↔ ∃ q,(s.L.set sl (some z))[y.slot]? = some (some q)∧y.cost=q.cost
  rw[hp.mem_iff,yF,jG,h.ab,xh];constructor
  ·rintro(⟨⟨q,h1,h2⟩,h3⟩ | rfl)
   ·exact⟨q,(Y8 hi).2 (.inl ⟨h3,h1⟩),h2⟩
   ·exact⟨z,(Y8 hi).2 (.inr ⟨rfl,rfl⟩),rfl⟩
  ·rintro⟨q,h1,h2⟩;rcases(Y8 hi).1 h1 with⟨h3,h4⟩ | ⟨h3,rfl⟩
   ·exact .inl ⟨⟨q,h4,h2⟩,h3⟩
   ·refine .inr ?_
    cases y
    simp at h2 h3;rw[h2,h3]
 ·show t∈u9 s.now s.M sl z.dl z.birth ↔ ∃ q,(s.L.set sl (some z))[t.slot]? = some (some q)∧t.dl=q.dl∧t.birth=q.birth ∧ ¬ False
  rw[hd2,h.md0];constructor
  ·rintro(⟨⟨q,h1,h2,h3⟩,h4⟩ | rfl)
   ·exact⟨q,(Y8 hi).2 (.inl ⟨h4,h1⟩),h2,h3,fun e=>e⟩
   ·exact⟨z,(Y8 hi).2 (.inr ⟨rfl,rfl⟩),rfl,rfl,fun e=>e⟩
  ·rintro⟨q,h1,h2,h3,_⟩;rcases(Y8 hi).1 h1 with⟨h4,h5⟩ | ⟨h4,rfl⟩
   ·exact .inl ⟨⟨q,h5,h2,h3⟩,h4⟩
   ·refine .inr ?_
    cases t
    simp at h2 h3 h4;rw[h2,h3,h4]
 ·rcases hbm y hy with rfl | ⟨k1,_⟩
  ·exact⟨hz,by rw[hb];exact(h.ok x hxm).2⟩
  ·exact h.ok y k1
 ·show(zu (s.L.set sl (some z))).Pairwise _
  have h1:=h.inc;unfold uS at h1;rw[← uO (R:=fun a b:Nat=>a<b) (f:=CE.birth),hbirths,uO];exact h1
 ·show(zu (s.L.set sl (some z))).Pairwise _
  have h1:=h.keys;rw[← uO (R:=fun a b:ByteArray=>a≠b) (f:=CE.key),hkeys,uO];exact h1
 ·show(s.L.set sl (some z)).length≤s.births∧_
  rw[xH];exact h.len
 ·obtain⟨u1,u2⟩:=zbj (lim:=s.lim) (f:=yj s.L) (sl:=sl) (c:=z.cost) (h.bornIff hx);rw[vT hx,← hb]at u1 u2;unfold kW us Zg YR zD;dsimp only;rw[hbw,hlive,← hb,← h.lim];have ea:s.A.map (y9 s.L)=s.A.map (fun y=>(⟨yj s.L y.slot,y.cost⟩:Wt)):=rfl;have eb:s.B.map (y9 s.L)=s.B.map (fun y=>(⟨yj s.L y.slot,y.cost⟩:Wt)):=rfl;rw[ea,eb,u1,u2]
theorem Azvem {P:Prop}(h:P:=by
 have eb:s.B.map (y9 s.L)=s.B.map (fun y=>(⟨yj s.L y.slot,y.cost⟩:Wt)):=rfl;rw[ea,eb,u1,u2]
 rfl):P:=h
theorem CaI.use(h:CaI NoP s)(hx:s.L[sl]? = some (some x)):CaI NoP (us s ⟨sl,x.cost⟩)∧zD (us s ⟨sl,x.cost⟩)=YR (zD s) x.birth x.cost:=by
 have hp:=zdB s.lim s.A s.B ⟨sl,x.cost⟩;have hmem : ∀ y,y∈(xw s.lim s.A s.B ⟨sl,x.cost⟩).1++(xw s.lim s.A s.B ⟨sl,x.cost⟩).2.1↔y∈s.A++s.B:=fun y=>by
  rw[hp.mem_iff,yF,jG,xh];constructor
  ·rintro(⟨h1,_⟩ | rfl)
   ·exact h1
   ·exact(h.ab ⟨sl,x.cost⟩).2 ⟨x,hx,rfl⟩
  ·intro hy;by_cases c:y.slot=sl
   ·refine .inr ?_;obtain⟨q,h1,h2⟩:=(h.ab y).1 hy;rw[c,hx]at h1;injection h1 with h1;injection h1 with h1
    cases y
    simp at c h2;rw[c,h2,h1]
   ·exact .inl ⟨hy,c⟩
 have hnd:(zA (zw (s.A++s.B) sl++[⟨sl,x.cost⟩])).Nodup:=by
  exact Az6ih
 refine⟨⟨h.cfg,h.lim,h.mc,h.mb,rfl,?_,fun y=>(hmem y).trans (h.ab y),h.due,h.md,h.ok,h.inc,h.keys,h.evo,h.evt,h.now64,h.b64,h.len⟩,?_⟩
 ·show(zA ((xw s.lim s.A s.B ⟨sl,x.cost⟩).1++(xw s.lim s.A s.B ⟨sl,x.cost⟩).2.1)).Nodup
  exact((hp.map Wt.slot).nodup_iff).2 hnd
 ·obtain⟨u1,u2⟩:=zbj (lim:=s.lim) (f:=yj s.L) (sl:=sl) (c:=x.cost) (h.bornIff hx);rw[vT hx]at u1 u2;unfold us YR zD;dsimp only;rw[← h.lim];have ea:s.A.map (y9 s.L)=s.A.map (fun y=>(⟨yj s.L y.slot,y.cost⟩:Wt)):=rfl;exact Azvem
def jd(s:CaS)(z:CE):CaS := {s with births:=z.birth,L:=s.L++[some z],M:=u9 s.now s.M s.L.length z.dl z.birth,A:=s.A++[⟨s.L.length,z.cost⟩],U:=Bu.of (s.A++[⟨s.L.length,z.cost⟩]) s.B}
def U7(t:Bst)(z:CE):Bst := {t with births:=z.birth,E:=t.E++[z],A:=t.A++[⟨z.birth,z.cost⟩]}
theorem CaI.new(h:CaI NoP s)(hb:z.birth=s.births+1)(hz:z.Ok)(hk : ∀ x∈zu s.L,x.key≠z.key)(hd:s.now<z.dl∨z.dl=18446744073709551615)(hl:s.births<16) :
  CaI NoP (jd s z)∧zD (jd s z)=U7 (zD s) z∧kq s.now s.M s.L.length z.dl z.birth=0:=by
 have hnb:j9 s.M s.L.length z.birth=false:=by
  cases hb':j9 s.M s.L.length z.birth with
  | false=>rfl
  | true =>
   obtain⟨y,hy,e⟩:=XG.1 hb';obtain⟨q,h1,h2,h3⟩:=(h.md0 y).1 hy;rcases e with⟨e1,e2⟩ | ⟨e1,e2⟩
   ·rw[e1,xN (zG _)]at h1;cases h1
   ·have:=(h.ok q (xJ.2 ⟨_,h1⟩)).2;omega
 obtain⟨hr,hd1,hd2⟩:=zbK (dl:=z.dl) h.due hnb (by have:=h.len;omega) hz.b0 hz.b1 hd hz.d1;have hget : ∀(j:Nat) (q:CE),(s.L++[some z])[j]? = some (some q)↔s.L[j]? = some (some q)∨(j=s.L.length∧q=z):=fun j q=>by
  rcases qU j s.L.length with c | c | c
  ·rw[ur c];exact⟨.inl,fun e=>e.elim (fun e=>e) (fun e=>by omega)⟩
  ·subst c;rw[ji (zG _),ZD,xN (zG _)];simp;exact⟨fun e=>e.symm,fun e=>e.symm⟩
  ·rw[xN (by simp;omega),xN (by omega)];simp;omega
 have hlive:zu (s.L++[some z])=zu s.L++[z]:=XI _ _;have hlt : ∀ y∈s.A++s.B,y.slot<s.L.length:=fun y hy=>by obtain⟨q,h1,_⟩:=(h.ab y).1 hy;exact(zF.1 h1).1
 have hbw : ∀ y∈s.A++s.B,y9 (s.L++[some z]) y=y9 s.L y:=fun y hy=>by
  unfold y9 yj;rw[ur (hlt y hy)]
 refine⟨⟨h.cfg,h.lim,h.mc,h.mb,rfl,?_,fun y => ?_,hd1,fun t => ?_,fun y hy => ?_,?_,?_,fun v hv => ?_,h.evt,h.now64,hz.b1,?_⟩,?_,hr⟩
 ·show(zA ((s.A++[⟨s.L.length,z.cost⟩])++s.B)).Nodup
  have hp:((s.A++[(⟨s.L.length,z.cost⟩:Wt)])++s.B).Perm ((s.A++s.B)++[⟨s.L.length,z.cost⟩]):=by
   rw[vH,vH];exact(List.perm_append_comm).append_left _
  refine((hp.map Wt.slot).nodup_iff).2 ?_;rw[xK,xD];refine⟨h.nd,by simp,fun a ha b hb' e => ?_⟩;obtain⟨y,hy,rfl⟩:=zI.1 ha;have hb2:b=s.L.length:=by simpa using hb'
  have:=hlt y hy;omega
 ·show y∈(s.A++[⟨s.L.length,z.cost⟩])++s.B ↔ ∃ q,(s.L++[some z])[y.slot]? = some (some q)∧y.cost=q.cost
  have e1:y∈(s.A++[(⟨s.L.length,z.cost⟩:Wt)])++s.B↔y∈s.A++s.B∨y=⟨s.L.length,z.cost⟩:=by
   simp only[List.mem_append,List.mem_singleton];constructor
   ·rintro((a | a) | a)
    ·exact .inl (.inl a)
    ·exact .inr a
    ·exact .inl (.inr a)
   ·rintro((a | a) | a)
    ·exact .inl (.inl a)
    ·exact .inr a
    ·exact .inl (.inr a)
  rw[e1,h.ab];constructor
  ·rintro(⟨q,h1,h2⟩ | rfl)
   ·exact⟨q,(hget _ _).2 (.inl h1),h2⟩
   ·exact⟨z,(hget _ _).2 (.inr ⟨rfl,rfl⟩),rfl⟩
  ·rintro⟨q,h1,h2⟩;rcases(hget _ _).1 h1 with h3 | ⟨h3,rfl⟩
   ·exact .inl ⟨q,h3,h2⟩
   ·refine .inr ?_
    cases y
    simp at h2 h3;rw[h2,h3]
 ·show t∈u9 s.now s.M s.L.length z.dl z.birth ↔ ∃ q,(s.L++[some z])[t.slot]? = some (some q)∧t.dl=q.dl∧t.birth=q.birth ∧ ¬ False
  rw[hd2,h.md0];constructor
  ·rintro(⟨⟨q,h1,h2,h3⟩,h4⟩ | rfl)
   ·exact⟨q,(hget _ _).2 (.inl h1),h2,h3,fun e=>e⟩
   ·exact⟨z,(hget _ _).2 (.inr ⟨rfl,rfl⟩),rfl,rfl,fun e=>e⟩
  ·rintro⟨q,h1,h2,h3,_⟩;rcases(hget _ _).1 h1 with h4 | ⟨h4,rfl⟩
   ·exact .inl ⟨⟨q,h4,h2,h3⟩,fun e=>by have:=(zF.1 h4).1;omega⟩
   ·refine .inr ?_
    cases t
    simp at h2 h3 h4;rw[h2,h3,h4]
 ·have hy':y∈zu (s.L++[some z]):=hy;rw[hlive]at hy';rcases yF.1 hy' with k1 | k1
  ·obtain⟨k2,k3⟩:=h.ok y k1;exact⟨k2,by show y.birth≤z.birth;omega⟩
  ·rw[xh.1 k1];exact⟨hz,zG _⟩
 ·show(zu (s.L++[some z])).Pairwise _
  rw[hlive,j5];refine⟨h.inc,by simp,fun a ha b hb' => ?_⟩;rw[xh.1 hb'];have:=(h.ok a ha).2;omega
 ·show(zu (s.L++[some z])).Pairwise _
  rw[hlive,j5];refine⟨h.keys,by simp,fun a ha b hb' => ?_⟩;rw[xh.1 hb'];exact hk a ha
 ·obtain⟨a,b,c⟩:=h.evo v hv;exact⟨a,b,by show v.e.birth≤z.birth;omega⟩
 ·show(s.L++[some z]).length≤z.birth∧z.birth≤16
  have:=h.len;rw[zR]
  show _+1≤_∧_
  omega
 ·unfold jd U7 zD;dsimp only;rw[hlive,xK];have e1:s.A.map (y9 (s.L++[some z]))=s.A.map (y9 s.L):=uc (fun y hy=>hbw y (xQ _ hy));have e2:s.B.map (y9 (s.L++[some z]))=s.B.map (y9 s.L):=uc (fun y hy=>hbw y (xC _ hy));have e3:[(⟨s.L.length,z.cost⟩:Wt)].map (y9 (s.L++[some z]))=[⟨z.birth,z.cost⟩]:=by
   show[y9 (s.L++[some z]) ⟨s.L.length,z.cost⟩]=_
   unfold y9;rw[vT (x:=z) (by simp)]
  rw[e1,e2,e3]
def JJ(s:CaS)(c:Cfg)(mc mb:Nat):CaS := {s with cfg:=c,lim:=c.part,mc:=mc,mb:=mb,A:=(dem c.part s.A s.B).1,B:=(dem c.part s.A s.B).2.1,U:=Bu.of (dem c.part s.A s.B).1 (dem c.part s.A s.B).2.1}
def zaM(t:Bst)(c:Cfg):Bst := {t with cfg:=c,A:=(dem c.part t.A t.B).1,B:=(dem c.part t.A t.B).2.1}
theorem CaI.res(h:CaI NoP s){c:Cfg}{mc mb:Nat}(hc:c.ok)(h1:c.count=mc)(h2:c.bytes=mb):CaI NoP (JJ s c mc mb)∧zD (JJ s c mc mb)=zaM (zD s) c:=by
 have e:=J7 c.part s.A s.B;refine⟨⟨hc,rfl,h1,h2,rfl,?_,fun y => ?_,h.due,h.md,h.ok,h.inc,h.keys,h.evo,h.evt,h.now64,h.b64,h.len⟩,?_⟩
 ·show(zA ((dem c.part s.A s.B).1++(dem c.part s.A s.B).2.1)).Nodup
  rw[e];exact h.nd
 ·show y∈(dem c.part s.A s.B).1++(dem c.part s.A s.B).2.1↔_
  rw[e];exact h.ab y
 ·obtain⟨u1,u2⟩:=V1 (lim:=c.part) (f:=yj s.L) (A:=s.A) (B:=s.B);unfold JJ zaM zD;dsimp only;have ea:s.A.map (y9 s.L)=s.A.map (fun y=>(⟨yj s.L y.slot,y.cost⟩:Wt)):=rfl;exact Azvem
end
def zO(Fo:Nat→Prop)(w:World)(D:Nat→Prop)(p:Nat)(t:Bst):Prop :=
 ∃ b s,zo Fo w b s∧CaI NoP s∧b.p=p∧b.D=D∧zD s=t∧s.L.length≤2*(zu s.L).length+16∧s.evs.length≤1048576∧s.evs.length+(zu s.L).length≤1048577
def uq(Fo:Nat→Prop)(w:World)(D:Nat→Prop)(p:Nat)(t:Bst)(w':World):Prop := ∃ D',zO Fo w' D' p t∧Mod D w w'∧yi D D' w
def xf(t:Bst):Int:=if 1048576<t.evs.length+t.E.length then 7 else 0
def uG(t:Bst)(key:ByteArray):Option CE:=t.E.find? (fun x=>decide (x.key=key))
def uj(t:Bst)(tt:Nat):Bst:=vP (yX t tt) 0
section
variable{Fo:Nat→Prop}{w w':World}{b:CaB}{s:CaS}{D:Nat→Prop}{p:Nat}{t:Bst}
theorem zO.pure(h:zO Fo w D p t)(hp:zb w w'):zO Fo w' D p t:=by
 obtain⟨b,s,h1,h2⟩:=h;exact⟨b,s,h1.pure hp,h2⟩
theorem zO.lt(h:zO Fo w D p t){k:Nat}(hk:D k):k<w.heap.size:=by
 obtain⟨b,s,h1,h2,_,e,_⟩:=h;subst e;exact h1.lt hk
theorem zO.beside{S:Nat→Prop}(h:zO Fo w D p t)(hm:Mod S w w')(hd : ∀ k,D k → ¬ S k)(hS : ∀ k,k<w.heap.size→S k→Fo k ∨ ∀ cs fz,w.heap[k]? ≠ some (.cells cs 5 fz))(h0 : ¬ S 0):zO Fo w' D p t:=by
 obtain⟨b,s,h1,h2,h3,e,h4⟩:=h;subst e;exact⟨b,s,h1.beside hm hd hS h0,h2,h3,rfl,h4⟩
theorem uq.trans{w1 w2:World}{D1:Nat→Prop}{t2:Bst}(hm:Mod D w w1)(hg:yi D D1 w)(h:uq Fo w1 D1 p t2 w2):uq Fo w D p t2 w2:=by
 obtain⟨D2,h1,h2,h3⟩:=h;refine⟨D2,h1,Mod.trans' hm h2 (fun _ _ e=>e) (fun i hi e=>(hg i e).elim (fun e=>e) (fun e=>by omega)),fun k hk => ?_⟩;rcases h3 k hk with e | e
 ·exact hg k e
 ·exact .inr (zH hm.size e)
theorem CaI.noKey(h:CaI NoP s)(c:Nat)(hc:4194304≤c) : ∀ y∈s.A++s.B,yj s.L y.slot=0↔y.slot=c:=fun y hy=>by
 obtain⟨x,hx,_⟩:=(h.ab y).1 hy;rw[vT hx];have h1:=(h.ok x (xJ.2 ⟨_,hx⟩)).1.b0;have h2:=h.sl_lt hx;exact⟨fun e=>by omega,fun e=>by omega⟩
theorem CaI.find_some(h:CaI NoP s){key:ByteArray}{x:CE}(hf:uG (zD s) key=some x) : ∃ sl,yH (zB s.L) key=some sl∧s.L[sl]? = some (some x)∧x.key=key:=by
 unfold uG at hf;have hx:x∈zu s.L:=Zo hf;have hk:x.key=key:=by simpa using Xe hf
 obtain⟨i,hi⟩:=xJ.1 hx
 cases hfk:yH (zB s.L) key with
 | none =>
  unfold yH at hfk;have h1:=Vm.1 hfk (some x.ent) (yd (qH hi));rw[UR.2 ⟨x.ent,rfl,hk⟩]at h1
  cases h1
 | some sl =>
  obtain⟨e,he,hke⟩:=UA hfk;unfold zB at he;rw[yw]at he
  cases ho:s.L[sl]? with
  | none=>rw[ho]at he;cases he
  | some o =>
   rw[ho]at he
   cases o with
   | none=>simp at he
   | some z =>
    have hz:z.ent=e:=by simpa using he
    have hzk:z.key=key:=by rw[← hke,← hz]
    have hzm:z∈zu s.L:=xJ.2 ⟨sl,ho⟩;have hxz:z=x:=by
     have hkeys:=h.keys;rcases List.getElem_of_mem hzm with⟨i1,l1,e1⟩
     rcases List.getElem_of_mem hx with⟨i2,l2,e2⟩
     have hp:=V8.1 hkeys;rcases qU i1 i2 with c | c | c
     ·exact absurd (by rw[e1,e2,hzk,hk]) (hp i1 i2 l1 l2 c)
     ·subst c;rw[← e1,e2]
     ·exact absurd (by rw[e1,e2,hzk,hk]) (hp i2 i1 l2 l1 c)
    exact⟨sl,rfl,by rw[← hxz];exact ho,hk⟩
theorem CaI.find_none(_:CaI NoP s){key:ByteArray}(hf:uG (zD s) key=none):yH (zB s.L) key=none ∧ ∀ x∈zu s.L,x.key≠key:=by
 unfold uG at hf;have hn : ∀ x∈zu s.L,x.key≠key:=fun x hx e=>by
  have:=jb.1 hf x hx;simp[e]at this
 refine⟨?_,hn⟩
 cases hfk:yH (zB s.L) key with
 | none=>rfl
 | some sl =>
  obtain⟨e,he,hke⟩:=UA hfk;unfold zB at he;rw[yw]at he
  cases ho:s.L[sl]? with
  | none=>rw[ho]at he;cases he
  | some o =>
   rw[ho]at he
   cases o with
   | none=>simp at he
   | some z =>
    have hz:z.ent=e:=by simpa using he
    exact absurd (by rw[← hke,← hz]) (hn z (xJ.2 ⟨sl,ho⟩))
theorem kV(s:CaS):yU s=xf (zD s):=by
 unfold yU xf zD;dsimp only;rw[← zc3]
theorem kF(h:xf (zD s)=0):s.evs.length+(zu s.L).length≤1048576:=by
 unfold xf at h;split at h
 ·cases h
 ·rename_i c;show(zD s).evs.length+(zD s).E.length≤_;omega
theorem XN(hi:qm t.E)(tt:Nat):(yX t tt).sum=t.sum∧qm (yX t tt).E∧(yX t tt).E.length≤t.E.length∧(yX t tt).now=max t.now tt∧(yX t tt).cfg=t.cfg∧(yX t tt).births=t.births :=
 Ug (t := {t with now:=max t.now tt}) hi
theorem zay(hi:qm t.E)(k:Nat):(vP t k).sum=t.sum∧qm (vP t k).E∧(vP t k).E.length≤t.E.length∧(vP t k).now=t.now∧(vP t k).cfg=t.cfg∧(vP t k).births=t.births:=Ug hi
theorem CaI.exp_sum(h:CaI NoP s){tt:Nat}(ht:tt≤18446744073709551615)(hr:xf (zD s)=0):(zj s tt).evs.length+(zu (zj s tt).L).length≤1048576∧(zu (zj s tt).L).length≤(zu s.L).length:=by
 have h1:=kF hr;obtain⟨_,_,h2⟩:=h.exp ht h1;obtain⟨h3,_,h4,_⟩:=XN (t:=zD s) h.inc tt;rw[← h2]at h3 h4;exact⟨by show(zD (zj s tt)).sum≤_;rw[h3];exact h1,h4⟩
theorem CaI.fin(h:CaI NoP s)(hn:s.evs.length+(zu s.L).length≤1048576){t2:Bst}(ht:zD s=t2) :
  xX s zX∧CaI NoP (pkS (evS s zX))∧zD (pkS (evS s zX))=vP t2 0∧(pkS (evS s zX)).L.length≤2*(zu (pkS (evS s zX)).L).length+16∧(pkS (evS s zX)).evs.length≤1048576∧(pkS (evS s zX)).evs.length+(zu (pkS (evS s zX)).L).length≤1048577:=by
 subst ht;obtain⟨h1,h2,h3,h4,_⟩:=h.run (keep:=zX) (keepN:=0) (h.noKey zX (by decide)) (.inl hn);obtain⟨k1,_,_⟩:=zay (t:=zD s) h.inc 0;rw[← h3]at k1;have k2:(pkS (evS s zX)).evs.length+(zu (pkS (evS s zX)).L).length=s.evs.length+(zu s.L).length:=k1;exact⟨h1,h2,h3,h4,by omega,by omega⟩
theorem zO.of{b':CaB}{s':CaS}{t':Bst}(hC:zo Fo w' b' s')(hT:zr w w' b b')(hi:CaI NoP s'∧zD s'=t'∧s'.L.length≤2*(zu s'.L).length+16∧s'.evs.length≤1048576∧s'.evs.length+(zu s'.L).length≤1048577):uq Fo w b.D b.p t' w' :=
 ⟨b'.D,⟨b',s',hC,hi.1,hT.p,rfl,hi.2⟩,hT.mod,hT.grew⟩
theorem zO.adv(h:zO Fo w D p t){tt:Nat}(ht:tt≤18446744073709551615)(hr:xf t=0):Calls prog 23 #[lkP p,.int .u64 tt] w fun e w'=>e=.returned (.int .i64 0)∧uq Fo w D p (uj t tt) w':=by
 obtain⟨b,s,h1,h2,rfl,rfl,rfl,h3,h4,h5⟩:=h;obtain⟨k1,k2,k3⟩:=h2.exp ht (kF hr);obtain⟨q1,q2⟩:=k2.fin (h2.exp_sum ht hr).1 k3;refine(zik h1 ht h4 ((kV s).trans hr) k1 q1).mono ?_;rintro e w' ⟨rfl,b',hC,hT⟩;exact⟨rfl,zO.of hC hT q2⟩
def qM(key:ByteArray)(t:Bst):Int:=yW [vq key,xf t]
theorem Ke{key:ByteArray}(h:qM key t=0):vq key=0∧xf t=0:=by
 unfold qM at h;have e:yW [vq key,xf t]=if vq key=0 then(if xf t=0 then 0 else xf t)else vq key:=rfl
 rw[e]at h;by_cases c:vq key=0
 ·rw[zk c]at h;by_cases c2:xf t=0
  ·exact⟨c,c2⟩
  ·rw[zh c2]at h;exact absurd h c2
 ·rw[zh c]at h;exact absurd h c
def YN(t:Bst)(tt:Nat)(key:ByteArray):Bool × Bst:=match uG (yX t tt) key with
 | some x=>(true,vP (vg 4 (yX t tt) x.birth) 0)
 | none=>(false,uj t tt)
theorem zO.del(h:zO Fo w D p t){tt:Nat}(ht:tt≤18446744073709551615){key:ByteArray}(hk:key.size≤140737488355328)(hr:qM key t=0) :
  Calls prog 20 #[lkP p,.int .u64 tt,.string key] w fun e w'=>e=.returned (.tuple #[.bool (YN t tt key).1,.int .i64 0])∧uq Fo w D p (YN t tt key).2 w':=by
 obtain⟨hkE,hr⟩:=Ke hr;obtain⟨b,s,h1,h2,rfl,rfl,rfl,h3,h4,h5⟩:=h;obtain⟨k1,k2,k3⟩:=h2.exp ht (kF hr);have hn:=(h2.exp_sum ht hr).1;unfold YN;rw[← k3]
 cases hl:uG (zD (zj s tt)) key with
 | none =>
  obtain⟨q1,q2⟩:=k2.fin hn k3;refine(zmr h1 ht h4 ((kV s).trans hr) k1 hk hkE (k2.find_none hl).1 q1).mono ?_;rintro e w' ⟨rfl,b',hC,hT⟩;exact⟨rfl,zO.of hC hT q2⟩
 | some x =>
  obtain⟨sl,f1,f2,f3⟩:=k2.find_some hl;have hev:=k2.evOk (k:=4) (by decide) (xJ.2 ⟨_,f2⟩);obtain⟨l1,l2⟩:=k2.lv f2 hev;have l3:(xk 4 (zj s tt) sl).evs.length+(zu (xk 4 (zj s tt) sl).L).length≤1048576:=by
   have e:=(QP (k:=4) (t:=zD (zj s tt)) (n:=x.birth) k2.inc).1;rw[← l2]at e
   show(zD (xk 4 (zj s tt) sl)).sum≤_
   rw[e];exact hn
  obtain⟨q1,q2⟩:=l1.fin l3 l2;have hlive:0<(zu (zj s tt).L).length:=Uw (xJ.2 ⟨_,f2⟩);refine(zeL h1 ht h4 ((kV s).trans hr) k1 hk hkE f1 ⟨x,f2,(k2.ab ⟨sl,x.cost⟩).2 ⟨x,f2,rfl⟩,hev,by omega,k2.U⟩ q1).mono ?_;rintro e w' ⟨rfl,b',hC,hT⟩;exact⟨rfl,zO.of hC hT q2⟩
def Yu(t:Bst):Bst := {t with evs:=[]}
theorem zO.drain(h:zO Fo w D p t):Calls prog 24 #[lkP p] w fun e w' => ∃ a c es,e=.returned (.slice a t.evs.length c)∧es.map Prod.fst=t.evs∧Vo w' a c es∧xi w (.slice a t.evs.length c)∧uq Fo w D p (Yu t) w':=by
 obtain⟨b,s,h1,h2,rfl,rfl,rfl,h3,h4,h5⟩:=h;refine(zhR h1 h4).mono ?_;rintro e w' ⟨a,c,es,rfl,k1,k2,k3,b',hC,hT⟩;refine⟨a,c,es,rfl,k1,k2,k3,zO.of hC hT ⟨⟨h2.cfg,h2.lim,h2.mc,h2.mb,h2.U,h2.nd,h2.ab,h2.due,h2.md,h2.ok,h2.inc,h2.keys,fun v hv=>(by cases hv),List.Pairwise.nil,h2.now64,h2.b64,h2.len⟩,rfl,h3,yh _,?_⟩⟩
 show 0+(zu s.L).length≤_
 omega
theorem zO.len(h:zO Fo w D p t):Calls prog 33 #[lkP p] w fun e w'=>e=.returned (.int .i64 t.E.length)∧w=w':=by
 obtain⟨b,s,h1,h2,rfl,rfl,rfl,_⟩:=h
 show Calls prog 33 #[lkP b.p] w fun e w'=>e=.returned (.int .i64 (zu s.L).length)∧w=w'
 rw[zc3];exact zeI h1
theorem zO.cost(h:zO Fo w D p t):Calls prog 45 #[lkP p] w fun e w'=>e=.returned (.int .i64 ((zv (t.A++t.B):Nat):Int))∧zb w w':=by
 obtain⟨b,s,h1,h2,rfl,rfl,rfl,_⟩:=h;have e:((zv ((zD s).A++(zD s).B):Nat):Int)=(s.U.s0:Int)+(s.U.s1:Int):=by
  rw[h2.U,vF];have e1:zv (zD s).A=zv s.A:=by unfold zD zv y9;simp[Function.comp_def]
  have e2:zv (zD s).B=zv s.B:=by unfold zD zv y9;simp[Function.comp_def]
  rw[e1,e2]
  rfl
 rw[e];exact zlZ h1
theorem zO.now_(h:zO Fo w D p t):Calls prog 29 #[lkP p] w fun e w'=>e=.returned (.int .u64 t.now)∧w=w':=by
 obtain⟨b,s,h1,h2,rfl,rfl,rfl,_⟩:=h;exact zfM h1
def Jj(t:Bst):Nat:=qv (Z0 t.E)
theorem zO.next(h:zO Fo w D p t):Calls prog 46 #[lkP p] w fun e w'=>e=.returned (.int .u64 (Jj t))∧zb w w':=by
 obtain⟨b,s,h1,h2,rfl,rfl,rfl,_⟩:=h;have e:Jj (zD s)=qv (yl s.M):=by
  rw[ze2 h2.due];unfold Jj;rw[show Z0 (zD s).E=s.M.map Yh from h2.sortM.symm]
  cases s.M<;>rfl
 rw[e];exact zg9 h1
theorem zO.births(h:zO Fo w D p t):Calls prog 15 #[lkP p] w fun e w'=>e=.returned (.int .u64 t.births)∧w=w':=by
 obtain⟨b,s,h1,h2,rfl,rfl,rfl,_⟩:=h;exact zfL h1
end
end
end Go.Proofs.YtpplkcnknabofaaGreatDoor
