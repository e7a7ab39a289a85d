/- Lemmas and contracts of functions. No condition. -/
import Derived.Test.YtpplkcnknabofaaGreatDoorJPfCacheNone44
namespace Go.Proofs.YtpplkcnknabofaaGreatDoor
open _root_.Go.Proofs.Tryz
set_option maxRecDepth 100000
set_option maxHeartbeats 20000000
set_option linter.all false
section
open Go.RowKit Go.Shelf
section
variable{Fo:Nat→Prop}{w w':World}
def Xa(cfg:Cfg)(mc mb births now:Nat):CaS:=⟨cfg,[],births,cfg.part,[],[],mc,mb,⟨0,0,0,0⟩,now,[],[]⟩
def ziv(Fo:Nat→Prop)(w:World)(s:CaS)(e:Ending)(w':World):Prop := ∃ b,e=.returned (lkP b.p)∧zo Fo w' b s∧zb w w' ∧ ∀ k,b.D k→w.heap.size≤k
def KR(p d c o u t v:Nat)(Dd Do Dt:Nat→Prop)(n2 n3 n4 n5 n6 n7 n8:Nat):CaB :=
 ⟨p,d,c,o,u,t,v,Dd,Do,Dt,[],xu 1,fun k=>if k<n2 then 0 else if k<n3 then 4 else if k<n4 then 5 else if k<n5 then 2 else if k<n6 then 3 else if k<n7 then 6 else if k<n8 then 7 else 1⟩
theorem zfX{cfg:Cfg}{mc mb births now:Nat}{p d c o u t v:Nat}{Dd Do Dt:Nat→Prop}{W2 W3 W4 W5 W6 W7 W8 W9:World}
  (h0:0<W2.heap.size) (hS:xl W3 Do o cfg.part [] []) (pS:zb W2 W3) (gS : ∀ k,Do k→W2.heap.size≤k)
  (hB:yQ W4 u mc mb ⟨0,0,0,0⟩) (pB:zb W3 W4) (gB:W3.heap.size≤u)
  (hD:zW (fun k=>Fo k∨k<W4.heap.size) W5 Dd d cfg.seed cfg.same [] (xu 1)) (pD:zb W4 W5) (gD : ∀ k,Dd k→W4.heap.size≤k)
  (hC:Ctr W6 c births) (pC:zb W5 W6) (gC:W5.heap.size≤c)
  (hT:yb W7 Dt t now []) (pT:zb W6 W7) (gT : ∀ k,Dt k→W6.heap.size≤k)
  (hE:xM (fun k=>Fo k∨k<W7.heap.size) W8 v []) (pE:zb W7 W8) (gE:W7.heap.size≤v)
  (hp:W9.heap[p]? = some (.cells #[yY d,jw c,lkP o,buP u,lkP t,lkP v,.int .i64 cfg.count,.int .i64 cfg.bytes,.int .i64 cfg.prot,.int .u64 cfg.seed,.bool cfg.same] 85 (0,0))) (pP:zb W8 W9) (gP:W8.heap.size≤p) (hTab:xy W2) (hFo : ∀ k,Fo k→k<W2.heap.size) :
  zo Fo W9 (KR p d c o u t v Dd Do Dt W2.heap.size W3.heap.size W4.heap.size W5.heap.size W6.heap.size W7.heap.size W8.heap.size) (Xa cfg mc mb births now):=by
 have s3:=pS.size;have s4:=pB.size;have s5:=pD.size;have s6:=pC.size;have s7:=pT.size;have s8:=pE.size;have s9:=pP.size;have lS : ∀ k,Do k→k<W3.heap.size:=fun k hk=>hS.lt hk
 have lB:u<W4.heap.size:=zl hB.box;have lD : ∀ k,Dd k→k<W5.heap.size:=fun k hk=>hD.lt hk
 have lC:c<W6.heap.size:=zl hC;have lT : ∀ k,Dt k→k<W7.heap.size:=fun k hk=>hT.lt hk
 have lE:v<W8.heap.size:=hE.lt (.inl rfl);have lP:p<W9.heap.size:=zl hp;have p89:=pP;have p79:=pE.trans p89;have p69:=pT.trans p79;have p59:=pC.trans p69;have p49:=pD.trans p59;have p39:=pB.trans p49;obtain⟨b,hb⟩:=zc (KR p d c o u t v Dd Do Dt W2.heap.size W3.heap.size W4.heap.size W5.heap.size W6.heap.size W7.heap.size W8.heap.size);have hDD : ∀ k,b.D k→k=p∨Dd k∨k=c∨Do k∨k=u∨Dt k∨k=v:=fun k hk=>by
  subst hb;rcases hk with e | e | e | e | e | e | e
  ·exact .inl e
  ·exact .inr (.inl e)
  ·exact .inr (.inr (.inl e))
  ·exact .inr (.inr (.inr (.inl e)))
  ·exact .inr (.inr (.inr (.inr (.inl e))))
  ·exact .inr (.inr (.inr (.inr (.inr (.inl e)))))
  ·rcases e with e | ⟨n,hn,_⟩
   ·exact .inr (.inr (.inr (.inr (.inr (.inr e)))))
   ·cases hn
 have hlt : ∀ k,Fo k∨b.D k→k<W9.heap.size:=fun k hk=>by
  rcases hk with e | e
  ·have:=hFo k e;omega
  ·rcases hDD k e with rfl | e | rfl | e | rfl | e | rfl
   ·exact lP
   ·have:=lD k e;omega
   ·omega
   ·have:=lS k e;omega
   ·omega
   ·have:=lT k e;omega
   ·omega
 have hd9:zW (fun k=>Fo k∨b.D k) W9 Dd d cfg.seed cfg.same [] (xu 1):=(hD.add (T:=Dd) (fun k hk=>hD.holds hk)).refo p59 (fun k hk=>by
  rcases hk with e | e
  ·exact .inl (.inl (.inl e))
  ·rcases hDD k e with rfl | e | rfl | e | rfl | e | rfl
   ·exact .inr (by omega)
   ·exact .inl (.inr e)
   ·exact .inr gC
   ·exact .inl (.inl (.inr (by have:=lS k e;omega)))
   ·exact .inl (.inl (.inr (by omega)))
   ·exact .inr (by have:=gT k e;omega)
   ·exact .inr (by omega)) hlt
 have he9:xM (fun k=>Fo k∨b.D k) W9 v []:=by
  obtain⟨k0,k1,k2,k3,k4,k5,h1⟩:=hE.add (T:=fun k=>k=v) (fun k hk=>by subst hk;exact hE.holds (.inl rfl));refine⟨k0,k1,k2,k3,k4,k5,h1.refo p89 (fun k hk => ?_) hlt⟩;rcases hk with e | e
  ·exact .inl (.inl (.inl e))
  ·rcases hDD k e with rfl | e | rfl | e | rfl | e | rfl
   ·exact .inr gP
   ·exact .inl (.inl (.inr (by have:=lD k e;omega)))
   ·exact .inl (.inl (.inr (by omega)))
   ·exact .inl (.inl (.inr (by have:=lS k e;omega)))
   ·exact .inl (.inl (.inr (by omega)))
   ·exact .inl (.inl (.inr (by have:=lT k e;omega)))
   ·exact .inl (.inr rfl)
 rw[hb];have e1:b.p=p∧b.d=d∧b.c=c∧b.o=o∧b.u=u∧b.t=t∧b.v=v∧b.Dd=Dd∧b.Do=Do∧b.Dt=Dt∧b.ns=[]∧b.Gs=xu 1:=by subst hb;exact⟨rfl,rfl,rfl,rfl,rfl,rfl,rfl,rfl,rfl,rfl,rfl,rfl⟩
 obtain⟨q1,q2,q3,q4,q5,q6,q7,q8,q9,q10,q11,q12⟩:=e1;refine⟨?_,?_,?_,?_,?_,?_,?_,?_,?_,hTab.pure (pS.trans p39)⟩
 ·rw[q1,q2,q3,q4,q5,q6,q7];exact hp
 ·rw[q8,q2,q12];exact hd9
 ·rw[q3];exact hC.pure p69
 ·rw[q9,q4];exact hS.pure p39
 ·rw[q5];exact hB.pure p49
 ·rw[q10,q6];exact hT.pure p79
 ·rw[q7,q11];exact he9
 ·rw[q11];rfl
 ·subst hb;refine⟨?_,fun k hk => ?_,?_,fun k hk => ?_,?_,fun k hk => ?_,fun k hk => ?_,?_⟩
  ·show(if p<_ then(0:Nat)else _)=1
   rw[zh (by omega),zh (by omega),zh (by omega),zh (by omega),zh (by omega),zh (by omega),zh (by omega)]
  ·have:=gD k hk;have:=lD k hk
   show(if k<_ then(0:Nat)else _)=2
   rw[zh (by omega),zh (by omega),zh (by omega),zk (by omega)]
  ·show(if c<_ then(0:Nat)else _)=3
   rw[zh (by omega),zh (by omega),zh (by omega),zh (by omega),zk (by omega)]
  ·have:=gS k hk;have:=lS k hk
   show(if k<_ then(0:Nat)else _)=4
   rw[zh (by omega),zk (by omega)]
  ·show(if u<_ then(0:Nat)else _)=5
   rw[zh (by omega),zh (by omega),zk (by omega)]
  ·have:=gT k hk;have:=lT k hk
   show(if k<_ then(0:Nat)else _)=6
   rw[zh (by omega),zh (by omega),zh (by omega),zh (by omega),zh (by omega),zk (by omega)]
  ·rcases hk with e | ⟨n,hn,_⟩
   ·have e':k=v:=e;subst e'
    show(if k<_ then(0:Nat)else _)=7
    rw[zh (by omega),zh (by omega),zh (by omega),zh (by omega),zh (by omega),zh (by omega),zk (by omega)]
   ·cases hn
  ·show(if 0<_ then(0:Nat)else _)=0
   rw[zk h0]
def MdS(c1:Nat)(mc mb pr sd:Int)(sm:Bool)(Y:World):Prop:=Y.cell? ⟨c1,0,none⟩=some (.int .i64 mc)∧Y.cell? ⟨c1,1,none⟩=some (.int .i64 mb)∧Y.cell? ⟨c1,2,none⟩=some (.int .i64 pr)∧Y.cell? ⟨c1,3,none⟩=some (.int .u64 sd)∧Y.cell? ⟨c1,4,none⟩=some (.bool sm)
theorem ze4{mc mb:Nat}{pr:Int}{sd:Nat}{sm:Bool}(hc:Cfg.ok ⟨mc,mb,pr,sd,sm⟩)(hsd:sd<18446744073709551616){now births:Nat}(hn:now<18446744073709551616)(w:World)(hT:xy w)(hFo : ∀ k,Fo k→k<w.heap.size) :
  Calls prog 60 #[.agg #[.int .i64 mc,.int .i64 mb,.int .i64 pr,.int .u64 sd,.bool sm],.int .u64 now,.int .u64 births] w (ziv Fo w (Xa ⟨mc,mb,pr,sd,sm⟩ mc mb births now)):=by
 have hpr:=Cfg.part_rng hc;have hPa:=fun W=>zbP hc W
 dsimp only[Cfg.v]at hPa;obtain⟨pt,hpt⟩:=zc (Cfg.part ⟨mc,mb,pr,sd,sm⟩);rw[hpt]at hpr hPa;have HPa:=za hPa;have HSn:=za (fun W=>zf3 hpr.1 hpr.2.1 W);have hc1:1≤mc∧mc≤1048576:=by have h1:=hc.1;have h2:=hc.2.1;dsimp only at h1 h2;omega
 have hc2:1≤mb∧mb≤1099511627776:=by have h1:=hc.2.2.1;have h2:=hc.2.2.2.1;dsimp only at h1 h2;omega
 have HBn:=za (fun W=>zh9 hc1 hc2 W);have HHn:=za (fun W=>zki (sd:Int) sm W);have HDn:=za (fun W (hW : ∀ k,Fo k→k<W.heap.size)=>zmm (Fo:=fun k=>Fo k∨k<W.heap.size) sd sm hsd W (fun k hk=>hk.elim (hW k) (fun e=>e)));have HCn:=za (fun W=>zjs births W);have HTn:=za (fun W=>zfJ W hn);have HEn:=za (fun W (hW : ∀ k,Fo k→k<W.heap.size)=>zfU (Fo:=fun k=>Fo k∨k<W.heap.size) W (fun k hk=>hk.elim (hW k) (fun e=>e)));have hal:zb w (w.alloc (.cells #[.int .i64 mc,.int .i64 mb,.int .i64 pr,.int .u64 sd,.bool sm] 24)):=(Mod.refl _ w).alloc _;have z:=zi (w:=w) (o := .cells #[.int .i64 mc,.int .i64 mb,.int .i64 pr,.int .u64 sd,.bool sm] 24 (0,0)) rfl;have HP1:=za hal;have HTB:=za hT;have HFO:=za hFo;have HPT:=za hpt;clear hc hpr hPa hc1 hc2 hal hT hFo hpt hn hsd;go_enter func60,ntmps60;go_upto_region 1 with fail
 generalize w.alloc (.cells #[.int .i64 mc,.int .i64 mb,.int .i64 pr,.int .u64 sd,.bool sm] 24)=W1 at *;obtain⟨c1,hc1⟩:=zc w.heap.size;have HC1:=za hc1;rw[hc1]at z ⊢;have Z:=za z;clear hc1;obtain⟨z_0,z_1,z_2,z_3,z_4,z_f,z_l,H_z⟩:=cr5 z;clear z;go_upto_region 2 with(go_at_call 87;refine(HPa.out _).mono ?_;rintro e W2 ⟨rfl,hp2⟩)
 clear z_0 z_1 z_2 z_3 z_4 z_f z_l;clear H_z;have HP2:=za (HP1.out.trans hp2);have z2:=hp2.heap (fun h=>h) Z.out;have Z2:=za z2;clear hp2;go_upto_region 3 with(go_at_call 135;refine(HSn.out _).mono ?_;rintro e W3 ⟨o,l0,l1,bm,Do,D0,D1,Dm,rfl,hS,pS,gS⟩)
 have HS3:=za (⟨l0,l1,bm,D0,D1,Dm,hS⟩:xl W3 Do o pt [] []);have PS:=za pS;have GS:=za gS;have z3:=pS.heap (fun h=>h) Z2.out;have Z3:=za z3;clear hS pS gS z2;obtain⟨z3_0,z3_1,z3_2,z3_3,z3_4,z3_f,z3_l,H_z3⟩:=cr5 z3;clear z3;go_upto_region 4 with(go_at_call 136;refine(HBn.out _).mono ?_;rintro e W4 ⟨rfl,hB,pB⟩)
 clear z3_0 z3_1 z3_2 z3_3 z3_4 z3_f z3_l;clear H_z3;have HB4:=za hB;have PB:=za pB;have z4:=pB.heap (fun h=>h) Z3.out;have HP4:=za ((HP2.out.trans PS.out).trans pB);have hst:=HP4.out.size;have HFO4:=za (fun k (hk:Fo k)=>x9 (HFO.out k hk) hst);clear hst;obtain⟨u,hu⟩:=zc W3.heap.size;rw[hu]at HB4 ⊢;have HU:=za hu;have HS:=za (fun(Y:World) (hY:zb W4 Y)=>(⟨zf Y c1 0 _ _ (0,0) (hY.heap (fun h=>h) z4),zf Y c1 1 _ _ (0,0) (hY.heap (fun h=>h) z4),zf Y c1 2 _ _ (0,0) (hY.heap (fun h=>h) z4),zf Y c1 3 _ _ (0,0) (hY.heap (fun h=>h) z4),zf Y c1 4 _ _ (0,0) (hY.heap (fun h=>h) z4)⟩:MdS c1 mc mb pr sd sm Y));have hd4:zb W4 W4.drew:=(Mod.refl (fun _=>False) W4).drew;have HD4:=za hd4;clear hB pB hu z4 hd4;refine rHd (S:=MdS c1 mc mb pr sd sm) (HS.out _ HD4.out) (fun h_ => ?_);refine hTk 0 ?_;refine hLd 1 ?_;refine hTk 2 ?_;refine hLd 3 ?_;refine hTk 6 ?_;refine hTk 8 ?_;refine hTk 9 ?_;refine hTk 10 ?_;refine hLd 14 ?_
 (refine hSt 4 (fun K hK => ?_);go_simp;refine(HHn.out _).mono ?_;rintro e w5 ⟨rfl,hp5⟩;refine hK.out _ _ ?_ (fun h_ => ?_);(· exact HS.out _ (HD4.out.trans hp5));clear hK K;refine clA ?_)
 (refine hSt 5 (fun K hK => ?_);go_simp;refine zm (HDn.out _ (fun k hk=>x9 (HFO4.out k hk) (HD4.out.trans hp5).size)) ?_;rintro e w6 ⟨d,Dd,rfl,hDd,hp6,gD⟩;refine hK.out _ _ ?_ (fun h_ => ?_);(· exact HS.out _ ((HD4.out.trans hp5).trans hp6));clear hK K;refine clA ?_)
 (refine hSt 7 (fun K hK => ?_);go_simp;refine(HCn.out _).mono ?_;rintro e w7 ⟨rfl,hCt,hp7,gC⟩;refine hK.out _ _ ?_ (fun h_ => ?_);(· exact HS.out _ (((HD4.out.trans hp5).trans hp6).trans hp7));clear hK K;refine clA ?_)
 (refine hSt 11 (fun K hK => ?_);go_simp;refine(HTn.out _).mono ?_;rintro e w8 ⟨tt,Dt,rfl,hDu,hp8,gT⟩;refine hK.out _ _ ?_ (fun h_ => ?_);(· exact HS.out _ ((((HD4.out.trans hp5).trans hp6).trans hp7).trans hp8));clear hK K;refine clA ?_)
 (refine hSt 12 (fun K hK => ?_);go_simp;refine zm (HEn.out _ (fun k hk=>x9 (HFO4.out k hk) ((((HD4.out.trans hp5).trans hp6).trans hp7).trans hp8).size)) ?_;rintro e w9 ⟨rfl,hEv,hp9⟩;refine hK.out _ _ ?_ (fun h_ => ?_);(· exact HS.out _ (((((HD4.out.trans hp5).trans hp6).trans hp7).trans hp8).trans hp9));clear hK K;refine clA ?_)
 refine hTk 13 ?_;refine hTk 15 ?_
 (refine hSt 16 (fun K hK => ?_);go_simp;refine hK.out _ _ ?_ (fun h_ => ?_);(· exact HS.out _ ((((((HD4.out.trans hp5).trans hp6).trans hp7).trans hp8).trans hp9).trans ((Mod.refl _ _).alloc _)));clear hK K;refine clA ?_)
 refine hTk 17 ?_;refine hDn ?_;clear h_;have hal:zb w9 (w9.alloc (.cells #[yY d,jw w6.heap.size,lkP o,buP u,lkP tt,lkP w8.heap.size,.int .i64 mc,.int .i64 mb,.int .i64 pr,.int .u64 sd,.bool sm] 85)):=(Mod.refl _ w9).alloc _;have hbx:=zi (w:=w9) (o := .cells #[yY d,jw w6.heap.size,lkP o,buP u,lkP tt,lkP w8.heap.size,.int .i64 mc,.int .i64 mb,.int .i64 pr,.int .u64 sd,.bool sm] 85 (0,0)) rfl;have p45:=HD4.out.trans hp5;have hm:=zfX (Fo:=Fo) (cfg:=⟨mc,mb,pr,sd,sm⟩) (births:=births) (now:=now) (W2:=W2) (by have:=HTB.out.lt;have:=HP2.out.size;omega) (by rw[HPT.out];exact HS3.out) PS.out GS.out HB4.out PB.out (Nat.le_of_eq HU.out) (hDd.refo (Mod.refl _ _) (fun k hk => .inl (hk.imp (fun e=>e) (fun e=>x9 e p45.size))) (fun k hk=>x9 (hk.elim (HFO4.out k) (fun e=>e)) (p45.trans hp6).size)) (p45.trans hp6) (fun k hk=>zH p45.size (gD k hk)) hCt hp7 (zG _) hDu hp8 gT (show xM (fun k=>Fo k∨k<w8.heap.size) w9 w8.heap.size []from⟨_,_,_,_,_,_,hEv⟩) hp9 (zG _) hbx hal (zG _) (HTB.out.pure HP2.out) (fun k hk=>x9 (HFO.out k hk) HP2.out.size);have hpp:=(((((HP4.out.trans p45).trans hp6).trans hp7).trans hp8).trans hp9).trans hal;have HM:=za hm;have HPP:=za hpp;have hge : ∀ k,(KR w9.heap.size d w6.heap.size o u tt w8.heap.size Dd Do Dt W2.heap.size W3.heap.size W4.heap.size w6.heap.size w7.heap.size w8.heap.size w9.heap.size).D k→w.heap.size≤k:=fun k hk=>by
  have z1:=HP2.out.size;have z2:=PS.out.size;have z3:=PB.out.size;have z4:=p45.size;have z5:=hp6.size;have z6:=hp7.size;have z7:=hp8.size;have z8:=hp9.size;have z9:=HU.out;rcases hk with e | e | e | e | e | e | e
  ·have e':k=w9.heap.size:=e;omega
  ·have:=gD k e;omega
  ·have e':k=w6.heap.size:=e;omega
  ·have:=GS.out k e;omega
  ·have e':k=u:=e;omega
  ·have:=gT k e;omega
  ·rcases e with e | ⟨n,hn,_⟩
   ·have e':k=w8.heap.size:=e;omega
   ·cases hn
 have HGE:=za hge;clear hp5 hDd hp6 gD hCt hp7 gC hDu hp8 gT hEv hp9 hal hbx p45 hm hpp hge;go_wp2;go_ret;exact⟨_,rfl,HM.out,HPP.out,HGE.out⟩
end
def zc4(cfg:Cfg):Bst:=⟨cfg,0,0,[],[],[],[]⟩
section
variable{Fo:Nat→Prop}{w w':World}{b:CaB}{s:CaS}{D:Nat→Prop}{p:Nat}{t:Bst}
theorem zfj{cfg:Cfg}(hc:cfg.ok){mc mb births now:Nat}(h1:cfg.count=mc)(h2:cfg.bytes=mb)(hn:now≤18446744073709551615)(hb:births≤16):CaI NoP (Xa cfg mc mb births now) :=
 ⟨hc,rfl,h1,h2,rfl,jv,fun y=>⟨fun e=>(by cases e),fun⟨x,hx,_⟩=>(by simp[Xa]at hx)⟩,yN.nil _,fun t=>⟨fun e=>(by cases e),fun⟨x,hx,_⟩=>(by simp[Xa]at hx)⟩,fun x hx=>(by cases hx),List.Pairwise.nil,List.Pairwise.nil,fun v hv=>(by cases hv),List.Pairwise.nil,hn,zH hb (by decide),yh _,hb⟩
def zjf(Fo:Nat→Prop)(w:World)(cfg:Cfg)(e:Ending)(w':World):Prop := ∃ p D,e=.returned (.tuple #[lkP p,.int .i64 0])∧zO Fo w' D p (zc4 cfg)∧zb w w' ∧ ∀ k,D k→w.heap.size≤k
theorem ziI{cfg:Cfg}(hc:cfg.ok)(hsd:cfg.seed<18446744073709551616)(w:World)(hT:xy w)(hFo : ∀ k,Fo k→k<w.heap.size):Calls prog 13 #[cfg.v] w (zjf Fo w cfg):=by
 have hck:=fun W=>X9 cfg W
 rw[Cfg.err_ok.2 hc]at hck;obtain⟨c0,b0,pr,sd,sm⟩:=cfg;obtain⟨mc,rfl⟩ : ∃ m:Nat,c0=m:=⟨c0.toNat,by have:=hc.1;dsimp only at this;omega⟩;obtain⟨mb,rfl⟩ : ∃ m:Nat,b0=m:=⟨b0.toNat,by have:=hc.2.2.1;dsimp only at this;omega⟩;dsimp only[Cfg.v]at hck ⊢;have HCK:=za hck;have HMd:=za (fun Y (hY:zb w Y)=>ze4 (Fo:=Fo) hc hsd (now:=0) (births:=0) (by omega) Y (hT.pure hY) (fun k hk=>x9 (hFo k hk) hY.size));have HI:=za (zfj (births:=0) (now:=0) hc rfl rfl (by omega) (by omega));have hal:zb w (w.alloc (.cells #[.int .i64 mc,.int .i64 mb,.int .i64 pr,.int .u64 sd,.bool sm] 24)):=(Mod.refl _ w).alloc _;have z:=zi (w:=w) (o := .cells #[.int .i64 mc,.int .i64 mb,.int .i64 pr,.int .u64 sd,.bool sm] 24 (0,0)) rfl;have HP1:=za hal;clear hc hsd hT hFo hck hal;go_enter func13,ntmps13;go_upto_region 1 with fail
 generalize w.alloc (.cells #[.int .i64 mc,.int .i64 mb,.int .i64 pr,.int .u64 sd,.bool sm] 24)=W1 at *;generalize w.heap.size=c1 at z ⊢;have Z:=za z;obtain⟨z_0,z_1,z_2,z_3,z_4,z_f,z_l,H_z⟩:=cr5 z;clear z;go_upto_region 2 with(go_at_call 59;refine(HCK.out _).mono ?_;rintro e W2 ⟨rfl,hp2⟩)
 clear z_0 z_1 z_2 z_3 z_4 z_f z_l;clear H_z;have HP2:=za (HP1.out.trans hp2);have z2:=hp2.heap (fun h=>h) Z.out;have HMd2:=za (HMd.out W2 HP2.out);clear hp2;obtain⟨z2_0,z2_1,z2_2,z2_3,z2_4,z2_f,z2_l,H_z2⟩:=cr5 z2;clear z2
 go_wp2_with (go_at_call 60;refine HMd2.out.mono ?_;rintro e W3 ⟨b,rfl,hC,hp3,hge⟩)
 go_ret2;exact⟨b.p,b.D,rfl,⟨b,_,hC,HI.out,rfl,rfl,rfl,yh _,yh _,yh _⟩,HP2.out.trans hp3,fun k hk=>zH HP2.out.size (hge k hk)⟩
theorem ziE:(prog.info? 22).map (fun i=>(i.zero,i.size,i.bytes))=some (some (.int .u64 0),1,8):=by kernel_rfl
def uM(xs:List Nat):List Value:=xs.map (fun x:Nat=>(.int .u64 x:Value))
theorem zhT(xs:List Nat) : ∀ u∈uM xs,u.oneCell'=true:=fun u hu=>by obtain⟨q,_,rfl⟩:=zI.1 hu;rfl
def QD(w:World)(bl:List Nat)(e:Ending)(w':World):Prop := ∃ a c,e=.returned (.slice a bl.length c)∧w'.ownsRow 0 22 1 (.slice a bl.length c) bl.length (uM bl)∧xi w (.slice a bl.length c)∧zb w w'
theorem CaI.getTd(h:CaI NoP s){sl:Nat}{x:CE}(hx:s.L[sl]? = some (some x)):getTd s.M sl=(⟨sl,x.dl,x.birth⟩,0):=by
 have hm:(⟨sl,x.dl,x.birth⟩:Td)∈s.M:=(h.md0 _).2 ⟨x,hx,rfl,rfl⟩;rcases VF s.M sl with⟨_,hh,y,e1,e2,_,e3,e4⟩ | ⟨hno,er,e1,e2⟩
 ·have hy:y∈s.M:=e4.mem_iff.2 ym;rw[e1,h.due.slots y hy _ hm e2]
 ·exfalso;rcases hno with c | c
  ·exact c (h.sl_lt hx)
  ·rw[uH.2 ⟨_,hm,rfl⟩]at c;cases c
theorem yb.getT{Dt:Nat→Prop}{q now:Nat}{M:List Td}(h:yb w Dt q now M){s:Nat}(h32:s≤4294967295):Calls prog 101 #[lkP q,.int .u32 s] w fun e w'=>e=.returned (.tuple #[.int .u64 (getTd M s).1.dl,.int .u64 (getTd M s).1.birth,.int .i64 (getTd M s).2])∧zb w w':=by
 obtain⟨q0,bb,bs,Dc,Db,Ds,h1,_⟩:=h;exact zlm h1 h32
def OrS(p bx:Nat)(tv v:Value)(Y:World):Prop:=Y.cell? ⟨p,4,none⟩=some tv∧Y.cell? ⟨bx,0,none⟩=some v
theorem zds(h:zo Fo w b s)(hi:CaI NoP s){g:Nat}{L:List Wt}(hL : ∀ y∈L,∃ x,s.L[y.slot]? = some (some x))(hl:L.length≤4194304)(hList:Calls prog 100 #[lkP b.o,.int .i64 g] w (qG w L)) :
    Calls prog 35 #[lkP b.p,.int .i64 g] w (QD w (L.map (fun y=>yj s.L y.slot))):=by
  have HN:=za (kG h);have HLi:=za hList;have HGt:=za (fun(Y:World) (hY:zb w Y) (y:Wt) (hy:y∈L)=>show Calls prog 101 #[lkP b.t,.int .u32 y.slot] Y fun e w' => ∃ d,e=.returned (.tuple #[.int .u64 (d:Nat),.int .u64 (yj s.L y.slot),.int .i64 0])∧zb Y w' by
    obtain⟨x,hx⟩:=hL y hy;have h9:=(h.due.pure hY).getT (s:=y.slot) (by have:=hi.sl_lt hx;omega);rw[hi.getTd hx]at h9;refine h9.mono ?_;rintro e w' ⟨rfl,hp⟩;exact⟨x.dl,by rw[vT hx],hp⟩)
  have hb:=h.box;have HB:=za h.box;obtain⟨bl,hbl⟩:=zc (L.map (fun y=>yj s.L y.slot));have HBL:=za hbl;rw[hbl];have hbn:bl.length=L.length:=by rw[← hbl,yt]
  have HBN:=za hbn;have HLL:=za hl;obtain⟨i0,hi0,iz0,iz1,iz2⟩:=xn ziE;clear h hi hL hl hList hbl hbn;obtain⟨hb_0,hb_1,hb_2,hb_3,hb_4,hb_5,hb_6,hb_7,hb_8,hb_9,hb_10,hb_f,hb_l,H_hb⟩:=yE hb;clear hb;go_enter func35,ntmps35;go_upto_region 5 with(first
    | (go_at_call 61;refine HN.out.mono ?_;rintro e w' ⟨rfl,rfl⟩)
    | (go_at_call 100;refine HLi.out.mono ?_;rintro e w2 ⟨a,c,rfl,hrow,hfr,hp2⟩))
  clear hb_0 hb_1 hb_2 hb_3 hb_4 hb_5 hb_6 hb_7 hb_8 hb_9 hb_10 hb_f hb_l;clear H_hb hfr;have HROW:=za (zn.of_owns hrow (qF L));have HP2:=za hp2;clear hrow hp2;obtain⟨n,hn⟩:=zc L.length;rw[hn]at HROW ⊢;have HNL:=za hn;have hn4:n≤4194304:=by rw[← hn];exact HLL.out
  have HN4:=za hn4;clear hn hn4;go_loopw [5,21] (fun v5 v21 wr => ∃(k:Nat) (a':Option Addr) (c':Nat),v5=.slice a' k c'∧v21=.int .i64 (k:Nat)∧k≤n∧wr.ownsRow 0 22 1 (.slice a' k c') k (uM (bl.take k))∧xi w2 (.slice a' k c')∧zb w wr∧zb w2 wr) (fun _ v21 _=>n-(intOf v21).toNat)
  case atStart=>exact⟨0,none,0,rfl,rfl,yh _,vj _ _ _ _,fun g hg=>(by cases hg),HP2.out,Mod.refl _ _⟩
  case round =>
    obtain⟨k,a',c',rfl,rfl,hk,hrw,hfr,hpw,hp2w⟩:=hrel;have HRW:=za hrw;have HFR:=za hfr;have HPW:=za hpw;have HP2W:=za hp2w;clear hrw hfr hpw hp2w;by_cases hlt:k<n
    · have hlt':(k:Int)<(n:Int):=by omega
      have k0:(0:Int)≤(k:Int):=by omega
      have wk:IntKind.i64.wrap ((k:Int)+1)=(k:Int)+1:=zt _ (by have:=HN4.out;omega);obtain⟨y,hy⟩ : ∃ y,L[k]? = some y:=⟨_,zN (by rw[HNL.out];exact hlt)⟩;obtain⟨ad,had,z0,z1⟩:=Uh (HROW.out.frame HP2W.out (fun _ _ h=>h)) hy;subst had;have hbk:bl[k]? = some (yj s.L y.slot):=by rw[← HBL.out,yw,hy];rfl
      obtain⟨sl,hsl⟩:=zc y.slot;obtain⟨co,hco⟩:=zc y.cost;have HG:=za (fun(Y:World) (hY:zb w Y)=>HGt.out Y hY y (yd hy));rw[hsl]at z0 HG hbk;rw[hco]at z1;have HBK:=za hbk;obtain⟨bi,hbi⟩:=zc (yj s.L sl);rw[hbi]at HG HBK;clear hy hsl hco hbk hbi;go_upto_region 7 with fail
      have hal:zb wr (wr.alloc (.cells #[.int .u32 sl,.int .i64 co] 155)):=(Mod.refl _ wr).alloc _;have hbx:=zi (w:=wr) (o := .cells #[.int .u32 sl,.int .i64 co] 155 (0,0)) rfl;have HAL:=za hal;generalize wr.alloc (.cells #[.int .u32 sl,.int .i64 co] 155)=W4 at *;obtain⟨bx,hbe⟩:=zc wr.heap.size;rw[hbe]at hbx ⊢;clear hbe hal z0 z1;have hpd:zb W4 W4.drew:=(Mod.refl (fun _=>False) W4).drew;have HPD:=za hpd;have hS0:OrS b.p bx (lkP b.t) (.int .u32 sl) W4.drew:=⟨zf W4.drew b.p 4 _ _ (0,0) ((HPW.out.trans (HAL.out.trans hpd)).heap (fun h=>h) HB.out),zf W4.drew bx 0 _ _ (0,0) hbx⟩;have HS:=za (fun(Y:World) (hY:zb W4 Y)=>(⟨zf Y b.p 4 _ _ (0,0) ((HPW.out.trans (HAL.out.trans hY)).heap (fun h=>h) HB.out),zf Y bx 0 _ _ (0,0) (hY.heap (fun h=>h) hbx)⟩:OrS b.p bx (lkP b.t) (.int .u32 sl) Y));clear hbx hpd;refine rHd (S:=OrS b.p bx (lkP b.t) (.int .u32 sl)) hS0 (fun h_ => ?_);refine hTk 0 ?_;refine hTk 1 ?_;refine hTk 2 ?_;refine hTk 3 ?_;refine hLd 4 ?_;refine hTk 5 ?_;refine hLd 6 ?_
      (refine hSt 7 (fun K hK => ?_);go_simp;refine zm (HG.out _ (HPW.out.trans (HAL.out.trans HPD.out))) ?_;rintro e w5 ⟨dd,rfl,hp5⟩;refine hK.out _ _ ?_ (fun h_ => ?_);(· exact HS.out _ (HPD.out.trans hp5));clear hK K;refine clA ?_)
      refine hTk 8 ?_;refine hTk 9 ?_;refine hTk 10 ?_;refine hTk 11 ?_;refine hTk 12 ?_;refine hTk 13 ?_;refine hTk 14 ?_;refine hDn ?_;clear h_;have HP5:=za (HAL.out.trans (HPD.out.trans hp5));clear hp5 hS0;have hk4:k≤4194304:=by have:=HN4.out;omega
      go_wp2_with (at_builtin;refine ul _ rfl _ _ 61 rfl 22 i0 _ 1 8 underlying61 hi0 iz0 iz1 iz2 rfl (by decide) (.slice a' k c') k _ rfl (zy (zy HRW.out HP5.out (fun _ _ h=>h)) ((Mod.refl (fun _=>False) w5).alloc _) (fun _ _ h=>h)) _ [.int .u64 bi] 1 rfl (zn.of_block 1 1 1 (zi rfl) (by rfl) (by simp[Value.oneCell'])) rfl (by unfold maxLen;omega) (by omega) ?_;intro a8 c8 w6 hr8 hg8 hb8)
      have hm6:Mod (fun i=>(Value.slice a' k c').ownBlock=some i) wr w6:=((Mod.of_pure HP5.out).alloc _).then (Mod.of_grown (S:=fun k'=>(Value.slice a' k c').ownBlock=some k') hg8 (fun k e _=>e)) (fun _ _ h=>h);have hrow8:w6.ownsRow 0 22 1 (.slice a8 (k+1) c8) (k+1) (uM (bl.take (k+1))):=by
        have e:uM (bl.take (k+1))=uM (bl.take k)++[.int .u64 bi]:=by
          unfold uM;rw[ua,HBK.out,xK]
          rfl
        rw[e];exact hr8
      have hfr8:xi w2 (.slice a8 (k+1) c8):=fun g hg=>by
        rcases hb8 with e | e
        · exact HFR.out g (e ▸ hg)
        · rw[e]at hg
          cases hg
          have h1:=HP2W.out.size;have h2:=HP5.out.size;simp;omega
      have hpw6:zb w w6:=HPW.out.then hm6 (fun i hi e=>by have:=HFR.out i e;have:=HP2.out.size;omega);have hp26:zb w2 w6:=HP2W.out.then hm6 (fun i hi e=>by have:=HFR.out i e;omega);go_roundw
      case rel=>exact⟨k+1,a8,c8,by first | rfl | simp,by first | rfl | simp,hlt,hrow8,hfr8,hpw6,hp26⟩
      case measure=>simp[intOf];omega
    · have hlt' : ¬ (k:Int)<(n:Int):=by omega
      obtain rfl:k=n:=by omega
      go_wp2;go_ret;have hrw:=HRW.out;rw[kM (by rw[HBN.out,HNL.out];exact zG _)]at hrw;have hbn:bl.length=k:=by rw[HBN.out,HNL.out]
      refine⟨a',c',by rw[hbn];rfl,by rw[hbn];exact hrw,fun g hg => ?_,HPW.out⟩;rw[hbn]at hg;exact zH HP2.out.size (HFR.out g hg)
end
theorem za4{fr up:Int} : ∀ {G:List (Nat × Ent)},(∀ a∈G,a.2.birth<fr) → ∀ o,G.foldl (uz fr up) o=o
 | [],_,_=>rfl
 | g::G,h,o=>by
  have e:uz fr up o g=o:=by unfold uz;rw[zh (by have:=h g ym;omega)]
  rw[List.foldl_cons,e];exact za4 (fun a ha=>h a (yB _ ha)) o
theorem zi4{L:List (Option CE)} : ∀ {k:Nat} {a:Nat × Ent},a∈xR k (zB L) → ∃ x∈zu L,a.2=x.ent:=by
 induction L with
 | nil=>intro k a h;cases h
 | cons o L ih =>
  intro k a h
  cases o with
  | none =>
   obtain⟨x,hx,e⟩:=ih (k:=k+1) h;exact⟨x,hx,e⟩
  | some z =>
   rcases yu.1 h with rfl | h
   ·exact⟨z,ym,rfl⟩
   ·obtain⟨x,hx,e⟩:=ih (k:=k+1) h;exact⟨x,yB _ hx,e⟩
theorem zh4{L:List (Option CE)}{above:Nat}(h : ∀ x∈zu L,x.birth≤above):Zb (zB L) above=(0,14):=by
 unfold Zb;split
 ·have e:uQ ((above:Int)+1) 18446744073709551615 (live (zB L))=none:=za4 (fun a ha=>by
   obtain⟨x,hx,e⟩:=zi4 (k:=0) ha;have:=h x hx;rw[e]
   show(x.birth:Int)<_
   omega) none
  rw[e]
 ·rfl
def Uo(t:Bst)(above:Nat):Option CE:=t.E.find? (fun x=>decide (above<x.birth))
theorem zfF{s:CaS}{above:Nat}(h:Uo (zD s) above=none):Zb (zB s.L) above=(0,14):=zh4 (fun x hx=>by
 have:=jb.1 h x hx;simp at this;omega)
abbrev jE:Value := .agg #[.string ⟨#[]⟩,.slice none 0 0,.int .u64 0,.int .u64 0]
section
variable{Fo:Nat→Prop}{w w':World}{b:CaB}{s:CaS}{D:Nat→Prop}{p:Nat}{t:Bst}
theorem zaz(h:zo Fo w b s)(hev:s.evs.length≤1048576)(Y:World)(hY:zb w Y):Calls prog 70 #[lkP b.p,.slice none 0 0] Y fun e w'=>e=.returned (.int .i64 (yU s))∧zb Y w':=by
 refine(YX (h.pure hY) (a:=none) (n:=0) (c:=0) (l:=[]) (vj _ _ _ _) rfl (by omega) hev).mono ?_;rintro e w' ⟨rfl,hm⟩;refine⟨?_,hm.mono (fun k _ e=>by cases e)⟩;have e:yW ([]++[yU s])=yU s:=by
  show(if yU s=0 then 0 else yU s)=yU s
  split
  ·rename_i c;exact c.symm
  ·rfl
 rw[e]
def zb2(Fo:Nat→Prop)(w:World)(b:CaB)(o:Option CE)(s':CaS)(e:Ending)(w':World):Prop:=match o with
 | none=>e=.returned (.tuple #[jE,.bool false,.int .i64 0]) ∧ ∃ b',zo Fo w' b' s'∧zr w w' b b'
 | some x=>zcm Fo w b x s' e w'
theorem zgd(h:zo Fo w b s){t:Nat}(ht:t≤18446744073709551615)(hev:s.evs.length≤1048576)(hr:yU s=0)(hlv:xz 1 (tmS s t) (yD s t))(hR:xX (zj s t) zX){above:Nat}(ha:above≤18446744073709551615)(hf:Zb (zB (pkS (evS (zj s t) zX)).L) above=(0,14)) :
    Calls prog 106 #[lkP b.p,.int .u64 t,.int .u64 above] w (zb2 Fo w b none (pkS (evS (zj s t) zX))):=by
  have hc:=zaz h hev;rw[hr]at hc;have HC:=za hc;have HRn:=za (fun(Y:World) (hY:zb w Y)=>QY (h.pure hY) ht hlv hR);have HAf:=za (fun(Y:World) (b3:CaB) (hY:zo Fo Y b3 (pkS (evS (zj s t) zX)))=>zjD (zd3 hY.dict) (zgU hY.dict) above (by omega));rw[hf]at HAf;have hal:zb w (w.alloc (.cells #[.string ⟨#[]⟩,.slice none 0 0,.int .u64 0,.int .u64 0] 57)):=(Mod.refl _ w).alloc _;have z:=zi (w:=w) (o := .cells #[.string ⟨#[]⟩,.slice none 0 0,.int .u64 0,.int .u64 0] 57 (0,0)) rfl;have HND:=za (fun k (e:b.D k)=>h.lt e);have HPS:=za h.pos;have HP:=za hal;have Z:=za z;generalize pkS (evS (zj s t) zX)=s9 at *;clear h hev hr hc hlv hR hf hal z ha;unfold zb2;dsimp only;go_enter func106,ntmps106;go_upto_region 1 with fail
  generalize w.alloc (.cells #[.string ⟨#[]⟩,.slice none 0 0,.int .u64 0,.int .u64 0] 57)=W1 at *;obtain⟨q,hq⟩:=zc w.heap.size;rw[hq]at Z ⊢;have HQ:=za hq;clear hq;go_upto_region 5 with(first
    | (go_at_call 70;refine(HC.out _ HP.out).mono ?_;rintro e w2 ⟨rfl,hp2⟩;have HRn2:=za (HRn.out _ (HP.out.trans hp2)))
    | (go_at_call 82;refine HRn2.out.mono ?_;rintro e w3 ⟨rfl,b3,C3,T3⟩))
  have HAf3:=za (HAf.out _ _ C3);have hb3:=C3.box;rw[T3.p]at hb3;have hq3:=T3.mod.heap (fun e=>by have:=HND.out _ e;have:=HQ.out;omega) (hp2.heap (fun h=>h) Z.out);have HC3:=za C3;have HT3:=za ((zr.pure (HP.out.trans hp2)).trans T3);have hn3 : ¬ b3.D q:=(T3.nd (fun e=>by have:=HND.out _ e;have:=HQ.out;omega) (zl (hp2.heap (fun h=>h) Z.out)));have HN3:=za hn3;have HT3':=za T3;have HP2:=za hp2;clear C3 T3 hp2 HAf HC HRn hn3;obtain⟨hb3_0,hb3_1,hb3_2,hb3_3,hb3_4,hb3_5,hb3_6,hb3_7,hb3_8,hb3_9,hb3_10,hb3_f,hb3_l,H_hb3⟩:=yE hb3;clear hb3;go_upto_region 6 with(go_at_call 192;refine HAf3.out.mono ?_;rintro e w4 ⟨rfl,hp4⟩)
  clear hb3_0 hb3_1 hb3_2 hb3_3 hb3_4 hb3_5 hb3_6 hb3_7 hb3_8 hb3_9 hb3_10 hb3_f hb3_l;clear H_hb3;have hq4:=hp4.heap (fun h=>h) hq3;have HQ4:=za hq4;have HP4:=za hp4;clear hp4 hq3;obtain⟨hq4_0,hq4_1,hq4_2,hq4_3,hq4_f,hq4_l,H_hq4⟩:=cr4 hq4;clear hq4;go_wp2;obtain⟨Y,hY⟩:=zc ((((w4.setCell ⟨q,0,none⟩ (.string ⟨#[]⟩)).setCell ⟨q,1,none⟩ (.slice none 0 0)).setCell ⟨q,2,none⟩ (.int .u64 0)).setCell ⟨q,3,none⟩ (.int .u64 0));obtain⟨g1,g2⟩:=qy HQ4.out hY;rw[hY];have hc9:=(HC3.out.pure HP4.out).beside g1 (fun k hk e=>by subst e;exact HN3.out hk) (fun k _ e => .inr (fun cs fz hb=>by subst e;rw[HQ4.out]at hb;injection hb with hb;injection hb with _ hb;exact absurd hb (by decide))) (by have:=HQ.out;have:=HPS.out;omega);obtain⟨g2_0,g2_1,g2_2,g2_3,g2_f,g2_l,H_g2⟩:=cr4 g2;clear g2;refine zK (v := .tuple #[jE,.bool false,.int .i64 0]) (by simp[results,results106,go_sem,g2_0,g2_1,g2_2,g2_3]) rfl ⟨rfl,b3,hc9,⟨HT3.out.p,?_,HT3.out.grew⟩⟩;exact Mod.trans' (HT3.out.mod.trans (Mod.of_pure HP4.out)) g1 (fun _ _ e=>e) (fun i hi e=>by have:=HQ.out;omega)
theorem zO.afterNo(h:zO Fo w D p t){tt:Nat}(ht:tt≤18446744073709551615)(hr:xf t=0){above:Nat}(ha:above≤18446744073709551615)(hf:Uo (uj t tt) above=none) :
  Calls prog 106 #[lkP p,.int .u64 tt,.int .u64 above] w fun e w'=>e=.returned (.tuple #[jE,.bool false,.int .i64 0])∧uq Fo w D p (uj t tt) w':=by
 obtain⟨b,s,h1,h2,rfl,rfl,rfl,h3,h4,h5⟩:=h;obtain⟨k1,k2,k3⟩:=h2.exp ht (kF hr);obtain⟨q1,q2⟩:=k2.fin (h2.exp_sum ht hr).1 k3;have e9:zD (pkS (evS (zj s tt) zX))=uj (zD s) tt:=q2.2.1;refine(zgd h1 ht h4 ((kV s).trans hr) k1 q1 ha (zfF (by rw[e9];exact hf))).mono ?_;rintro e w' ⟨rfl,b',hC,hT⟩;exact⟨rfl,zO.of hC hT q2⟩
end
section
variable{Fo:Nat→Prop}{w w':World}{b:CaB}{s:CaS}
structure ClI(w3:World)(c2:Nat)(pre:List Nat)(W:World):Prop where
 md:Mod (fun k=>k=c2) w3 W
 row : ∃ a c,W.heap[c2]? = some (.cells #[.slice a pre.length c] 132 (0,0))∧W.ownsRow 0 114 1 (.slice a pre.length c) pre.length (zU pre) ∧ ∀ g,(Value.slice a pre.length c).ownBlock=some g→w3.heap.size≤g
theorem ClI.quiet{w3 A B:World}{c2 N:Nat}{pre:List Nat}(h:ClI w3 c2 pre A)(hN:w3.heap.size≤N)(hq:zx N A B):ClI w3 c2 pre B:=by
 obtain⟨a,c,h1,h2,h3⟩:=h.row;exact⟨hq.mod h.md hN,a,c,hq.cells h1,hq.owns h2,h3⟩
def zgN(Fo:Nat→Prop)(w:World)(b:CaB)(c2 n:Nat)(s':CaS)(e:Ending)(w':World):Prop:=e=.returned (.int .u32 (4294967295:Nat)) ∧ ∃ b',zo Fo w' b' s'∧vy (fun k=>k=c2) w w' b b' ∧ ∃ a c,w'.heap[c2]? = some (.cells #[.slice a n c] 132 (0,0))
attribute [local go_sem] Oper.semAt_some
theorem zfI(h:zo Fo w b s){c1 c2:Nat}(h1:w.heap[c1]? = some (.cells #[lkP b.p] 30 (0,0)))(h2:w.heap[c2]? = some (.cells #[.slice none 0 0] 132 (0,0)))(n1 : ¬ b.D c1)(n2 : ¬ b.D c2)(hne:c1≠c2)(h0:c2≠0)(hlv:xz 5 s (vo (zB s.L))) :
  Calls prog 83 #[.pointer (some ⟨c1,0,none⟩),.pointer (some ⟨c2,0,none⟩)] w (zgN Fo w b c2 (vo (zB s.L)).length (yJ 5 s (vo (zB s.L)))):=by
 have HAl:=za (QO h.dict);have hb:=h.box;have hlen:(zB s.L).length≤4194304:=h.dict.ok.len;have HLEN:=za hlen;have HH:=za h;have H1:=za h1;have H2:=za h2;have N1:=za n1;have N2:=za n2;have HNE:=za hne;have H0:=za h0;have HLV:=za hlv;have HLV5:=za (fun Y=>XJ b.p 5 Y);obtain⟨i0,hi,iz0,iz1,iz2⟩:=xn jC;clear h h2 n1 n2 hne h0 hlv hlen;obtain⟨hb_0,hb_1,hb_2,hb_3,hb_4,hb_5,hb_6,hb_7,hb_8,hb_9,hb_10,hb_f,hb_l,H_hb⟩:=yE hb;clear hb;obtain⟨h1_0,h1_f,h1_l,H_h1⟩:=cr1 h1;clear h1
 (refine(yy (n:=0)).1 (callsIn_of_wp_marks func83 rfl trivial (vQ.2 ?_) rfl);simp only[ntmps83,List.size_toArray,List.length_cons,List.length_nil,Nat.reduceAdd,Nat.reduceSub,Array.replicate_succ,Array.replicate_zero,List.push_toArray,List.append_toArray,List.nil_append,List.cons_append])
 go_wp2_with (go_at_call 62;refine HAl.out.mono ?_;rintro e w3 ⟨M,B,a,c,hM,rfl,hit,hp3,hB,hfr⟩)
 clear hb_0 hb_1 hb_2 hb_3 hb_4 hb_5 hb_6 hb_7 hb_8 hb_9 hb_10 hb_f hb_l;clear h1_0 h1_f h1_l;clear H_hb H_h1;have hItlt : ∀ k,qL B (.slice a M.length c) M k→k<w3.heap.size:=by
  rintro k (rfl | h2 | ⟨e,v,hv,h2⟩)
  ·exact zl hit.box
  ·exact vh hit.row h2
  ·exact vh (hit.vals e v hv) h2
 have HIT:=za hit;have HP3:=za hp3;have HC2:=za (hp3.heap (fun h=>h) H2.out);have HNI:Hid (¬ qL B (.slice a M.length c) M c2):=za (fun e=>by
  rcases e with e | e | ⟨x,v,hv,e⟩
  ·have:=zl H2.out;omega
  ·have:=hfr _ e;have:=zl H2.out;omega
  ·have h5:=HIT.out.vals x v hv;obtain⟨cur,e5⟩:=yg h5 e;rw[hp3.heap (fun h=>h) H2.out]at e5
   cases e5)
 clear hit hp3 hB hfr;generalize hItd:qL B (.slice a M.length c) M=It at *;have HIL:=za hItlt;refine vQ.1 (Z5 (gf:=228) (lb:=#[.pointer (some ⟨B,0,none⟩)]) rfl (enters_of func228 (by kernel_rfl) rfl) (It:=It) (hItd ▸ zbW HIT.out w3.heap.size (zG _)) hItlt (fun _=>rfl)
  (fun pre W=>ClI w3 c2 (pre.map (fun g=>g.1)) W∧w3.heap.size≤W.heap.size) (fun _ _ _=>False) ?hI ?hIx ⟨⟨Mod.refl _ _,none,0,HC2.out,vj _ _ _ _,fun g hg=>by cases hg⟩,zG _⟩ ?round ?done ?stop)
 case hI=>exact fun pre A B ⟨h,hz⟩ hq=>⟨h.quiet (zG _) hq,zH hz (Mod.size hq)⟩
 case hIx=>exact fun _ _ _ _ h _=>h
 case stop=>exact fun _ _ _ _ _ h _=>h.elim
 case done =>
  rintro lb xs W hlb hS ⟨hI,hWs⟩ hK;have hS':xs.map vd=live (zB s.L):=by rw[← hM];exact hS
  have hxs:xs.map (fun g=>g.1)=vo (zB s.L):=by
   unfold vo;rw[← hS',jh]
   rfl
  rw[hxs]at hI;obtain⟨sl,hsl⟩:=zc (vo (zB s.L));rw[hsl]at hI HLV;have HSQ:=za hsl;have hsn:sl.length≤4194304:=by
   rw[← hsl];unfold vo;rw[yt];exact zH (KC _) HLEN.out
  obtain⟨a2,k2,r1,r2,r3⟩:=hI.row;have hmd:=hI.md;have hbig:Mod (fun k=>k=c2) w W:=Mod.trans' HP3.out hmd (fun _ _ h=>h.elim) (fun _ _ h=>h);have hC:=HH.out.beside hbig (fun k hk e=>by subst e;exact N2.out hk) (fun k _ e => .inr (fun cs fz hb=>by subst e;rw[H2.out]at hb;injection hb with hb;injection hb with _ hb;exact absurd hb (by decide))) (fun e=>H0.out e.symm);have hz1:=hbig.heap HNE.out H1.out;have HC:=za hC;have HBIG:=za hbig;have HZ1:=za hz1;have R1:=za r1;have R2:=za r2;have R3:=za r3;have HK:=za hK;have HSN:=za hsn;have HLB:=za hlb;have HWS:=za hWs;clear hI hS hS' hxs hsl hmd hbig hC r2 r3 hK hItlt hItd hsn hlb hWs r1;obtain⟨n,hn⟩:=zc sl.length;rw[hn]at R1 R2 R3 HSN;have HN:=za hn;clear hn;obtain⟨hz1_0,hz1_f,hz1_l,H_hz1⟩:=cr1 hz1;clear hz1;go_upto_region 5 with(go_at_call 81;refine(HLV5.out _).mono ?_;rintro e w5 ⟨rfl,hf5,hp5⟩)
  clear hz1_0 hz1_f hz1_l;clear H_hz1;have HF5:=za hf5;have HP5:=za hp5;obtain⟨c5,hc5⟩:=zc W.heap.size;have HC5:=za hc5;rw[hc5]at HF5 ⊢;have r5:=hp5.heap (fun h=>h) R1.out;clear hf5 hc5;obtain⟨r5_0,r5_f,r5_l,H_r5⟩:=cr1 r5;clear r5;go_upto_region 6 with fail
  clear r5_0 r5_f r5_l;clear H_r5;have HSZ:Hid (∀ k,b.D k→k<w.heap.size):=za (fun k hk=>HH.out.lt hk);have hww:=HP3.out.size;have HWW:=za hww;clear hww hp5;go_loopw [23] (fun v23 wr => ∃(k:Nat) (b':CaB),v23=.int .i64 (k:Nat)∧k≤n∧zo Fo wr b' (yJ 5 s (sl.take k))∧zr w5 wr b b') (fun v23 _=>n-(intOf v23).toNat)
  case atStart=>exact⟨0,b,rfl,yh _,HC.out.pure HP5.out,zr.pure (Mod.refl _ _)⟩
  case round =>
   obtain⟨k,b3,rfl,hk,hC,hT⟩:=hrel;have HC3:=za hC;have HT3:=za hT;clear hC hT;by_cases hlt:k<n
   ·have hlt':(k:Int)<(n:Int):=by omega
    have k0:(0:Int)≤(k:Int):=by omega
    have wk:IntKind.i64.wrap ((k:Int)+1)=(k:Int)+1:=zt _ (by have:=HSN.out;omega);obtain⟨x,hx⟩ : ∃ x,sl[k]? = some x:=⟨_,zN (by rw[HN.out];exact hlt)⟩;have hrd:zn wr (.slice a2 n k2) 1 (zU sl):=by
     have h9:=zy (zy R2.out HP5.out (fun _ _ h=>h)) HT3.out.mod (fun g hg e=>by have:=R3.out g hg;have:=HSZ.out g e;have:=HWW.out;omega);exact zn.of_owns h9 (Xv _)
    obtain⟨ad,had,z0⟩:=K7 hrd hx;subst had;have hl5:c5+1<w5.heap.size:=zl HF5.out.b2;have nb : ∀ j,¬ b.D (c5+j):=fun j e=>by have:=HSZ.out _ e;have:=HC5.out;have:=HWS.out;have:=HWW.out;omega
    have hl1:=Vu HC3.out (k:=5) (c1:=c5) (c2:=c5+1) (sl:=x) (by rw[HT3.out.p];exact HF5.out.mod HT3.out.mod (nb 0) (nb 1)) (HT3.out.nd (nb 0) (by omega)) (HT3.out.nd (nb 1) hl5) (HLV.out.at_ hx);rw[← Kk hx]at hl1;have HL1':=za hl1;clear hx hrd hl1 hl5 nb
    go_wp2_with (go_at_call 165;refine zm HL1'.out ?_;rintro e w6 ⟨rfl,b6,C6,T6⟩)
    go_roundw
    case rel=>exact⟨k+1,b6,by first | rfl | simp,hlt,C6,HT3.out.trans T6⟩
    case measure=>simp[intOf];omega
   ·have hlt' : ¬ (k:Int)<(n:Int):=by omega
    obtain rfl:k=n:=by omega
    have hC3:=HC3.out;rw[kM (by rw[HN.out];exact zG _)]at hC3;have HCC:=za hC3;clear hC3;go_wp2;have hnl : ¬ b.D lb:=fun e=>by have:=HSZ.out _ e;have:=HLB.out;have:=HWW.out;omega
    have hkk:=HT3.out.mod.heap hnl (HP5.out.heap (fun h=>h) HK.out);have hq:zx w3.heap.size _ _:=zx.putObj (.deferred none) HLB.out hkk rfl;have hmq:Mod (fun k=>k=lb) wr (wr.putObj lb (.deferred none)):=⟨rfl,rfl,rfl,by simp,fun k _ hn=>World.putObj_heap_other (fun e=>hn e)⟩;have hnl3 : ¬ b3.D lb:=HT3.out.nd hnl (zl (HP5.out.heap (fun h=>h) HK.out));have hc9:=HCC.out.beside hmq (fun k hk e=>by subst e;exact hnl3 hk) (fun k _ e => .inr (fun cs fz hb=>by subst e;rw[hkk]at hb;cases hb)) (by have:=HLB.out;have:=HWW.out;have:=HH.out.pos;omega);have hr9:=HT3.out.mod.heap N2.out (HP5.out.heap (fun h=>h) R1.out);refine j6 (v := .int .u32 (4294967295:Nat)) hkk (by simp[results,results83,go_sem]) ⟨rfl,b3,by rw[HSQ.out];exact hc9,⟨HT3.out.p,?_,fun k hk=>(HT3.out.grew k hk).imp (fun e=>e) (fun e=>zH (HBIG.out.size) (zH HP5.out.size e))⟩,a2,k2,by rw[HSQ.out,HN.out];exact hq.cells hr9⟩;have m1:Mod (fun k=>b.D k∨k=c2) w w5:=HBIG.out.mono (fun _ _ e => .inr e) |>.trans (Mod.of_pure HP5.out)
    have m2:Mod (fun k=>b.D k∨k=c2) w wr:=Mod.trans' m1 HT3.out.mod (fun _ _ e=>e) (fun _ _ e => .inl e);exact Mod.trans' m2 hmq (fun _ _ e=>e) (fun i hi e=>by have:=HLB.out;have:=HWW.out;omega)
 case round =>
  rintro lb pre ⟨i,x,v⟩ W K ⟨hI,hWs⟩ hG hK;obtain⟨va,vc,hv,_⟩:=uN hG.2.1;dsimp only at hv;subst hv;dsimp only[Uv];obtain⟨⟨post,hpost⟩,_,_⟩:=hG;have hpl:pre.length<4194304:=by
   have h9:=congrArg List.length hpost;have h8:=KC (M.map Prod.fst);rw[hM]at h8 h9;have:=HLEN.out;simp at h9;omega
  have HCI:=za hI;have HK:=za hK;clear hI hK hItlt hpost hItd;gi_wp2;refine HK.out _ _ (Mod.refl _ _) (fun l' W2 hl2 hr2 hq2 => ?_);have hI2:=HCI.out.quiet (zG _) hq2;obtain⟨a2,k2,q1,q2,q3⟩:=hI2.row;have HI2:=za hI2;have HF2:=za q3;have HW2:Hid (w3.heap.size≤W2.heap.size):=za (zH hWs (Mod.size hq2));have hc2l:c2<w3.heap.size:=zl HC2.out;have HCL:=za hc2l;have hlen9:(pre.map (fun g=>g.1)).length=pre.length:=by rw[yt]
  obtain⟨j,hj⟩:=zc pre.length;rw[hlen9,hj]at q1 HF2;rw[hj]at hpl;have hrr:W2.ownsRow 0 114 1 (.slice a2 j k2) j (zU (pre.map (fun g=>g.1))):=by rw[← hj,← hlen9];exact q2
  have HRR:=za hrr;have HJ:=za hj;have HL9:=za hlen9;have Q1:=za q1;clear hI2 q2 q3 HK HCI hrr hj hlen9 hc2l hWs;obtain⟨q1_0,q1_f,q1_l,H_q1⟩:=cr1 q1;clear q1
  gi_wp2_with (gi_at_builtin;refine zcZ _ rfl _ _ 132 rfl 114 i0 (.int .u32 0) 1 4 underlying132 hi iz0 iz1 iz2 rfl (by decide) (.slice a2 j k2) j _ rfl (zy HRR.out ((Mod.refl (fun _=>False) W2).alloc _) (fun _ _ h=>h)) _ [.int .u32 i] 1 rfl (zn.of_block 1 1 1 (zi rfl) (by rfl) (by simp[Value.oneCell'])) rfl (by unfold maxLen;omega) (by omega) ?_;intro a7 c7 w5 hr7 hg7 hb7;have M7:=za (Mod.heap (Mod.of_grown (S:=fun k=>(Value.slice a2 j k2).ownBlock=some k) hg7 (fun k e _=>e)) (fun e=>by have:=HF2.out _ e;have:=HCL.out;omega) (zz Q1.out));have m7:=zf w5 _ 0 _ _ _ M7.out;have fr7:=(fun j=>yP w5 _ j _ _ M7.out);have ml7:=zl M7.out)
  have hM7:Mod (fun k=>(Value.slice a2 j k2).ownBlock=some k∨k=c2) W2 (w5.setCell ⟨c2,0,none⟩ (.slice a7 (j+1) c7)) :=
   (((Mod.refl _ W2).alloc (.cells #[.int .u32 i] 114)).then (Mod.of_grown (S:=fun k=>(Value.slice a2 j k2).ownBlock=some k) hg7 (fun k e _=>e)) (fun _ _ h => .inl h)).setCell (fun _ => .inr rfl) _
  have h7 : ∀ g,(Value.slice a7 (j+1) c7).ownBlock=some g→w3.heap.size≤g:=fun g hg=>by
   rcases hb7 with e | e
   ·exact HF2.out g (e ▸ hg)
   ·rw[e]at hg;have hg2:(W2.alloc (.cells #[.int .u32 i] 114)).heap.size=g:=by injection hg
    have:=HW2.out;simp at hg2;omega
  have hitl : ∀ k,It k→k<w3.heap.size:=HIL.out;refine⟨xd.of_mod hM7 (fun k _ h o ho => ?_),yS.of_mod hM7 (fun k hk h => ?_),⟨⟨Mod.trans' HI2.out.md hM7 (fun _ _ h=>h) (fun k hk h => ?_),a7,c7,?_,?_,?_⟩,zH HW2.out hM7.size⟩⟩
  ·rcases h with h | rfl
   ·obtain⟨cur,e⟩:=yg HRR.out h;rw[e]at ho;cases ho;rfl
   ·rw[Q1.out]at ho;cases ho;rfl
  ·have:=hitl k hk;rcases h with h | h
   ·have:=HF2.out k h;omega
   ·subst h;exact HNI.out hk
  ·rcases h with h | h
   ·have:=HF2.out k h;omega
   ·exact h
  ·rw[xK,zR,HL9.out,HJ.out];simpa using zP w5 c2 0 _ _ (.slice a7 (j+1) c7) M7.out
  ·rw[xK,zR,HL9.out,HJ.out,qA];exact zy hr7 ((Mod.refl (fun k=>k=c2) w5).setCell (fun _=>rfl) _) (fun g hg e=>by have:=h7 g hg;have:=HCL.out;omega)
  ·rw[xK,zR,HL9.out,HJ.out];exact h7
end
section
variable{Fo:Nat→Prop}{w w':World}{b:CaB}{s:CaS}{D:Nat→Prop}{p:Nat}{t:Bst}
theorem zcu : ∀ {L:List (Option CE)} {k:Nat},((xR k (zB L)).map (fun g=>g.1)).map (fun q=>yj L (q-k))=(zu L).map CE.birth
 | [],_=>rfl
 | o::L,k=>by
  have ih:=zcu (L:=L) (k:=k+1);have hmem : ∀ q∈(xR (k+1) (zB L)).map (fun g=>g.1),k+1≤q:=fun q hq=>((UK _ (k+1)).2 q hq).1
  have hst : ∀ q∈(xR (k+1) (zB L)).map (fun g=>g.1),yj (o::L) (q-k)=yj L (q-(k+1)):=fun q hq=>by
   have:=hmem q hq;rw[show q-k=(q-(k+1))+1 by omega];unfold yj;rw[YE]
  have e:=(uc hst).trans ih
  cases o with
  | none=>exact e
  | some x =>
   show yj (some x::L) (k-k)::_=x.birth::_
   rw[ZD]
   congr 1
theorem zbB(L:List (Option CE)):(vo (zB L)).map (yj L)=(zu L).map CE.birth:=zcu (k:=0)
theorem Q0(L:List (Option CE)):(vo (zB L)).length=(zu L).length:=by
 have e:=congrArg List.length (zbB L);rw[yt,yt]at e;exact e
theorem zga{L:List (Option CE)}{q:Nat}(h:q∈vo (zB L)) : ∃ x,L[q]? = some (some x):=by
 unfold vo at h;obtain⟨g,hg,rfl⟩:=zI.1 h;have h9:=zar hg;unfold zB at h9;rw[yw]at h9
 cases ho:L[g.1]? with
 | none=>rw[ho]at h9;cases h9
 | some o =>
  rw[ho]at h9
  cases o with
  | none=>simp at h9
  | some x=>exact⟨x,rfl⟩
theorem CaI.clear(h:CaI NoP s)(hn:s.evs.length+(zu s.L).length≤1048576):xz 5 s (vo (zB s.L))∧CaI NoP (yJ 5 s (vo (zB s.L)))∧zD (yJ 5 s (vo (zB s.L)))=((zu s.L).map CE.birth).foldl (vg 5) (zD s):=by
 obtain⟨k1,k2,k3,_⟩:=h.leaves (k:=5) (l:=vo (zB s.L)) (fun sl hsl=>by
  obtain⟨x,hx⟩:=zga hsl;exact⟨x,hx,h.evOk (by decide) (xJ.2 ⟨_,hx⟩)⟩) ((UK (zB s.L) 0).1.imp (fun {a b} e=>by omega)) (by rw[Q0];exact hn)
 rw[zbB]at k3;exact⟨k1,k2,k3⟩
def zls(Fo:Nat→Prop)(w:World)(b:CaB)(n:Nat)(s':CaS)(e:Ending)(w':World):Prop:=e=.returned (.tuple #[.int .i64 (n:Nat),.int .i64 0]) ∧ ∃ b',zo Fo w' b' s'∧zr w w' b b'
theorem zk4(h:zo Fo w b s){t:Nat}(ht:t≤18446744073709551615)(hev:s.evs.length≤1048576)(hr:yU s=0)(hlv:xz 1 (tmS s t) (yD s t))(hl5:xz 5 (zj s t) (vo (zB (zj s t).L)))(hR:xX (yJ 5 (zj s t) (vo (zB (zj s t).L))) zX) :
  Calls prog 21 #[lkP b.p,.int .u64 t] w (zls Fo w b (vo (zB (zj s t).L)).length (pkS (evS (yJ 5 (zj s t) (vo (zB (zj s t).L))) zX))):=by
 have hc:=zaz h hev;rw[hr]at hc;have HC:=za hc;obtain⟨n,hn⟩:=zc ((vo (zB (zj s t).L)).length);obtain⟨s9,hs9⟩:=zc (yJ 5 (zj s t) (vo (zB (zj s t).L)));have HRn:=za (fun(Y:World) (c1 c2:Nat) (hY:zb w Y) (h1:Y.heap[c1]? = some (.cells #[lkP b.p] 30 (0,0))) (h2:Y.heap[c2]? = some (.cells #[.slice none 0 0] 132 (0,0))) (l1:w.heap.size≤c1) (l2:w.heap.size≤c2) (hne:c1≠c2) =>
  show Calls prog 82 #[lkP b.p,.int .u64 t,.func (.func 83) #[] #[.pointer (some ⟨c1,0,none⟩),.pointer (some ⟨c2,0,none⟩)]] Y (V5 Fo (fun k=>k=c2) Y b (fun keep s2 Z=>keep=zX∧s2=s9 ∧ ∃ a c,Z.heap[c2]? = some (.cells #[.slice a n c] 132 (0,0)))) by
  have m1 : ¬ b.D c1:=fun e=>by have:=h.lt e;omega
  have m2 : ¬ b.D c2:=fun e=>by have:=h.lt e;omega
  refine YO (h.pure hY) ht hlv (X:=fun k=>k=c2) (fun k hk=>by subst hk;exact⟨m2,zl h2⟩) (enters_of func83 (by kernel_rfl) rfl) (fun W b1 hC hT => ?_);have nq1 : ¬ b1.D c2:=hT.nd m2 (zl h2);refine(zfI hC (by rw[hT.p];exact hT.mod.heap m1 h1) (hT.mod.heap m2 h2) (hT.nd m1 (zl h1)) nq1 hne (by have:=h.pos;omega) hl5).mono ?_;rintro e w' ⟨rfl,b2,k1,k2,k3⟩;rw[hs9]at k1;rw[hn]at k3;have nq2 : ¬ b2.D c2:=k2.nd nq1 (x9 (zl h2) hT.mod.size);refine⟨zX,s9,b2,fun Z => ∃ a c,Z.heap[c2]? = some (.cells #[.slice a n c] 132 (0,0)),rfl,k1,k2,by rw[← hs9];exact hR,k3,fun W1 W2 S g1 g2 g3 => ?_,fun Z hZ=>⟨rfl,rfl,hZ⟩⟩;obtain⟨a,c,g⟩:=g1;refine⟨a,c,g2.heap (fun e=>(g3 _ e).elim nq2 (fun e => ?_)) g⟩;obtain⟨a3,c3,g4⟩:=k3;have:=zl g4;omega)
 rw[hn,hs9];have hb1:=zi (w:=w) (o := .cells #[lkP b.p] 30 (0,0)) rfl;have hp0:zb w (w.alloc (.cells #[lkP b.p] 30)):=(Mod.refl _ w).alloc _;have HND:=za (fun k (e:b.D k)=>h.lt e);clear h hev hr hc hlv hl5 hR hn hs9;go_enter func21,ntmps21;go_upto_region 1 with fail
 generalize w.alloc (.cells #[lkP b.p] 30)=W1 at *;obtain⟨c1,hc1⟩:=zc w.heap.size;have HC1:=za hc1;rw[hc1]at hb1 ⊢;clear hc1;have HB1:=za hb1;have HP0:=za hp0;clear hp0;obtain⟨hb1_0,hb1_f,hb1_l,H_hb1⟩:=cr1 hb1;clear hb1;go_upto_region 5 with(go_at_call 70;refine(HC.out _ HP0.out).mono ?_;rintro e w2 ⟨rfl,hp2⟩)
 clear hb1_0 hb1_f hb1_l;clear H_hb1;have hal:zb w2 (w2.alloc (.cells #[.slice none 0 0] 132)):=(Mod.refl _ w2).alloc _;have hq:=zi (w:=w2) (o := .cells #[.slice none 0 0] 132 (0,0)) rfl;have hp3:=HP0.out.trans (hp2.trans hal);have hg1:=(hp2.trans hal).heap (fun h=>h) HB1.out;have hsz:c1<w2.heap.size:=by have h1:=hp2.heap (fun h=>h) HB1.out;exact zl h1
 generalize w2.alloc (.cells #[.slice none 0 0] 132)=W3 at *;obtain⟨q,hqe⟩:=zc w2.heap.size;rw[hqe]at hq hsz ⊢;have HRn3:=za (HRn.out W3 c1 q hp3 hg1 hq (Nat.le_of_eq HC1.out) (by have:=HC1.out;omega) (by omega));have HP3:=za hp3;have HSZ:=za hsz;clear hal hqe hp2 hp3 HRn hq hsz HC;obtain⟨hg1_0,hg1_f,hg1_l,H_hg1⟩:=cr1 hg1;clear hg1;go_upto_region 6 with(go_at_call 82;refine HRn3.out.mono ?_;rintro e w4 ⟨rfl,keep,s2,b4,C4,T4,rfl,rfl,a,c,g4⟩)
 clear hg1_0 hg1_f hg1_l;clear H_hg1;have HC4:=za C4;have HT4:=za T4;clear C4 T4;obtain⟨g4_0,g4_f,g4_l,H_g4⟩:=cr1 g4;clear g4;go_wp2;refine zK (v := .tuple #[.int .i64 (n:Nat),.int .i64 0]) (by simp[results,results21,go_sem]) rfl ⟨rfl,b4,HC4.out,⟨HT4.out.p,?_,fun k hk=>(HT4.out.grew k hk).imp (fun e=>e) (fun e=>zH HP3.out.size e)⟩⟩;exact Mod.trans' HP3.out HT4.out.mod (fun _ _ h=>h.elim) (fun i hi e=>e.elim (fun e=>e) (fun e=>by have:=HSZ.out;have:=HC1.out;omega))
def Ur(t:Bst)(tt:Nat):Nat × Bst:=((yX t tt).E.length,vP (((yX t tt).E.map CE.birth).foldl (vg 5) (yX t tt)) 0)
theorem zO.clear(h:zO Fo w D p t){tt:Nat}(ht:tt≤18446744073709551615)(hr:xf t=0) :
  Calls prog 21 #[lkP p,.int .u64 tt] w fun e w'=>e=.returned (.tuple #[.int .i64 ((Ur t tt).1:Nat),.int .i64 0])∧uq Fo w D p (Ur t tt).2 w':=by
 obtain⟨b,s,h1,h2,rfl,rfl,rfl,h3,h4,h5⟩:=h;obtain⟨k1,k2,k3⟩:=h2.exp ht (kF hr);have hn:=(h2.exp_sum ht hr).1;obtain⟨l1,l2,l3⟩:=k2.clear hn;have hsum:=(Ug (k:=5) (l:=(zu (zj s tt).L).map CE.birth) (t:=zD (zj s tt)) k2.inc).1;rw[← l3]at hsum;obtain⟨q1,q2⟩:=l2.fin (t2:=((yX (zD s) tt).E.map CE.birth).foldl (vg 5) (yX (zD s) tt)) (by have e:_=_:=hsum;show(zD (yJ 5 (zj s tt) (vo (zB (zj s tt).L)))).sum≤_;rw[e];exact hn) (by rw[l3,← k3];rfl);refine(zk4 h1 ht h4 ((kV s).trans hr) k1 l1 q1).mono ?_;rintro e w' ⟨rfl,b',hC,hT⟩;refine⟨?_,zO.of hC hT q2⟩;rw[Q0]
 show _=Ending.returned (.tuple #[.int .i64 (((yX (zD s) tt).E.length:Nat):Int),.int .i64 0])
 rw[← k3]
 rfl
end
section
variable{Fo:Nat→Prop}{w w':World}{b:CaB}{s:CaS}{D:Nat→Prop}{p:Nat}{t:Bst}
def RzS(p c1:Nat)(g0 g1 g2 n m:Int)(sd:Int)(sm:Bool)(Y:World):Prop:=Y.cell? ⟨c1,0,none⟩=some (lkP p)∧Y.cell? ⟨c1+1,0,none⟩=some (.int .i64 n)∧Y.cell? ⟨c1+2,0,none⟩=some (.int .i64 m)∧Y.cell? ⟨p,6,none⟩=some (.int .i64 g0)∧Y.cell? ⟨p,7,none⟩=some (.int .i64 g1)∧Y.cell? ⟨p,8,none⟩=some (.int .i64 g2)∧Y.cell? ⟨p,9,none⟩=some (.int .u64 sd)∧Y.cell? ⟨p,10,none⟩=some (.bool sm)
theorem Azgj9 {P:Prop}(h:P:=by
 refine hDn ?_;clear h_;have hm9:=HPW.out;obtain⟨U3,hU3⟩:=zc (((((U2.setCell ⟨q,0,none⟩ (.int .i64 0)).setCell ⟨q,1,none⟩ (.int .i64 0)).setCell ⟨q,2,none⟩ (.int .i64 0)).setCell ⟨q,3,none⟩ (.int .u64 0)).setCell ⟨q,4,none⟩ (.bool false));rw[hU3]at hm9 ⊢;clear hU3 HPW;have z0:=hm9.heap (fun h=>h) HB0.out;have HC9:=za (HCK.out _ (HP0.out.trans hm9));have HP9:=za (HP0.out.trans hm9);clear hm9;obtain⟨z0_0,z0_f,z0_l,H_z0⟩:=cr1 z0;clear z0
 go_wp2_with (go_at_call 70;refine HC9.out.mono ?_;rintro e w9 ⟨rfl,hp9⟩)
 go_ret;exact⟨rfl,HP9.out.trans hp9⟩):P:=h
theorem zl3(h:zo Fo w b s)(hc:s.cfg.ok)(t:Nat)(hev:s.evs.length≤1048576){n m:Int}{er:Int}(he:(s.cfg.re n m).err=er)(h0:er≠0) :
  Calls prog 22 #[lkP b.p,.int .u64 t,.int .i64 n,.int .i64 m] w fun e w'=>e=.returned (.int .i64 er)∧zb w w':=by
 have hrz:=fun W=>zkA hc he h0 W
 have hfe:yW [er,yU s]=er:=by show(if er=0 then _ else er)=er;rw[zh h0]
 have hck:=VK h er hev;rw[hfe]at hck;have HCK:=za hck;have HN:=za (fun(Y:World) (hY:zb w Y)=>kG (h.pure hY));have HBo:=za (fun(Y:World) (hY:zb w Y)=>hY.heap (fun h=>h) h.box);have hne:(er != 0)=true:=by simpa using h0
 obtain⟨g0,g1,g2,sd,sm,hcf⟩ : ∃ g0 g1 g2 sd sm,s.cfg=⟨g0,g1,g2,sd,sm⟩:=⟨_,_,_,_,_,rfl⟩;rw[hcf]at hrz HBo;dsimp only[Cfg.v]at hrz;dsimp only at HBo;have HRZ:=za hrz;have hp0:zb w (((w.alloc (.cells #[lkP b.p] 30)).alloc (.cells #[.int .i64 n] 3)).alloc (.cells #[.int .i64 m] 3)):=(((Mod.refl _ w).alloc _).alloc _).alloc _;have hb0:=zz (o := .cells #[.int .i64 m] 3) (zz (o := .cells #[.int .i64 n] 3) (zi (w:=w) (o := .cells #[lkP b.p] 30 (0,0)) rfl));have hb1:=zz (o := .cells #[.int .i64 m] 3) (zi (w:=w.alloc (.cells #[lkP b.p] 30)) (o := .cells #[.int .i64 n] 3 (0,0)) (n:=w.heap.size+1) (by simp));have hb2:=zi (w:=(w.alloc (.cells #[lkP b.p] 30)).alloc (.cells #[.int .i64 n] 3)) (o := .cells #[.int .i64 m] 3 (0,0)) (n:=w.heap.size+2) (by simp);clear h hc hev he h0 hrz hfe hck hcf;go_enter func22,ntmps22;go_upto_region 1 with fail
 generalize((w.alloc (.cells #[lkP b.p] 30)).alloc (.cells #[.int .i64 n] 3)).alloc (.cells #[.int .i64 m] 3)=W1 at *;obtain⟨c1,hc1⟩:=zc w.heap.size;rw[hc1]at hb0 hb1 hb2 ⊢;rw[show c1+1+1=c1+2 from rfl];clear hc1;have HP0:=za hp0;have HB0:=za hb0;have HS:=za (fun(Y:World) (hY:zb W1 Y)=>(⟨zf Y c1 0 _ _ (0,0) (hY.heap (fun h=>h) hb0),zf Y (c1+1) 0 _ _ (0,0) (hY.heap (fun h=>h) hb1),zf Y (c1+2) 0 _ _ (0,0) (hY.heap (fun h=>h) hb2),zf Y b.p 6 _ _ (0,0) (HBo.out Y (HP0.out.trans hY)),zf Y b.p 7 _ _ (0,0) (HBo.out Y (HP0.out.trans hY)),zf Y b.p 8 _ _ (0,0) (HBo.out Y (HP0.out.trans hY)),zf Y b.p 9 _ _ (0,0) (HBo.out Y (HP0.out.trans hY)),zf Y b.p 10 _ _ (0,0) (HBo.out Y (HP0.out.trans hY))⟩:RzS b.p c1 g0 g1 g2 n m sd sm Y));clear hb1 hb2 hp0;obtain⟨hb0_0,hb0_f,hb0_l,H_hb0⟩:=cr1 hb0;clear hb0;go_upto_region 3 with(go_at_call 61;refine(HN.out _ HP0.out).mono ?_;rintro e w' ⟨rfl,rfl⟩)
 clear hb0_0 hb0_f hb0_l;clear H_hb0;have HD:=za ((Mod.refl (fun _=>False) W1).drew);refine rHd (S:=RzS b.p c1 g0 g1 g2 n m sd sm) (HS.out _ HD.out) (fun h_ => ?_);refine hLd 0 ?_;refine hTk 1 ?_;refine hTk 2 ?_;refine hLd 3 ?_;refine hLd 4 ?_;refine hLd 5 ?_;refine vI (rs:=[6,10]) (by kernel_rfl) (by simp) ?_;refine xE rfl (fun K1 hK1 => ?_) (xE rfl (fun K1 hK1 => ?_) vM)
 ·go_simp;refine(HRZ.out _).mono ?_;rintro e u1 ⟨rfl,hq1⟩;refine hK1.out _ _ (HS.out _ (HD.out.trans hq1)) (fun h_ => ?_);clear hK1 K1;refine clA ?_;refine hTk 7 ?_;refine hTk 8 ?_;refine hTk 9 ?_;have hal:zb u1 (u1.alloc (.cells #[.int .i64 0,.int .i64 0,.int .i64 0,.int .u64 0,.bool false] 24)):=(Mod.refl _ u1).alloc _;have hz:=zi (w:=u1) (o := .cells #[.int .i64 0,.int .i64 0,.int .i64 0,.int .u64 0,.bool false] 24 (0,0)) rfl
  (refine hSt 10 (fun K hK => ?_);go_simp;refine hK.out _ _ ?_ (fun h_ => ?_);(· exact HS.out _ ((HD.out.trans hq1).trans ((Mod.refl _ _).alloc _)));clear hK K;refine clA ?_)
  have hpw:=(HD.out.trans hq1).trans hal;have hlt:W1.heap.size≤u1.heap.size:=(HD.out.trans hq1).size;generalize u1.alloc (.cells #[.int .i64 0,.int .i64 0,.int .i64 0,.int .u64 0,.bool false] 24)=U2 at *;obtain⟨q,hqq⟩:=zc u1.heap.size;rw[hqq]at hz hlt ⊢;clear hqq hal;have hx:=UI (.int .i64 0) (.int .i64 0) (.int .i64 0) (.int .u64 0) (.bool false) hz;have hm5:Mod (fun i=>i=q) U2 (((((U2.setCell ⟨q,0,none⟩ (.int .i64 0)).setCell ⟨q,1,none⟩ (.int .i64 0)).setCell ⟨q,2,none⟩ (.int .i64 0)).setCell ⟨q,3,none⟩ (.int .u64 0)).setCell ⟨q,4,none⟩ (.bool false)):=(((((Mod.refl (fun i=>i=q) U2).setCell (p:=⟨q,0,none⟩) (fun _=>rfl) _).setCell (p:=⟨q,1,none⟩) (fun _=>rfl) _).setCell (p:=⟨q,2,none⟩) (fun _=>rfl) _).setCell (p:=⟨q,3,none⟩) (fun _=>rfl) _).setCell (p:=⟨q,4,none⟩) (fun _=>rfl) _;have hpp:=hpw.then hm5 (fun i hi e=>by omega);have HPW:=za hpp;obtain⟨hz_0,hz_1,hz_2,hz_3,hz_4,hz_f,hz_l,H_hz⟩:=cr5 hz;clear hz
  (refine hSt 11 (fun K hK => ?_);go_simp;refine hK.out _ _ ?_ (fun h_ => ?_);(· exact HS.out _ HPW.out);clear hK K;refine clA ?_)
  refine hTk 12 ?_;clear hx hm5 hpp hpw hlt hq1 hz_0 hz_1 hz_2 hz_3 hz_4 hz_f hz_l H_hz;exact Azgj9
 ·go_simp;have hal:zb W1 (W1.alloc (.cells #[.int .i64 0,.int .i64 0,.int .i64 0,.int .u64 0,.bool false] 24)).drew:=((Mod.refl _ W1).alloc _).drew;have hz0:(W1.alloc (.cells #[.int .i64 0,.int .i64 0,.int .i64 0,.int .u64 0,.bool false] 24)).drew.heap[W1.heap.size]? = some (.cells #[.int .i64 0,.int .i64 0,.int .i64 0,.int .u64 0,.bool false] 24 (0,0)):=zi rfl;refine hK1.out _ _ (HS.out _ hal) (fun h_ => ?_);clear hK1 K1;refine clA ?_;have hlt:W1.heap.size≤W1.heap.size:=zG _;have hpa:=hal;generalize(W1.alloc (.cells #[.int .i64 0,.int .i64 0,.int .i64 0,.int .u64 0,.bool false] 24)).drew=U1 at *;obtain⟨q,hqq⟩:=zc W1.heap.size;have hlt:W1.heap.size≤q:=Nat.le_of_eq hqq;rw[hqq]at hz0 ⊢;clear hqq hal;have HZ0:=za hz0;have HPA:=za hpa;clear hz0 hpa
  (refine hSt 6 (fun K hK => ?_);go_simp;refine(HRZ.out _).mono ?_;rintro e U2 ⟨rfl,hq2⟩;refine hK.out _ _ ?_ (fun h_ => ?_);(· exact HS.out _ (HPA.out.trans hq2));clear hK K;refine clA ?_)
  have hz:=hq2.heap (fun h=>h) HZ0.out;have hx:=UI (.int .i64 0) (.int .i64 0) (.int .i64 0) (.int .u64 0) (.bool false) hz;have hm5:Mod (fun i=>i=q) U2 (((((U2.setCell ⟨q,0,none⟩ (.int .i64 0)).setCell ⟨q,1,none⟩ (.int .i64 0)).setCell ⟨q,2,none⟩ (.int .i64 0)).setCell ⟨q,3,none⟩ (.int .u64 0)).setCell ⟨q,4,none⟩ (.bool false)):=(((((Mod.refl (fun i=>i=q) U2).setCell (p:=⟨q,0,none⟩) (fun _=>rfl) _).setCell (p:=⟨q,1,none⟩) (fun _=>rfl) _).setCell (p:=⟨q,2,none⟩) (fun _=>rfl) _).setCell (p:=⟨q,3,none⟩) (fun _=>rfl) _).setCell (p:=⟨q,4,none⟩) (fun _=>rfl) _;have hpp:=(HPA.out.trans hq2).then hm5 (fun i hi e=>by omega);have HPW:=za hpp;refine hTk 7 ?_;refine hTk 8 ?_;refine hTk 9 ?_;obtain⟨hz_0,hz_1,hz_2,hz_3,hz_4,hz_f,hz_l,H_hz⟩:=cr5 hz;clear hz
  (refine hSt 11 (fun K hK => ?_);go_simp;refine hK.out _ _ ?_ (fun h_ => ?_);(· exact HS.out _ HPW.out);clear hK K;refine clA ?_)
  refine hTk 12 ?_;clear hx hm5 hpp hlt hq2 hz_0 hz_1 hz_2 hz_3 hz_4 hz_f hz_l H_hz;exact Azgj9
end
end
end Go.Proofs.YtpplkcnknabofaaGreatDoor
