/- Lemmas and contracts of functions. No condition. -/
import Derived.Test.YtifbnponicgplaaGreatDoorJPfBoth4219
import Derived.Lib.SlBytesConst
namespace Go.Proofs.YtifbnponicgplaaGreatDoor
open _root_.Go.Proofs.Tryz
set_option maxRecDepth 100000
set_option maxHeartbeats 20000000
set_option linter.all false
section
open Go.RowKit Go.Shelf
def Yz(ex:Bool)(e0:Int)(b:Bst)(te:Nat)(key:ByteArray)(vs:List UInt8)(ttl:Nat):Int × Bst :=
 if e0=0 then(if ex=true then(0,(vW b te key).2)else(0,(kP b te key vs ttl).2))else kP b te key vs ttl
def za6(ex:Bool)(e0:Int)(b:Bst)(key:ByteArray)(n ttl:Nat):Bool:=if e0=0∧ex=true then decide (yU key b=0)else Xo b key n ttl
def kW(ex dm:Bool)(t0 t1:Bst)(tt:Nat)(key:ByteArray)(vs:List UInt8)(ttl:Nat):Int × Bst × Bst :=
 let te:=tmT t0 t1 tt
 let r0:=kP (zv t0 te) te key vs ttl
 let r1:=Yz ex r0.1 (zv t1 te) te key vs ttl
 (r1.1,vo dm te r0.2 r1.2)
def kO(ex dm:Bool)(t0 t1:Bst)(tt:Nat)(key:ByteArray)(vs:List UInt8)(ttl n k:Nat):Bool :=
 let te:=tmT t0 t1 tt
 let r0:=kP (zv t0 te) te key vs ttl
 let r1:=Yz ex r0.1 (zv t1 te) te key vs ttl
 kN t0 t1 tt&&Xo (zv t0 te) key vs.length ttl&&za6 ex r0.1 (zv t1 te) key vs.length ttl&&kg dm te r1.2 r0.2.evs&&decide (uJ dm te r0.2 r1.2=k)&&decide (n+k≤1000000)&&xo key.size&&decide (vs.length≤65536)&&decide (key.size≤1000)
section
variable{w w':World}{q p0 p1 n c p:Nat}{ex dm:Bool}{a:Option Addr}{D:Nat→Prop}{t t0 t1:Bst}
theorem Azlei {P:Prop}(h:P:=by
 refine leaves_cons (f:=20) (args:=#[lkP q,.int .u64 te]) (by simp) (by simp[go_sem]) ?_;refine(HFin.out w3 hg3).mono ?_;rintro e u' w' ⟨rfl,rfl,hk⟩;exact⟨_,results_tmp rfl _ _ _,rfl,hk⟩):P:=h
theorem Azvr2 {P:Prop}(h:P:=by
 obtain⟨hx_0,hx_1,hx_2,hx_3,hx_4,hx_f,hx_l,H_hx⟩:=cr5 hx;clear hx
 go_wp2_with (go_at_call 21;refine HS1.out.mono ?_;rintro e w3 ⟨rfl,hg3⟩)
 exact Azlei):P:=h
theorem zgD(h:yj w D q p0 p1 ex dm n t0 t1){tt ttl vn vc k:Nat}{va:Option Addr}{key:ByteArray}{vs:List UInt8}(hv:zr w (.slice va vn vc) 1 (zJ vs))(hb:uW w (.slice va vn vc))(hn:vs.length=vn)(ok:kO ex dm t0 t1 tt key vs ttl n k=true){er:Int}{t0' t1':Bst}(hr:kW ex dm t0 t1 tt key vs ttl=(er,t0',t1')) :
    Calls prog 7 #[lkP q,.int .u64 tt,.string key,.slice va vn vc,.int .u64 ttl] w fun e w'=>e=.returned (.int .i64 er)∧zH w D q p0 p1 ex dm (n+k) t0' t1' w':=by
  unfold kO at ok;unfold kW at hr;dsimp only at ok hr;obtain⟨te,hte⟩:=zf (tmT t0 t1 tt);simp only[Bool.and_eq_true,decide_eq_true_eq]at ok;obtain⟨⟨⟨⟨⟨⟨⟨⟨o1,o2⟩,o3⟩,o4⟩,o5⟩,o6⟩,o7⟩,o8⟩,o9⟩:=ok;have hte64:=Xe o1;rw[hte]at o2 o3 o4 o5 hr hte64;have HMay:=za (YU h o9 o7);have HAdv:=za (Xr h o1 hte);obtain⟨r0,hr0⟩:=zf (kP (zv t0 te) te key vs ttl);rw[hr0]at o3 o4 o5 hr;obtain⟨r1,hr1⟩:=zf (Yz ex r0.1 (zv t1 te) te key vs ttl);rw[hr1]at o4 o5 hr;injection hr with e1 e2
  have e3:(vo dm te r0.2 r1.2).1=t0':=by rw[e2]
  have e4:(vo dm te r0.2 r1.2).2=t1':=by rw[e2]
  subst e1 e3 e4 o5;have hlv : ¬ (vn:Int)>65536:=by omega
  rw[hn]at o2 o3;have HV:=za hv;have HB:=za hb;have HNob:=za (fun k (hk:D k)=>h.nob hk);have HLt:=za (fun k (hk:D k)=>h.lt hk);have HT64:=za hte64;have HKS:=za o9;have O2:=za o2;have O3:=za o3;have O4:=za o4;have O6:=za o6;have HR0:=za hr0;have HR1:=za hr1;have HVN:=za hn;clear h hv hb o1 o2 o3 o4 o6 o7 o8 o9 hte hte64 hr0 hr1 e2 hn
  go_enter_defers func7,ntmps7
  go_upto_region 8 with(first
    | (go_at_call 18;refine HMay.out.mono ?_;rintro e w' ⟨rfl,rfl⟩)
    | (go_at_call 19;refine HAdv.out.mono ?_;rintro e w1 ⟨rfl,D1,hA1,hm1,hg1⟩))
  obtain⟨a,c,hb⟩:=hA1.box;obtain⟨C0,hc0,hd0,hgo0⟩:=hA1.go0;have hv1:=HV.out.frame hm1 (HB.out.off HNob.out);have hb1:=HB.out.mod hm1 HNob.out;have HS0:=za (KK hc0 hv1 hb1 HVN.out HT64.out O2.out);rw[HR0.out]at HS0;have HGo0:=za (fun w2 (hg:yv NoF w1 C0 p0 r0.2 w2)=>(hgo0 hg:zH w1 D1 q p0 p1 ex dm n r0.2 (zv t1 te) w2));have HV1:=za hv1;have HB1:=za hb1;have HM1:=za hm1;have HG1:=za hg1;have HNob1:=za (fun k (hk:D1 k)=>hA1.nob hk);clear hA1 hc0 hd0 hgo0 hv1 hb1 hm1 hg1 HV HB HNob HMay HAdv;obtain⟨hb_0,hb_1,hb_2,hb_3,hb_4,hb_f,hb_l,H_hb⟩:=cr5 hb;clear hb;go_upto_region 10 with(go_at_call 21;refine HS0.out.mono ?_;rintro e w2 ⟨rfl,hg2⟩)
  clear hb_0 hb_1 hb_2 hb_3 hb_4 hb_f hb_l;clear H_hb HS0;obtain⟨D2,hA2,hm2,hg2'⟩:=HGo0.out w2 hg2;have hv2:=HV1.out.frame hm2 (HB1.out.off HNob1.out);have hb2:=HB1.out.mod hm2 HNob1.out;obtain⟨a2,c2,hx⟩:=hA2.box;obtain⟨C1,hc1,hd1,hgo1⟩:=hA2.go1;have HFin:=za (fun w3 (hg:yv NoF w2 C1 p1 r1.2 w3) =>
    show CallsD prog 20 #[lkP q,.int .u64 te] .returning w3 (fun e u' w'=>u'=.returning∧(e=.returned (.tuple #[])∧zH w D q p0 p1 ex dm (n+uJ dm te r0.2 r1.2) (vo dm te r0.2 r1.2).1 (vo dm te r0.2 r1.2).2 w')) by
      obtain⟨D3,hA3,hm3,hg3⟩:=hgo1 hg;refine(Yu hA3 HT64.out O4.out O6.out .returning).mono ?_;rintro e u' w' ⟨rfl,rfl,hk⟩;exact⟨rfl,rfl,zH.trans HM1.out HG1.out (zH.trans hm2 hg2' (zH.trans hm3 hg3 hk))⟩)
  have HV2:=za hv2;have HB2:=za hb2;have HC1:=za hc1;clear hA2 hm2 hg2' hg2 hv2 hb2 hc1 hd1 hgo1 HV1 HB1 HM1 HG1 HNob1 HGo0;unfold Yz at HR1;unfold za6 at O3;by_cases he0:r0.1=0
  · rw[zj he0]at HR1
    cases ex with
    | true =>
      rw[zj rfl]at HR1;rw[zj ⟨he0,rfl⟩]at O3;have HDl:=za (HC1.out.del HT64.out (by have:=HKS.out;omega) (of_decide_eq_true O3.out));have hrr:=HR1.out;subst hrr;have hz:(r0.1==0)=true:=by simp;exact he0
      clear HR1 he0 O3;obtain⟨hx_0,hx_1,hx_2,hx_3,hx_4,hx_f,hx_l,H_hx⟩:=cr5 hx;clear hx
      go_wp2_with (go_at_call 22;refine HDl.out.mono ?_;rintro e w3 ⟨rfl,hg3⟩)
      exact Azlei
    | false =>
      rw[zh (by decide)]at HR1;rw[zh (by simp)]at O3;have HS1:=za (KK HC1.out HV2.out HB2.out HVN.out HT64.out O3.out);have hrr:=HR1.out;subst hrr;have hz:(r0.1==0)=true:=by simp;exact he0
      clear HR1 he0 O3;exact Azvr2
  · rw[zh he0]at HR1
    rw[zh (fun h=>he0 h.1)]at O3;have HS1:=za (KK HC1.out HV2.out HB2.out HVN.out HT64.out O3.out);rw[HR1.out]at HS1;have hz:(r0.1==0)=false:=by simp;exact he0
    clear he0 HR1 O3;exact Azvr2
end
section
variable{Fo:Nat→Prop}{w w':World}{b:CaB}{s:CaS}{D:Nat→Prop}{p:Nat}{t:Bst}
theorem zdY(h:zo Fo w b s){t:Nat}(ht:t≤18446744073709551615)(hev:s.evs.length≤1048576)(hr:ve s=0)(hlv:vm 1 (tmS s t) (yT s t)){key:ByteArray}(hk:key.size≤140737488355328)(hkE:ky key=0)(hf:yN (zP (zl s t).L) key=none)(hR:vx (zl s t) yp) :
  Calls prog 24 #[lkP b.p,.int .u64 t,.string key] w (fun e w'=>e=.returned (.tuple #[KX,.bool false,.int .i64 0]) ∧ ∃ b',zo Fo w' b' (pkS (evS (zl s t) yp))∧zu w w' b b'):=by
 have HK:=za (fun Y=>YB key Y hk);have e2:(if xo key.size=true then(0:Int)else 2)=0:=hkE;rw[e2]at HK;have hc:=VX h 0 hev;have e7:xE [0,ve s]=0:=by rw[hr];rfl
 rw[e7]at hc;have HC:=za hc;have HFd:=za (fun(Y:World) (c1 q:Nat) (hY:zb w Y) =>
  Kl (h.pure hY) ht hlv hk (gf:=46) (lf:=#[.pointer (some ⟨c1,0,none⟩),.pointer (some ⟨q,0,none⟩)]) hf hR)
 have hb1:=zK (o := .cells #[.string ⟨#[]⟩,.slice none 0 0,.int .u64 0,.int .u64 0] 70) (zk (w:=w) (o := .cells #[lkP b.p] 41 (0,0)) rfl);have hb2:=zk (w:=w.alloc (.cells #[lkP b.p] 41)) (o := .cells #[.string ⟨#[]⟩,.slice none 0 0,.int .u64 0,.int .u64 0] 70 (0,0)) (n:=w.heap.size+1) (by simp);have hp0:zb w ((w.alloc (.cells #[lkP b.p] 41)).alloc (.cells #[.string ⟨#[]⟩,.slice none 0 0,.int .u64 0,.int .u64 0] 70)):=((Mod.refl _ w).alloc _).alloc _;have HND:=za (fun k (e:b.D k)=>h.lt e);have HPS:=za h.pos;clear h hev hr hc e7 hlv hR hf e2 hkE;go_enter func24,ntmps24;go_upto_region 1 with fail
 generalize(w.alloc (.cells #[lkP b.p] 41)).alloc (.cells #[.string ⟨#[]⟩,.slice none 0 0,.int .u64 0,.int .u64 0] 70)=W1 at *;obtain⟨c1,hc1⟩:=zf w.heap.size;have HC1:=za hc1;rw[hc1]at hb1 hb2 HND ⊢;clear hc1;have HB1:=za hb1;have HB2:=za hb2;have HP0:=za hp0;have HS:=za (fun(Y:World) (hY:zb W1 Y)=>(zi Y c1 0 _ _ (0,0) (hY.heap (fun h=>h) hb1):Y.cell? ⟨c1,0,none⟩=some (lkP b.p)));clear hb1 hb2 hp0;refine rHd (S:=fun Y=>Y.cell? ⟨c1,0,none⟩=some (lkP b.p)) (HS.out _ (Mod.refl _ _).drew) (fun h_ => ?_);refine hLd 0 ?_;refine hTk 1 ?_
 (refine hSt 2 (fun K hK => ?_);go_simp;refine(HK.out _).mono ?_;rintro e u1 ⟨rfl,rfl⟩;refine hK.out _ _ ?_ (fun h_ => ?_);(· exact HS.out _ (Mod.refl _ _).drew);clear hK K;refine clA ?_)
 (refine hSt 3 (fun K hK => ?_);go_simp;refine hK.out _ _ ?_ (fun h_ => ?_);(· exact HS.out _ ((Mod.refl _ _).drew.alloc _));clear hK K;refine clA ?_)
 (refine hSt 4 (fun K hK => ?_);go_simp;refine zq (HC.out _ (HP0.out.trans (Mod.refl (fun _=>False) W1).drew)) ?_;rintro e u2 ⟨rfl,hq2⟩;refine hK.out _ _ ?_ (fun h_ => ?_);(· exact HS.out _ ((Mod.refl (fun _=>False) W1).drew.trans hq2));clear hK K;refine clA ?_)
 refine hTk 5 ?_;refine hDn ?_;clear h_;have hp2:zb W1 u2:=(Mod.refl (fun _=>False) W1).drew.trans hq2;have HP2:=za hp2;clear hq2 hp2 HC;go_upto_region 5 with fail
 have hal:zb u2 (u2.alloc (.cells #[.string ⟨#[]⟩,.slice none 0 0,.int .u64 0,.int .u64 0] 70)):=(Mod.refl _ u2).alloc _;have hq:=zk (w:=u2) (o := .cells #[.string ⟨#[]⟩,.slice none 0 0,.int .u64 0,.int .u64 0] 70 (0,0)) rfl;have hp3:=HP2.out.trans hal;generalize u2.alloc (.cells #[.string ⟨#[]⟩,.slice none 0 0,.int .u64 0,.int .u64 0] 70)=W3 at *;obtain⟨q,hqe⟩:=zf u2.heap.size;rw[hqe]at hq ⊢;have hg1:=hp3.heap (fun h=>h) HB1.out;have hsz:c1+1<q:=by have h1:=HP2.out.heap (fun h=>h) HB2.out;have:=zm h1;omega
 have HF:=za (HFd.out W3 c1 q (HP0.out.trans hp3));have HP3:=za hp3;have HSZ:=za hsz;have HQ:=za hq;clear hal hqe hp3 HFd hq hsz;obtain⟨hg1_0,hg1_f,hg1_l,H_hg1⟩:=cr1 hg1;clear hg1;go_upto_region 6 with(go_at_call 40;refine HF.out.mono ?_;rintro e w4 ⟨rfl,b4,hc4,ht4⟩)
 have g4:=ht4.mod.heap (fun e=>by have:=HND.out _ e;have:=HC1.out;have:=HSZ.out;omega) HQ.out;have g6:=ht4.mod.heap (fun e=>by have:=HND.out _ e;have:=HC1.out;omega) (HP3.out.heap (fun h=>h) HB2.out);have HG6:=za g6;have HC4:=za hc4;have HT4:=za ht4;clear hc4 ht4;clear hg1_0 hg1_f hg1_l;clear H_hg1;obtain⟨g4_0,g4_1,g4_2,g4_3,g4_f,g4_l,H_g4⟩:=cr4 g4;clear g4;obtain⟨g6_0,g6_1,g6_2,g6_3,g6_f,g6_l,H_g6⟩:=cr4 g6;clear g6;go_wp2;obtain⟨Y,hY⟩:=zf ((((w4.setCell ⟨c1+1,0,none⟩ (.string ⟨#[]⟩)).setCell ⟨c1+1,1,none⟩ (.slice none 0 0)).setCell ⟨c1+1,2,none⟩ (.int .u64 0)).setCell ⟨c1+1,3,none⟩ (.int .u64 0));obtain⟨g1,g2⟩:=Xa HG6.out hY;rw[hY];have n6 : ¬ b4.D (c1+1):=HT4.out.nd (fun e=>by have:=HND.out _ e;have:=HC1.out;omega) (zm (HP3.out.heap (fun h=>h) HB2.out));have hc9:=HC4.out.beside g1 (fun k hk e=>by subst e;exact n6 hk) (fun k _ e => .inr (fun cs fz hb=>by subst e;rw[HG6.out]at hb;injection hb with hb;injection hb with _ hb;exact absurd hb (by decide))) (by omega);obtain⟨g2_0,g2_1,g2_2,g2_3,g2_f,g2_l,H_g2⟩:=cr4 g2;clear g2;refine zR (v := .tuple #[KX,.bool false,.int .i64 0]) (by simp[results,results24,go_sem,g2_0,g2_1,g2_2,g2_3]) rfl ⟨rfl,b4,hc9,⟨HT4.out.p,?_,fun k hk=>(HT4.out.grew k hk).imp (fun e=>e) (fun e=>zF (HP0.out.trans HP3.out).size e)⟩⟩;refine Mod.trans' (Mod.trans' (HP0.out.trans HP3.out) HT4.out.mod (U:=fun k=>b.D k) (fun _ _ h=>h.elim) (fun _ _ h=>h)) g1 (fun i hi e=>e) (fun i hi e=>by have:=HC1.out;omega)
theorem zG.peekMiss(h:zG Fo w D p t){tt:Nat}(ht:tt≤18446744073709551615){key:ByteArray}(hk:key.size≤140737488355328)(hr:yU key t=0)(hx:uj (yQ t tt) key=none) :
  Calls prog 24 #[lkP p,.int .u64 tt,.string key] w fun e w'=>e=.returned (.tuple #[KX,.bool false,.int .i64 0])∧yv Fo w D p (zv t tt) w':=by
 obtain⟨hkE,hr⟩:=ZV hr;obtain⟨b,s,h1,h2,rfl,rfl,rfl,h3,h4,h5⟩:=h;obtain⟨k1,k2,k3⟩:=h2.exp ht (ja hr);have hn:=(h2.exp_sum ht hr).1;rw[← k3]at hx;obtain⟨q1,q2⟩:=k2.fin hn k3;refine(zdY h1 ht h4 ((ji s).trans hr) k1 hk hkE (k2.find_none hx).1 q1).mono ?_;rintro e w' ⟨rfl,b',hC,hT⟩;exact⟨rfl,zG.of hC hT q2⟩
theorem zG.getHit(h:zG Fo w D p t){tt:Nat}(ht:tt≤18446744073709551615){key:ByteArray}(hk:key.size≤140737488355328)(hr:yU key t=0){x:CE}(hl:uj (yQ t tt) key=some x){t':Bst}(ht':vG (qC (yQ t tt) x.birth x.cost) 0=t') :
  Calls prog 23 #[lkP p,.int .u64 tt,.string key] w fun e w' => ∃ a n c,e=.returned (.tuple #[.slice a n c,.bool true,.int .i64 0])∧zW w' (.slice a n c) (zJ x.val)∧yv Fo w D p t' w':=by
 subst ht';obtain⟨hkE,hr⟩:=ZV hr;obtain⟨b,s,h1,h2,rfl,rfl,rfl,h3,h4,h5⟩:=h;obtain⟨k1,k2,k3⟩:=h2.exp ht (ja hr);have hn:=(h2.exp_sum ht hr).1;obtain⟨_,_,hab⟩:=h2.exp_frame ht hr;rw[← k3]at hl ⊢;obtain⟨sl,f1,f2,f3⟩:=k2.find_some hl;obtain⟨u1,u2⟩:=k2.use f2;have e9:zx (vX (zl s tt) ⟨sl,x.cost⟩).L=zx (zl s tt).L:=rfl;have e8:(vX (zl s tt) ⟨sl,x.cost⟩).evs=(zl s tt).evs:=rfl;obtain⟨q1,q2⟩:=u1.fin (by rw[e8,e9];exact hn) u2;refine(zc6 h1 ht h4 ((ji s).trans hr) k1 hk hkE f1 f2 ((k2.ab ⟨sl,x.cost⟩).2 ⟨x,f2,rfl⟩) k2.U k2.cfg k2.lim (by omega) q1).mono ?_;rintro e w' ⟨a,n,c,rfl,hby,hfr,b',hC,hT⟩;exact⟨a,n,c,rfl,hby,zG.of hC hT q2⟩
theorem zG.getMiss(h:zG Fo w D p t){tt:Nat}(ht:tt≤18446744073709551615){key:ByteArray}(hk:key.size≤140737488355328)(hr:yU key t=0)(hl:uj (yQ t tt) key=none){t':Bst}(ht':zv t tt=t') :
  Calls prog 23 #[lkP p,.int .u64 tt,.string key] w fun e w'=>e=.returned (.tuple #[.slice none 0 0,.bool false,.int .i64 0])∧yv Fo w D p t' w':=by
 subst ht';obtain⟨hkE,hr⟩:=ZV hr;obtain⟨b,s,h1,h2,rfl,rfl,rfl,h3,h4,h5⟩:=h;obtain⟨k1,k2,k3⟩:=h2.exp ht (ja hr);rw[← k3]at hl;obtain⟨q1,q2⟩:=k2.fin (h2.exp_sum ht hr).1 k3;refine(zbQ h1 ht h4 ((ji s).trans hr) k1 hk hkE (k2.find_none hl).1 q1).mono ?_;rintro e w' ⟨rfl,b',hC,hT⟩;exact⟨rfl,zG.of hC hT q2⟩
end
section
variable{w w':World}{q p0 p1 n c p:Nat}{ex dm:Bool}{a:Option Addr}{D:Nat→Prop}{t t0 t1:Bst}
theorem VZ{key:ByteArray}(h:yU key t=0):xo key.size=true:=by
 have h1:=(ZV h).1;unfold ky at h1
 cases hb:xo key.size with
 | true=>rfl
 | false=>rw[hb]at h1;exact absurd h1 (by decide)
theorem zG.peekAny(h:zG NoF w D p t){tt:Nat}(ht:tt≤18446744073709551615){key:ByteArray}(hk:key.size≤140737488355328)(hr:yU key t=0) :
  Calls prog 24 #[lkP p,.int .u64 tt,.string key] w fun e w' => ∃ k2 a n c dl b,e=.returned (.tuple #[.agg #[.string k2,.slice a n c,.int .u64 (dl:Nat),.int .u64 (b:Nat)],.bool (vg t tt key).isSome,.int .i64 0])∧yv NoF w D p (zv t tt) w':=by
 cases hl:vg t tt key with
 | none =>
  refine(h.peekMiss ht hk hr hl).mono ?_;rintro e w' ⟨rfl,hg⟩;exact⟨⟨#[]⟩,none,0,0,0,0,rfl,hg⟩
 | some x =>
  refine(h.peekHit ht hk hr hl).mono ?_;rintro e w' ⟨a,n,c,rfl,_,_,hg⟩;exact⟨x.key,a,n,c,x.dl,x.birth,rfl,hg⟩
theorem yj.bytes{v:Value}{xs:List Value}{S:Nat→Prop}(h:zW w v xs)(hm:Mod S w w')(hS : ∀ k,S k→vP w k):zW w' v xs:=zz h hm (fun g hg hs=>by obtain⟨cur,e⟩:=yd h hg;exact hS g hs cur _ e)
theorem zis(h:yj w D q p0 p1 ex dm n t0 t1){tt te k:Nat}{key:ByteArray}{x:CE}(o1:kN t0 t1 tt=true)(hte:tmT t0 t1 tt=te)(hk:key.size≤1000)(o2:yU key (zv t0 te)=0){t0':Bst}(hl:vg (zv t0 te) te key=some x)(hu:U1 (zv t0 te) te x=t0')(o4:kg dm te (zv t1 te) t0'.evs=true)(o5:uJ dm te t0' (zv t1 te)=k)(o6:n+k≤1000000) :
    Calls prog 8 #[lkP q,.int .u64 tt,.string key] w fun e w' => ∃ a m c,e=.returned (.tuple #[.slice a m c,.int .i64 1,.int .i64 0])∧zW w' (.slice a m c) (zJ x.val)∧zH w D q p0 p1 ex dm (n+k) (vo dm te t0' (zv t1 te)).1 (vo dm te t0' (zv t1 te)).2 w':=by
  have hte64:te≤18446744073709551615:=by rw[← hte];exact Xe o1
  have HMay:=za (YU h hk (VZ o2));have HAdv:=za (Xr h o1 hte);subst o5;have HT64:=za hte64;have O2:=za o2;have O4:=za o4;have O6:=za o6;have HL:=za hl;have HU:=za hu;have HK:=za hk;clear h o1 o2 o4 o6 hte hte64 hl hu hk
  go_enter_defers func8,ntmps8
  go_upto_region 6 with(first
    | (go_at_call 18;refine HMay.out.mono ?_;rintro e w' ⟨rfl,rfl⟩)
    | (go_at_call 19;refine HAdv.out.mono ?_;rintro e w1 ⟨rfl,D1,hA1,hm1,hg1⟩))
  obtain⟨a,c,hb⟩:=hA1.box;obtain⟨D0,hc0,hd0,hgo⟩:=hA1.go0;have HG:=za (hc0.getHit HT64.out (by have:=HK.out;omega) O2.out HL.out HU.out);have HGo:=za (fun w2 (hg:yv NoF w1 D0 p0 t0' w2)=>(hgo hg:zH w1 D1 q p0 p1 ex dm n t0' (zv t1 te) w2));have HM1:=za hm1;have HG1:=za hg1;clear hA1 hc0 hd0 hgo hm1 hg1;obtain⟨hb_0,hb_1,hb_2,hb_3,hb_4,hb_f,hb_l,H_hb⟩:=cr5 hb;clear hb
  go_wp2_with (go_at_call 23;refine HG.out.mono ?_;rintro e w2 ⟨va,vn,vc,rfl,hby,hg2⟩)
  obtain⟨D2,hA2,hm2,hgr2⟩:=HGo.out w2 hg2;refine leaves_cons (f:=20) (args:=#[lkP q,.int .u64 te]) (by simp) (by simp[go_sem]) ?_;refine(Yu hA2 HT64.out O4.out O6.out .returning).mono ?_;rintro e u' w' ⟨rfl,rfl,hk⟩;have hm3:Mod D2 w2 w':=by obtain⟨D3,_,h,_⟩:=hk;exact h
  exact⟨.tuple #[.slice va vn vc,.int .i64 1,.int .i64 0],by simp[results,results8,go_sem],va,vn,vc,rfl,yj.bytes hby hm3 (fun k hk=>hA2.nob hk),zH.trans HM1.out HG1.out (zH.trans hm2 hgr2 hk)⟩
end
section
variable{w w':World}{q p0 p1 n c p:Nat}{ex dm:Bool}{a:Option Addr}{D:Nat→Prop}{t t0 t1:Bst}
def YO(Q:Exit→Act→World→Prop):Exit→Act→World→Prop
 | .panic _,_,_=>False
 | e,a,w=>Q e a w
theorem YO.le{Q:Exit→Act→World→Prop}{e:Exit}{a:Act}{w:World}(h:YO Q e a w):Q e a w:=by
 cases e<;>first | exact h | exact h.elim
theorem YO.normal{Q:Exit→Act→World→Prop}{a:Act}{w:World}(h:Q .normal a w):YO Q .normal a w:=h
theorem zH.keep{q p0 p1 n:Nat}{ex dm:Bool}{t0 t1:Bst}{w w':World}{D:Nat→Prop}(h:zH w D q p0 p1 ex dm n t0 t1 w') : ∃ D',yj w' D' q p0 p1 ex dm n t0 t1∧Mod D w w'∧zZ D D' w:=h
theorem zfk(h:yj w D q p0 p1 ex dm n t0 t1){tt te k:Nat}{key:ByteArray}(o1:kN t0 t1 tt=true)(hte:tmT t0 t1 tt=te)(hk:key.size≤1000)(o2:yU key (zv t0 te)=0)(o3:yU key (zv t1 te)=0)(hl:vg (zv t0 te) te key=none)(hl1:vg (zv t1 te) te key=none){t0' t1':Bst}(hu:zv (zv t0 te) te=t0')(hu1:zv (zv t1 te) te=t1')(o4:kg dm te t1' t0'.evs=true)(o5:uJ dm te t0' t1'=k)(o6:n+k≤1000000) :
    Calls prog 8 #[lkP q,.int .u64 tt,.string key] w fun e w'=>e=.returned (.tuple #[.slice none 0 0,.int .i64 0,.int .i64 0])∧zH w D q p0 p1 ex dm (n+k) (vo dm te t0' t1').1 (vo dm te t0' t1').2 w':=by
  have hte64:te≤18446744073709551615:=by rw[← hte];exact Xe o1
  have HMay:=za (YU h hk (VZ o2));have HAdv:=za (Xr h o1 hte);subst o5;have HT64:=za hte64;have O2:=za o2;have O3:=za o3;have O4:=za o4;have O6:=za o6;have HL:=za hl;have HL1:=za hl1;have HU:=za hu;have HU1:=za hu1;have HK:=za hk;clear h o1 o2 o3 o4 o6 hte hte64 hl hl1 hu hu1 hk
  go_enter_defers func8,ntmps8
  go_upto_region 6 with(first
    | (go_at_call 18;refine HMay.out.mono ?_;rintro e w' ⟨rfl,rfl⟩)
    | (go_at_call 19;refine HAdv.out.mono ?_;rintro e w1 ⟨rfl,D1,hA1,hm1,hg1⟩))
  obtain⟨a,c,hb⟩:=hA1.box;obtain⟨C0,hc0,hd0,hgo⟩:=hA1.go0;have HG:=za (hc0.getMiss HT64.out (by have:=HK.out;omega) O2.out HL.out HU.out);have HGo:=za (fun w2 (hg:yv NoF w1 C0 p0 t0' w2)=>(hgo hg:zH w1 D1 q p0 p1 ex dm n t0' (zv t1 te) w2));have HM1:=za hm1;have HG1:=za hg1;clear hA1 hc0 hd0 hgo hm1 hg1;obtain⟨hb_0,hb_1,hb_2,hb_3,hb_4,hb_f,hb_l,H_hb⟩:=cr5 hb;clear hb;go_upto_region 9 with(go_at_call 23;refine HG.out.mono ?_;rintro e w2 ⟨rfl,hg2⟩)
  clear hb_0 hb_1 hb_2 hb_3 hb_4 hb_f hb_l;clear H_hb HG;obtain⟨D2,hA2,hm2,hgr2⟩:=HGo.out w2 hg2;obtain⟨a2,c2,hx⟩:=hA2.box;obtain⟨C1,hc1,hd1,hgo1⟩:=hA2.go1;have HPk:=za (hc1.peekMiss HT64.out (by have:=HK.out;omega) O3.out HL1.out);rw[HU1.out]at HPk;have HGo1:=za (fun w3 (hg:yv NoF w2 C1 p1 t1' w3)=>(hgo1 hg:zH w2 D2 q p0 p1 ex dm n t0' t1' w3));have HM2:=za hm2;have HG2:=za hgr2;clear hA2 hc1 hd1 hgo1 hm2 hgr2 hg2 HGo;obtain⟨hx_0,hx_1,hx_2,hx_3,hx_4,hx_f,hx_l,H_hx⟩:=cr5 hx;clear hx
  go_wp2_with (go_at_call 24;refine HPk.out.mono ?_;rintro e w3 ⟨rfl,hg3⟩)
  have h3:=(HGo1.out w3 hg3).pureR ((Mod.refl (fun _=>False) w3).alloc (.cells #[.string ⟨#[]⟩,.slice none 0 0,.int .u64 0,.int .u64 0] 70));obtain⟨D3,hA3,hm3,hgr3⟩:=h3.keep;refine leaves_cons (f:=20) (args:=#[lkP q,.int .u64 te]) (by simp) (by simp[go_sem]) ?_;refine(Yu hA3 HT64.out O4.out O6.out .returning).mono ?_;rintro e u' w' ⟨rfl,rfl,hk⟩;exact⟨.tuple #[.slice none 0 0,.int .i64 0,.int .i64 0],by simp[results,results8,go_sem],rfl,zH.trans HM1.out HG1.out (zH.trans HM2.out HG2.out (zH.trans hm3 hgr3 hk))⟩
def YH(ex:Bool)(t0 t1:Bst)(te:Nat)(key:ByteArray):Bst:=if (vg t0 te key).isSome=true∧ex=true then(vW t1 te key).2 else(UK t1 te key).2
theorem Az37z {P:Prop}(h:P:=by
 clear hx7_0 hx7_1 hx7_2 hx7_3 hx7_4 hx7_f hx7_l;clear H_hx7 HDl HC7;obtain⟨hr8,D8,hA8,hby8,hGo8⟩:=HEnd.out w8 hg8;have HCl:=za (XU va vn vc (zJ x.val) w8 (zW.read hby8 (uQ _)) hvb);have HA8:=za hA8;clear hA8 hby8 HEnd hg8
 go_wp2_with (go_at_call 26;refine HCl.out.mono ?_;rintro e w9 ⟨a9,n9,c9,rfl,hr9,hf9,hp9⟩)
 refine leaves_cons (f:=20) (args:=#[lkP q,.int .u64 te]) (by simp) (by simp[go_sem]) ?_;refine(Yu (HA8.out.pure hp9) HT64.out O4.out O6.out .returning).mono ?_;rintro e u' w' ⟨rfl,rfl,hk⟩;have hm9:Mod D8 w9 w':=by obtain⟨D9,_,h,_⟩:=hk;exact h
 exact⟨.tuple #[.slice a9 n9 c9,.int .i64 2,.int .i64 0],by simp[results,results8,go_sem],a9,n9,c9,rfl,yj.bytes (qD hr9) hm9 (fun k hk=>(HA8.out.pure hp9).nob hk),hGo8 (zH.pureL hp9 hk)⟩):P:=h
theorem zeM(h:yj w D q p0 p1 ex dm n t0 t1){tt te k:Nat}{x:CE}(o1:kN t0 t1 tt=true)(hte:tmT t0 t1 tt=te)(hk:x.key.size≤1000)(o2:yU x.key (zv t0 te)=0)(o3:yU x.key (zv t1 te)=0)(hl:vg (zv t0 te) te x.key=none)(hl1:vg (zv t1 te) te x.key=some x){a1 a2 a3 b1 b2:Bst}(ha1:zv (zv t0 te) te=a1)(hb1:zv (zv t1 te) te=b1)(ha2:Zx a1 te x=a2)(ha3:zv a2 te=a3)(hb2:YH ex a2 b1 te x.key=b2)(o7:qV a1 x=true)(o8:yU x.key a2=0)(o9:yU x.key b1=0)
    (o4:kg dm te b2 a3.evs=true) (o5:uJ dm te a3 b2=k) (o6:n+k≤1000000) :
    Calls prog 8 #[lkP q,.int .u64 tt,.string x.key] w fun e w' => ∃ a m c,e=.returned (.tuple #[.slice a m c,.int .i64 2,.int .i64 0])∧zW w' (.slice a m c) (zJ x.val)∧zH w D q p0 p1 ex dm (n+k) (vo dm te a3 b2).1 (vo dm te a3 b2).2 w':=by
  have hte64:te≤18446744073709551615:=by rw[← hte];exact Xe o1
  have HMay:=za (YU h hk (VZ o2));have HAdv:=za (Xr h o1 hte);subst o5;have HT64:=za hte64;have O2:=za o2;have O3:=za o3;have O4:=za o4;have O6:=za o6;have O7:=za o7;have O8:=za o8;have O9:=za o9;have HL:=za hl;have HL1:=za hl1;have HA1:=za ha1;have HB1:=za hb1;have HA2:=za ha2;have HA3:=za ha3;have HB2:=za hb2;have HK:=za hk;clear h o1 o2 o3 o4 o6 o7 o8 o9 hte hte64 hl hl1 ha1 hb1 ha2 ha3 hb2 hk
  go_enter_defers func8,ntmps8
  go_upto_region 6 with(first
    | (go_at_call 18;refine HMay.out.mono ?_;rintro e w' ⟨rfl,rfl⟩)
    | (go_at_call 19;refine HAdv.out.mono ?_;rintro e w1 ⟨rfl,D1,hA1,hm1,hg1⟩))
  obtain⟨a,c,hb⟩:=hA1.box;obtain⟨C0,hc0,hd0,hgo⟩:=hA1.go0;have HG:=za (hc0.getMiss HT64.out (by have:=HK.out;omega) O2.out HL.out HA1.out);have HGo:=za (fun w2 (hg:yv NoF w1 C0 p0 a1 w2)=>(hgo hg:zH w1 D1 q p0 p1 ex dm n a1 (zv t1 te) w2));have HM1:=za hm1;have HG1:=za hg1;clear hA1 hc0 hd0 hgo hm1 hg1;obtain⟨hb_0,hb_1,hb_2,hb_3,hb_4,hb_f,hb_l,H_hb⟩:=cr5 hb;clear hb;go_upto_region 9 with(go_at_call 23;refine HG.out.mono ?_;rintro e w2 ⟨rfl,hg2⟩)
  clear hb_0 hb_1 hb_2 hb_3 hb_4 hb_f hb_l;clear H_hb HG;obtain⟨D2,hA2,hm2,hgr2⟩:=HGo.out w2 hg2;obtain⟨c9,c2,hx⟩:=hA2.box;obtain⟨C1,hc1,hd1,hgo1⟩:=hA2.go1;have HPk:=za (hc1.peekHit HT64.out (by have:=HK.out;omega) O3.out HL1.out);rw[HB1.out]at HPk;have HGo1:=za (fun w3 (hg:yv NoF w2 C1 p1 b1 w3)=>(hgo1 hg:zH w2 D2 q p0 p1 ex dm n a1 b1 w3));have HM2:=za hm2;have HG2:=za hgr2;clear hA2 hc1 hd1 hgo1 hm2 hgr2 hg2 HGo;obtain⟨hx_0,hx_1,hx_2,hx_3,hx_4,hx_f,hx_l,H_hx⟩:=cr5 hx;clear hx;go_upto_region 12 with(go_at_call 24;refine HPk.out.mono ?_;rintro e w3 ⟨va,vn,vc,rfl,hby,hfr,hg3⟩)
  clear hx_0 hx_1 hx_2 hx_3 hx_4 hx_f hx_l;clear H_hx HPk;obtain⟨D3,hA3,hm3,hgr3⟩:=HGo1.out w3 hg3;have hvn:x.val.length=vn:=by
    obtain⟨va',vc',hv,_⟩:=jc hby;rw[ur]at hv;injection hv with _ hvn _
    exact hvn.symm
  have al4:zb w3 (w3.alloc (.cells #[.string x.key,.slice va vn vc,.int .u64 x.dl,.int .u64 x.birth] 70)):=(Mod.refl _ w3).alloc _;have z4:=zk (w:=w3) (o := .cells #[.string x.key,.slice va vn vc,.int .u64 x.dl,.int .u64 x.birth] 70 (0,0)) rfl;have hA4:=hA3.pure al4;have nr4 : ¬ D3 w3.heap.size:=fun e=>by have:=hA3.lt e;omega
  have hby4:=zz hby al4 (fun _ _ h=>h);have HGo3:Hid (∀ {n2:Nat} {u0 u1:Bst} {w9:World},zH (w3.alloc (.cells #[.string x.key,.slice va vn vc,.int .u64 x.dl,.int .u64 x.birth] 70)) D3 q p0 p1 ex dm n2 u0 u1 w9→zH w D q p0 p1 ex dm n2 u0 u1 w9):=za (fun hk=>zH.trans HM1.out HG1.out (zH.trans HM2.out HG2.out (zH.trans hm3 hgr3 (zH.pureL al4 hk))));clear hA3 hm3 hgr3 hg3 hby hfr HGo1 HM1 HG1 HM2 HG2 al4;generalize w3.alloc (.cells #[.string x.key,.slice va vn vc,.int .u64 x.dl,.int .u64 x.birth] 70)=W4 at *;generalize w3.heap.size=r at *;obtain⟨a4,c4,hx4⟩:=hA4.box;obtain⟨C4,hc4,hd4,hgo4⟩:=(hA4.pure (Mod.refl (fun _=>False) W4).drew).go0;have hby4d:zW W4.drew (.slice va vn vc) (zJ x.val):=zz hby4 (Mod.refl (fun _=>False) W4).drew (fun _ _ h=>h);have HKp:=za (zcZ hc4 (zW.read hby4d (uQ _)) (uW.of_bytes hby4d) hvn HT64.out O7.out);rw[HA2.out]at HKp;have HGo4:=za (fun w5 (hg:yv NoF W4.drew C4 p0 a2 w5)=>(hgo4 hg:zH W4.drew D3 q p0 p1 ex dm n a2 b1 w5));have HNob4:=za (fun k (hk:D3 k)=>hA4.nob hk);have HBY4:=za hby4d;have HZ4:=za z4;have HX4:=za hx4;have HN4:=za nr4;have HVN:=za hvn;have g0:=zi W4 q 2 _ _ (0,0) hx4;have g1:=zi W4 r 1 _ _ (0,0) z4;have g2:=zi W4 r 2 _ _ (0,0) z4;clear hA4 hc4 hd4 hgo4 hby4 hby4d z4 nr4 hvn hx4;refine Code.wp_mono (fun _ _ _ h=>YO.le h) ?_;refine rHd (S:=fun Y=>Y.cell? ⟨q,2,none⟩=some (lkP p0)∧Y.cell? ⟨r,1,none⟩=some (.slice va vn vc)∧Y.cell? ⟨r,2,none⟩=some (.int .u64 x.dl)) ⟨g0,g1,g2⟩ (fun h_ => ?_);clear g0 g1 g2;refine hTk 0 ?_;refine hTk 1 ?_;refine hTk 2 ?_;refine hTk 3 ?_;refine hLd 4 ?_;refine hTk 5 ?_;refine hTk 6 ?_;refine hTk 7 ?_;refine hLd 8 ?_;refine hTk 9 ?_;refine hLd 10 ?_
  (refine hSt 11 (fun K hK => ?_);go_simp;refine HKp.out.mono ?_;rintro e wc ⟨rfl,hg5⟩;obtain⟨D5,hA5,hm5,hgr5⟩:=HGo4.out wc hg5;obtain⟨a5,c5,hx5⟩:=hA5.box;have z5:=hm5.heap HN4.out HZ4.out;refine hK.out _ _ ?_ (fun h_ => ?_);(· exact⟨zi wc q 2 _ _ (0,0) hx5,zi wc r 1 _ _ (0,0) z5,zi wc r 2 _ _ (0,0) z5⟩);clear hK K;refine clA ?_)
  refine hDn ?_;clear h_;refine YO.normal ?_;have hby5:=yj.bytes HBY4.out hm5 (fun k hk=>HNob4.out k hk);have nr5 : ¬ D5 r:=zbB hgr5 (zm HZ4.out) HN4.out;have HGo5:Hid (∀ {n2:Nat} {u0 u1:Bst} {w9:World},zH wc D5 q p0 p1 ex dm n2 u0 u1 w9→zH w D q p0 p1 ex dm n2 u0 u1 w9):=za (fun hk=>HGo3.out (zH.pureL (Mod.refl (fun _=>False) W4).drew (zH.trans hm5 hgr5 hk)));obtain⟨C5,hc5,hd5,hgo5⟩:=hA5.go0;have HPk5:=za (hc5.peekAny HT64.out (by have:=HK.out;omega) O8.out);rw[HA3.out]at HPk5;have HGo5':=za (fun w6 (hg:yv NoF wc C5 p0 a3 w6)=>(hgo5 hg:zH wc D5 q p0 p1 ex dm n a3 b1 w6));have HNob5:=za (fun k (hk:D5 k)=>hA5.nob hk);have HBY5:=za hby5;have HZ5:=za z5;have HN5:=za nr5;clear hA5 hm5 hgr5 hg5 hby5 nr5 hc5 hd5 hgo5 z5 HGo3 HGo4 HNob4 HBY4 HZ4 HN4 HKp;obtain⟨hx5_0,hx5_1,hx5_2,hx5_3,hx5_4,hx5_f,hx5_l,H_hx5⟩:=cr5 hx5;clear hx5;go_upto_region 14 with(go_at_call 24;refine HPk5.out.mono ?_;rintro e w6 ⟨k2,v2,m2,c2,dl2,b6,rfl,hg6⟩)
  clear hx5_0 hx5_1 hx5_2 hx5_3 hx5_4 hx5_f hx5_l;clear H_hx5 HPk5;obtain⟨D6,hA6,hm6,hgr6⟩:=HGo5'.out w6 hg6;have al7:zb w6 (w6.alloc (.cells #[.string k2,.slice v2 m2 c2,.int .u64 dl2,.int .u64 b6] 70)):=(Mod.refl _ w6).alloc _;have hA7:=hA6.pure al7;have z7:=al7.heap (fun h=>h) (hm6.heap HN5.out HZ5.out);have nr7 : ¬ D6 r:=zbB hgr6 (zm HZ5.out) HN5.out;have hby7:=zz (yj.bytes HBY5.out hm6 (fun k hk=>HNob5.out k hk)) al7 (fun _ _ h=>h);have HGo7:Hid (∀ {n2:Nat} {u0 u1:Bst} {w9:World},zH (w6.alloc (.cells #[.string k2,.slice v2 m2 c2,.int .u64 dl2,.int .u64 b6] 70)) D6 q p0 p1 ex dm n2 u0 u1 w9→zH w D q p0 p1 ex dm n2 u0 u1 w9):=za (fun hk=>HGo5.out (zH.trans hm6 hgr6 (zH.pureL al7 hk)));clear hA6 hm6 hgr6 hg6 al7 HGo5 HGo5' HNob5 HBY5 HZ5 HN5;generalize w6.alloc (.cells #[.string k2,.slice v2 m2 c2,.int .u64 dl2,.int .u64 b6] 70)=W7 at *;obtain⟨a7,c7,hx7⟩:=hA7.box;obtain⟨C7,hc7,hd7,hgo7⟩:=hA7.go1;have HNob7:=za (fun k (hk:D6 k)=>hA7.nob hk);have HZ7:=za z7;have HN7:=za nr7;have HBY7:=za hby7
  -- the rest, behind the second cache's call
  have HEnd:Hid (∀ w8,yv NoF W7 C7 p1 b2 w8→w8.cell? ⟨r,1,none⟩=some (.slice va vn vc) ∧ ∃ D8,yj w8 D8 q p0 p1 ex dm n a3 b2∧zW w8 (.slice va vn vc) (zJ x.val) ∧ ∀ {n2:Nat} {u0 u1:Bst} {w9:World},zH w8 D8 q p0 p1 ex dm n2 u0 u1 w9→zH w D q p0 p1 ex dm n2 u0 u1 w9):=za (fun w8 hg=>by
    obtain⟨D8,hA8,hm8,hgr8⟩:=(hgo7 hg:zH W7 D6 q p0 p1 ex dm n a3 b2 w8);exact⟨zi w8 r 1 _ _ (0,0) (hm8.heap HN7.out HZ7.out),D8,hA8,yj.bytes HBY7.out hm8 (fun k hk=>HNob7.out k hk),fun hk=>HGo7.out (zH.trans hm8 hgr8 hk)⟩)
  have HC7:=za hc7;have HB:=HB2.out;unfold YH at HB;clear hA7 z7 nr7 hby7 hc7 hd7 hgo7 HGo7 HNob7 HZ7 HN7 HBY7;obtain⟨hx7_0,hx7_1,hx7_2,hx7_3,hx7_4,hx7_f,hx7_l,H_hx7⟩:=cr5 hx7;clear hx7;have hvb:vn≤140737488355328:=by have h9:=(QC O7.out).2.2.2.1;have:=HVN.out;omega
  obtain⟨is,his⟩:=zf ((vg a2 te x.key).isSome);rw[his]at HB ⊢;clear his;by_cases hc:is=true∧ex=true
  · rw[zj hc]at HB
    obtain⟨rfl,rfl⟩:=hc;have HDl:=za (HC7.out.del HT64.out (by have:=HK.out;omega) O9.out);rw[HB]at HDl;clear HB;go_upto_region 17 with(go_at_call 22;refine HDl.out.mono ?_;rintro e w8 ⟨rfl,hg8⟩)
    exact Az37z
  · rw[zh hc]at HB
    have HDl:=za (HC7.out.get HT64.out (by have:=HK.out;omega) O9.out);unfold zcu at HDl;rw[HB]at HDl;clear HB;have hbv:is=false∨(is=true∧ex=false):=by
      cases is with
      | false=>exact .inl rfl
      | true=>exact .inr ⟨rfl,by cases hx:ex with
        | false=>rfl
        | true=>exact absurd ⟨rfl,hx⟩ hc⟩
    clear hc;rcases hbv with rfl | ⟨rfl,rfl⟩
    all_goals
      go_upto_region 17 with(go_at_call 23;refine HDl.out.mono ?_;rintro e w8 ⟨g1,g2,g3,rfl,_,hg8⟩)
      exact Az37z
end
end
section
open Go.RowKit Go.Shelf
attribute [local go_sem high] zcU zci
section
variable{w w':World}{q p0 p1 n c p:Nat}{ex dm:Bool}{a:Option Addr}{D:Nat→Prop}{t t0 t1:Bst}
theorem yj.del0(h:yj w D q p0 p1 ex dm n t0 t1){te:Nat}(ht:te≤18446744073709551615){key:ByteArray}(hk:key.size≤1000)(hr:yU key t0=0){is:Bool}{t':Bst}(hd:vW t0 te key=(is,t')):Calls prog 22 #[lkP p0,.int .u64 te,.string key] w fun e w'=>e=.returned (.tuple #[.bool is,.int .i64 0])∧zH w D q p0 p1 ex dm n t' t1 w':=by
 obtain⟨D0,g,_,hg⟩:=h.go0;refine(g.del ht (by omega) hr).mono ?_;rw[hd];rintro e w' ⟨rfl,k⟩;exact⟨rfl,hg k⟩
theorem yj.del1(h:yj w D q p0 p1 ex dm n t0 t1){te:Nat}(ht:te≤18446744073709551615){key:ByteArray}(hk:key.size≤1000)(hr:yU key t1=0){is:Bool}{t':Bst}(hd:vW t1 te key=(is,t')):Calls prog 22 #[lkP p1,.int .u64 te,.string key] w fun e w'=>e=.returned (.tuple #[.bool is,.int .i64 0])∧zH w D q p0 p1 ex dm n t0 t' w':=by
 obtain⟨D0,g,_,hg⟩:=h.go1;refine(g.del ht (by omega) hr).mono ?_;rw[hd];rintro e w' ⟨rfl,k⟩;exact⟨rfl,hg k⟩
def XA(is0 is1:Bool):Int:=if is0=true then 1 else if is1=true then 2 else 0
theorem Az8jy {P:Prop}(h:P:=by
 go_wp2_with (go_at_call 22;refine HD1.out.mono ?_;rintro e w2 ⟨rfl,hg2⟩)
 go_roundw
 case rel=>exact .inr (.inr ⟨by first | rfl | go_num,by rw[← HF.out];rfl,zH.trans HM.out HGR.out hg2⟩)
 case measure=>simp[intOf]):P:=h
theorem zfN(h:yj w D q p0 p1 ex dm n t0 t1){tt te k:Nat}{key:ByteArray}(o1:kN t0 t1 tt=true)(hte:tmT t0 t1 tt=te)(hk:key.size≤1000)(o2:yU key (zv t0 te)=0)(o3:yU key (zv t1 te)=0){is0 is1:Bool}{t0' t1':Bst}(h0:vW (zv t0 te) te key=(is0,t0'))(h1:vW (zv t1 te) te key=(is1,t1'))(o4:kg dm te t1' t0'.evs=true)(o5:uJ dm te t0' t1'=k)(o6:n+k≤1000000){fr:Int}(hf:XA is0 is1=fr) :
    Calls prog 9 #[lkP q,.int .u64 tt,.string key] w fun e w'=>e=.returned (.tuple #[.int .i64 fr,.int .i64 0])∧zH w D q p0 p1 ex dm (n+k) (vo dm te t0' t1').1 (vo dm te t0' t1').2 w':=by
  have hte64:te≤18446744073709551615:=by rw[← hte];exact Xe o1
  have HMay:=za (YU h hk (VZ o2));have HAdv:=za (Xr h o1 hte);subst o5;have HT64:=za hte64;have O2:=za o2;have O3:=za o3;have O4:=za o4;have O6:=za o6;have H0:=za h0;have H1:=za h1;have HF:=za hf;have HK:=za hk;clear h o1 o2 o3 o4 o6 hte hte64 h0 h1 hf hk
  go_enter_defers func9,ntmps9
  go_upto_region 6 with(first
    | (go_at_call 18;refine HMay.out.mono ?_;rintro e w' ⟨rfl,rfl⟩)
    | (go_at_call 19;refine HAdv.out.mono ?_;rintro e w1 ⟨rfl,D1,hA1,hm1,hg1⟩))
  obtain⟨a,c,hb⟩:=hA1.box;have HD0:=za (hA1.del0 HT64.out HK.out O2.out H0.out);have HM1:=za hm1;have HG1:=za hg1;clear hA1 hm1 hg1;obtain⟨hb_0,hb_1,hb_2,hb_3,hb_4,hb_f,hb_l,H_hb⟩:=cr5 hb;clear hb;go_upto_region 7 with fail
  clear hb_0 hb_1 hb_2 hb_3 hb_4 hb_f hb_l;clear H_hb;go_loopw [6,28] (fun v6 v28 wr=>(v28=.int .i64 0∧v6=.int .i64 0∧wr=w1)∨(v28=.int .i64 1∧v6=.int .i64 (XA is0 false)∧zH w1 D1 q p0 p1 ex dm n t0' (zv t1 te) wr)∨(v28=.int .i64 2∧v6=.int .i64 fr∧zH w1 D1 q p0 p1 ex dm n t0' t1' wr)) (fun _ v28 _=>2-(intOf v28).toNat)
  case atStart=>exact .inl ⟨rfl,rfl,rfl⟩
  case round =>
    rcases hrel with⟨rfl,rfl,rfl⟩ | ⟨rfl,rfl,hg⟩ | ⟨rfl,rfl,hg⟩
    · cases is0
      all_goals
        go_wp2_with (go_at_call 22;refine HD0.out.mono ?_;rintro e w2 ⟨rfl,hg2⟩)
        go_roundw
        case rel=>exact .inr (.inl ⟨by first | rfl | go_num,by first | rfl | go_num,hg2⟩)
        case measure=>simp[intOf]
    · have HG:=za hg
      obtain⟨D2,g1,g2,g3⟩:=hg;have HD1:=za (g1.del1 HT64.out HK.out O3.out H1.out);have HM:=za g2;have HGR:=za g3;clear g1 g2 g3
      cases is0 with
      | false =>
        rw[show XA false false=0 from rfl]
        cases is1
        all_goals
          exact Az8jy
      | true =>
        rw[show XA true false=1 from rfl]
        cases is1
        all_goals
          exact Az8jy
    · obtain⟨D3,hA3,hm3,hgr3⟩:=zH.keep hg
      have HA3:=za hA3;have HM3:=za hm3;have HG3:=za hgr3;clear hg hA3 hm3 hgr3;go_wp2;refine leaves_cons (f:=20) (args:=#[lkP q,.int .u64 te]) (by simp) (by simp[go_sem]) ?_;refine(Yu HA3.out HT64.out O4.out O6.out .returning).mono ?_;rintro e u' w' ⟨rfl,rfl,hk⟩;exact⟨.tuple #[.int .i64 fr,.int .i64 0],by simp[results,results9,go_sem],rfl,zH.trans HM1.out HG1.out (zH.trans HM3.out HG3.out hk)⟩
end
end
section
open Go.RowKit Go.Shelf
def Vx(l:List UInt8):ByteArray:=⟨l.toArray⟩
def TiP(w0:World)(q p0 p1:Nat)(ex dm:Bool)(n:Nat)(t0 t1:Bst)(w:World):Prop := ∃ D,yj w D q p0 p1 ex dm n t0 t1∧zb w0 w ∧ ∀ k,D k→w0.heap.size≤k
def Xq(dm:Bool)(t0 t1:Bst)(tt:Nat)(x:CE):Bst × Bst:=vo dm (tmT t0 t1 tt) (U1 (zv t0 (tmT t0 t1 tt)) (tmT t0 t1 tt) x) (zv t1 (tmT t0 t1 tt))
def Xx(dm:Bool)(t0 t1:Bst)(tt:Nat)(x:CE)(n k:Nat):Bool :=
 let te:=tmT t0 t1 tt
 let a:=U1 (zv t0 te) te x
 kN t0 t1 tt&&decide (x.key.size≤1000)&&decide (yU x.key (zv t0 te)=0)&&kg dm te (zv t1 te) a.evs&&decide (uJ dm te a (zv t1 te)=k)&&decide (n+k≤1000000)
def Y0(dm:Bool)(t0 t1:Bst)(tt:Nat):Bst × Bst:=vo dm (tmT t0 t1 tt) (zv (zv t0 (tmT t0 t1 tt)) (tmT t0 t1 tt)) (zv (zv t1 (tmT t0 t1 tt)) (tmT t0 t1 tt))
def Y3(dm:Bool)(t0 t1:Bst)(tt:Nat)(key:ByteArray)(n k:Nat):Bool :=
 let te:=tmT t0 t1 tt
 let a:=zv (zv t0 te) te
 let b:=zv (zv t1 te) te
 kN t0 t1 tt&&decide (key.size≤1000)&&decide (yU key (zv t0 te)=0)&&decide (yU key (zv t1 te)=0)&&kg dm te b a.evs&&decide (uJ dm te a b=k)&&decide (n+k≤1000000)
def YJ(t0 t1:Bst)(tt:Nat)(x:CE):Bst:=Zx (zv (zv t0 (tmT t0 t1 tt)) (tmT t0 t1 tt)) (tmT t0 t1 tt) x
def qW(ex dm:Bool)(t0 t1:Bst)(tt:Nat)(x:CE):Bst × Bst :=
 let te:=tmT t0 t1 tt
 vo dm te (zv (YJ t0 t1 tt x) te) (YH ex (YJ t0 t1 tt x) (zv (zv t1 te) te) te x.key)
def Zg(ex dm:Bool)(t0 t1:Bst)(tt:Nat)(x:CE)(n k:Nat):Bool :=
 let te:=tmT t0 t1 tt
 let a1:=zv (zv t0 te) te
 let b1:=zv (zv t1 te) te
 let a2:=YJ t0 t1 tt x
 let a3:=zv a2 te
 let b2:=YH ex a2 b1 te x.key
 kN t0 t1 tt&&decide (x.key.size≤1000)&&decide (yU x.key (zv t0 te)=0)&&decide (yU x.key (zv t1 te)=0)&&qV a1 x&&decide (yU x.key a2=0)&&decide (yU x.key b1=0)&&kg dm te b2 a3.evs&&decide (uJ dm te a3 b2=k)&&decide (n+k≤1000000)
def Vu(dm:Bool)(t0 t1:Bst)(tt:Nat)(key:ByteArray):Int × Bst × Bst :=
 let te:=tmT t0 t1 tt
 (XA (vW (zv t0 te) te key).1 (vW (zv t1 te) te key).1,vo dm te (vW (zv t0 te) te key).2 (vW (zv t1 te) te key).2)
def UF(dm:Bool)(t0 t1:Bst)(tt:Nat)(key:ByteArray)(n k:Nat):Bool :=
 let te:=tmT t0 t1 tt
 let a:=(vW (zv t0 te) te key).2
 let b:=(vW (zv t1 te) te key).2
 kN t0 t1 tt&&decide (key.size≤1000)&&decide (yU key (zv t0 te)=0)&&decide (yU key (zv t1 te)=0)&&kg dm te b a.evs&&decide (uJ dm te a b=k)&&decide (n+k≤1000000)
section
variable{w0 w w':World}{q p0 p1 n:Nat}{ex dm:Bool}{D:Nat→Prop}{t0 t1 t0' t1':Bst}
theorem TiP.pure(h:TiP w0 q p0 p1 ex dm n t0 t1 w)(hp:zb w w'):TiP w0 q p0 p1 ex dm n t0 t1 w':=by
 obtain⟨D,h1,h2,h3⟩:=h;exact⟨D,h1.pure hp,h2.trans hp,h3⟩
theorem TiP.go{k:Nat}(h:zb w0 w)(hD : ∀ k,D k→w0.heap.size≤k)(hg:zH w D q p0 p1 ex dm k t0' t1' w'):TiP w0 q p0 p1 ex dm k t0' t1' w':=by
 obtain⟨D2,g1,g2,g3⟩:=hg;exact⟨D2,g1,h.then g2 (fun i hi e=>by have:=hD i e;omega),fun k hk=>(g3 k hk).elim (hD k) (fun e=>zF h.size e)⟩
theorem za8(h:TiP w0 q p0 p1 ex dm n t0 t1 w){tt ttl vn vc k:Nat}{va:Option Addr}{key:ByteArray}{vs:List UInt8}(hv:zr w (.slice va vn vc) 1 (zJ vs))(hb:uW w (.slice va vn vc))(hn:vs.length=vn)(ok:kO ex dm t0 t1 tt key vs ttl n k=true){er:Int}(hr:kW ex dm t0 t1 tt key vs ttl=(er,t0',t1')) :
  Calls prog 7 #[lkP q,.int .u64 tt,.string key,.slice va vn vc,.int .u64 ttl] w fun e w'=>e=.returned (.int .i64 er)∧TiP w0 q p0 p1 ex dm (n+k) t0' t1' w':=by
 obtain⟨D,h1,h2,h3⟩:=h;refine(zgD h1 hv hb hn ok hr).mono ?_;rintro e w' ⟨rfl,hg⟩;exact⟨rfl,TiP.go h2 h3 hg⟩
theorem zfO{v:Int}(x:UInt8)(hv:v=(x.toNat:Nat))(W:World):zr (W.alloc (.cells #[.int .u8 v] 5 (1,2))) (.slice (some ⟨W.heap.size,0,none⟩) 1 1) 1 (zJ [x]):=by
 subst hv;exact zr.of_block 1 1 1 (zk rfl) (by rfl) (by simp[Value.oneCell'])
theorem QJ{cs:Array Value}{fz:Nat × Nat}{n:Nat}(W:World):uW (W.alloc (.cells cs 5 fz)) (.slice (some ⟨W.heap.size,0,none⟩) n n):=fun g hg=>by
 unfold ui at hg;dsimp only at hg;split at hg
 ·cases hg
 ·cases hg;exact⟨cs,fz,zk rfl⟩
theorem Vy(h:TiP w0 q p0 p1 ex dm n t0 t1 w){tt ttl k:Nat}{key:ByteArray}(x:UInt8){v:Int}(hv:v=(x.toNat:Nat))(ok:kO ex dm t0 t1 tt key [x] ttl n k=true){er:Int}(hr:kW ex dm t0 t1 tt key [x] ttl=(er,t0',t1')) :
  Calls prog 7 #[lkP q,.int .u64 tt,.string key,.slice (some ⟨w.heap.size,0,none⟩) 1 1,.int .u64 ttl] (w.alloc (.cells #[.int .u8 v] 5 (1,2))) fun e w'=>e=.returned (.int .i64 er)∧TiP w0 q p0 p1 ex dm (n+k) t0' t1' w' :=
 za8 (h.pure ((Mod.refl _ w).alloc _)) (zfO x hv w) (QJ w) rfl ok hr
theorem K6{P:World→Prop}{pv:Value}{tt:Nat}{key:ByteArray}{vs:List UInt8}{fr:Int}(h:Calls prog 8 #[pv,.int .u64 tt,.string key] w fun e w' => ∃ a n c,e=.returned (.tuple #[.slice a n c,.int .i64 fr,.int .i64 0])∧zr w' (.slice a n c) 1 (zJ vs)∧P w') :
  Calls prog 15 #[pv,.int .u64 tt,.string key,.string (Vx vs),.int .i64 fr] w fun e w'=>e=.returned (.bool true)∧P w':=by
 have H:=za h;unfold Vx;clear h;go_enter func15,ntmps15
 go_wp2_with (go_at_call 8;refine H.out.mono ?_;rintro e w1 ⟨a,n,c,rfl,hr,hP⟩;have k1:=zcN vs hr)
 go_ret;exact⟨by simp,hP⟩
theorem zd3{P:World→Prop}{pv:Value}{tt:Nat}{key:ByteArray}{fr:Int}(h:Calls prog 9 #[pv,.int .u64 tt,.string key] w fun e w'=>e=.returned (.tuple #[.int .i64 fr,.int .i64 0])∧P w') :
  Calls prog 16 #[pv,.int .u64 tt,.string key,.int .i64 fr] w fun e w'=>e=.returned (.bool true)∧P w':=by
 have H:=za h;clear h;go_enter func16,ntmps16
 go_wp2_with (go_at_call 9;refine H.out.mono ?_;rintro e w1 ⟨rfl,hP⟩)
 go_ret;exact⟨by simp,hP⟩
theorem zdh(h:TiP w0 q p0 p1 ex dm n t0 t1 w){tt k:Nat}{x:CE}(ok:Xx dm t0 t1 tt x n k=true)(hl:vg (zv t0 (tmT t0 t1 tt)) (tmT t0 t1 tt) x.key=some x)(hr:Xq dm t0 t1 tt x=(t0',t1')) :
  Calls prog 8 #[lkP q,.int .u64 tt,.string x.key] w fun e w' => ∃ a m c,e=.returned (.tuple #[.slice a m c,.int .i64 1,.int .i64 0])∧zW w' (.slice a m c) (zJ x.val)∧TiP w0 q p0 p1 ex dm (n+k) t0' t1' w':=by
 obtain⟨D,h1,h2,h3⟩:=h;unfold Xx at ok;simp only[Bool.and_eq_true,decide_eq_true_eq]at ok;obtain⟨⟨⟨⟨⟨o1,o2⟩,o3⟩,o4⟩,o5⟩,o6⟩:=ok;refine(zis h1 o1 rfl o2 o3 hl rfl o4 o5 o6).mono ?_;rintro e w' ⟨a,m,c,rfl,hby,hg⟩;unfold Xq at hr;rw[hr]at hg;exact⟨a,m,c,rfl,hby,TiP.go h2 h3 hg⟩
theorem zhn(h:TiP w0 q p0 p1 ex dm n t0 t1 w){tt k:Nat}{key:ByteArray}(ok:Y3 dm t0 t1 tt key n k=true)(hl:vg (zv t0 (tmT t0 t1 tt)) (tmT t0 t1 tt) key=none)(hl1:vg (zv t1 (tmT t0 t1 tt)) (tmT t0 t1 tt) key=none)(hr:Y0 dm t0 t1 tt=(t0',t1')) :
  Calls prog 8 #[lkP q,.int .u64 tt,.string key] w fun e w'=>e=.returned (.tuple #[.slice none 0 0,.int .i64 0,.int .i64 0])∧TiP w0 q p0 p1 ex dm (n+k) t0' t1' w':=by
 obtain⟨D,h1,h2,h3⟩:=h;unfold Y3 at ok;simp only[Bool.and_eq_true,decide_eq_true_eq]at ok;obtain⟨⟨⟨⟨⟨⟨o1,o2⟩,o3⟩,o7⟩,o4⟩,o5⟩,o6⟩:=ok;refine(zfk h1 o1 rfl o2 o3 o7 hl hl1 rfl rfl o4 o5 o6).mono ?_;rintro e w' ⟨rfl,hg⟩;unfold Y0 at hr;rw[hr]at hg;exact⟨rfl,TiP.go h2 h3 hg⟩
theorem zdd(h:TiP w0 q p0 p1 ex dm n t0 t1 w){tt k:Nat}{x:CE}(ok:Zg ex dm t0 t1 tt x n k=true)(hl:vg (zv t0 (tmT t0 t1 tt)) (tmT t0 t1 tt) x.key=none)(hl1:vg (zv t1 (tmT t0 t1 tt)) (tmT t0 t1 tt) x.key=some x)(hr:qW ex dm t0 t1 tt x=(t0',t1')) :
  Calls prog 8 #[lkP q,.int .u64 tt,.string x.key] w fun e w' => ∃ a m c,e=.returned (.tuple #[.slice a m c,.int .i64 2,.int .i64 0])∧zW w' (.slice a m c) (zJ x.val)∧TiP w0 q p0 p1 ex dm (n+k) t0' t1' w':=by
 obtain⟨D,h1,h2,h3⟩:=h;unfold Zg at ok;simp only[Bool.and_eq_true,decide_eq_true_eq]at ok;obtain⟨⟨⟨⟨⟨⟨⟨⟨⟨o1,o2⟩,o3⟩,o7⟩,o8⟩,o9⟩,o10⟩,o4⟩,o5⟩,o6⟩:=ok;refine(zeM h1 o1 rfl o2 o3 o7 hl hl1 rfl rfl rfl rfl rfl o8 o9 o10 o4 o5 o6).mono ?_;rintro e w' ⟨a,m,c,rfl,hby,hg⟩;unfold qW at hr;unfold YJ at hr;dsimp only at hr;rw[hr]at hg;exact⟨a,m,c,rfl,hby,TiP.go h2 h3 hg⟩
theorem zcY(h:TiP w0 q p0 p1 ex dm n t0 t1 w){tt k:Nat}{key:ByteArray}(ok:UF dm t0 t1 tt key n k=true){fr:Int}(hr:Vu dm t0 t1 tt key=(fr,t0',t1')) :
  Calls prog 16 #[lkP q,.int .u64 tt,.string key,.int .i64 fr] w fun e w'=>e=.returned (.bool true)∧TiP w0 q p0 p1 ex dm (n+k) t0' t1' w':=by
 obtain⟨D,h1,h2,h3⟩:=h;unfold UF at ok;unfold Vu at hr;dsimp only at ok hr;obtain⟨te,hte⟩:=zf (tmT t0 t1 tt);rw[hte]at ok hr;obtain⟨r0,hr0⟩:=zf (vW (zv t0 te) te key);obtain⟨r1,hr1⟩:=zf (vW (zv t1 te) te key);rw[hr0,hr1]at ok hr;obtain⟨i0,s0⟩:=r0;obtain⟨i1,s1⟩:=r1;dsimp only at ok hr;simp only[Bool.and_eq_true,decide_eq_true_eq]at ok;obtain⟨⟨⟨⟨⟨⟨o1,o2⟩,o3⟩,o7⟩,o4⟩,o5⟩,o6⟩:=ok;injection hr with e1 e2
 refine zd3 ((zfN h1 o1 hte o2 o3 o7 hr0 hr1 o4 o5 o6 e1).mono ?_);rintro e w' ⟨rfl,hg⟩;rw[e2]at hg;exact⟨rfl,TiP.go h2 h3 hg⟩
theorem ze7(h:TiP w0 q p0 p1 ex dm n t0 t1 w){tt k:Nat}{x:CE}(ok:Xx dm t0 t1 tt x n k=true)(hl:vg (zv t0 (tmT t0 t1 tt)) (tmT t0 t1 tt) x.key=some x)(hr:Xq dm t0 t1 tt x=(t0',t1')) :
  Calls prog 15 #[lkP q,.int .u64 tt,.string x.key,.string (Vx x.val),.int .i64 1] w fun e w'=>e=.returned (.bool true)∧TiP w0 q p0 p1 ex dm (n+k) t0' t1' w':=by
 refine K6 ((zdh h ok hl hr).mono ?_);rintro e w' ⟨a,m,c,rfl,hby,hP⟩;exact⟨a,m,c,rfl,zW.read hby (uQ _),hP⟩
theorem KZ(h:TiP w0 q p0 p1 ex dm n t0 t1 w){tt k:Nat}{x:CE}(ok:Zg ex dm t0 t1 tt x n k=true)(hl:vg (zv t0 (tmT t0 t1 tt)) (tmT t0 t1 tt) x.key=none)(hl1:vg (zv t1 (tmT t0 t1 tt)) (tmT t0 t1 tt) x.key=some x)(hr:qW ex dm t0 t1 tt x=(t0',t1')) :
  Calls prog 15 #[lkP q,.int .u64 tt,.string x.key,.string (Vx x.val),.int .i64 2] w fun e w'=>e=.returned (.bool true)∧TiP w0 q p0 p1 ex dm (n+k) t0' t1' w':=by
 refine K6 ((zdd h ok hl hl1 hr).mono ?_);rintro e w' ⟨a,m,c,rfl,hby,hP⟩;exact⟨a,m,c,rfl,zW.read hby (uQ _),hP⟩
theorem JH(h:TiP w0 q p0 p1 ex dm n t0 t1 w){tt k:Nat}{key:ByteArray}(ok:Y3 dm t0 t1 tt key n k=true)(hl:vg (zv t0 (tmT t0 t1 tt)) (tmT t0 t1 tt) key=none)(hl1:vg (zv t1 (tmT t0 t1 tt)) (tmT t0 t1 tt) key=none)(hr:Y0 dm t0 t1 tt=(t0',t1')) :
  Calls prog 15 #[lkP q,.int .u64 tt,.string key,.string ⟨#[]⟩,.int .i64 0] w fun e w'=>e=.returned (.bool true)∧TiP w0 q p0 p1 ex dm (n+k) t0' t1' w':=by
 refine K6 (vs:=[]) ((zhn h ok hl hl1 hr).mono ?_);rintro e w' ⟨rfl,hP⟩;exact⟨none,0,0,rfl,zbU _,hP⟩
end
theorem zfE(w:World)(hT:xb w)(ex dm:Bool):Calls prog 14 #[.agg #[.bool ex,.bool dm]] w fun e w' => ∃ q p0 p1,e=.returned (lkP q)∧TiP w q p0 p1 ex dm 0 (vf ⟨1,1000,0,0,false⟩) (vf ⟨2,1000,0,0,false⟩) w':=by
 have hal:zb w (w.alloc (.cells #[.bool ex,.bool dm] 31)):=(Mod.refl _ w).alloc _;have z:=zk (w:=w) (o := .cells #[.bool ex,.bool dm] 31 (0,0)) rfl;have HN:=za (zbp _ (hT.pure hal) ex dm (n0:=1) (b0:=1000) (s0:=0) (n1:=2) (b1:=1000) (s1:=0) (r0:=0) (r1:=0) (m0:=false) (m1:=false) ⟨by decide,by decide,by decide,by decide,by decide,by decide⟩ ⟨by decide,by decide,by decide,by decide,by decide,by decide⟩ (by decide) (by decide));have HP:=za hal;clear hal hT;go_enter func14,ntmps14;go_upto_region 1 with fail
 generalize w.alloc (.cells #[.bool ex,.bool dm] 31)=W1 at *;generalize w.heap.size=r at z ⊢;obtain⟨z_0,z_1,z_f,z_l,H_z⟩:=cr2 z;clear z
 go_wp2_with (go_at_call 6;refine HN.out.mono ?_;rintro e w2 ⟨q,p0,p1,D,rfl,h1,h2,h3⟩)
 go_ret;exact⟨q,p0,p1,rfl,D,h1,HP.out.trans h2,fun k hk=>zF HP.out.size (h3 k hk)⟩
def Xc:Bst:=vf ⟨1,1000,0,0,false⟩
def YY:Bst:=vf ⟨2,1000,0,0,false⟩
def VF:Bst:=⟨⟨1,1000,0,0,false⟩,0,1,[⟨⟨#[97]⟩,[65],18446744073709551615,1⟩],[⟨1,50⟩],[],[]⟩
def Uu:Bst:=⟨⟨2,1000,0,0,false⟩,0,0,[],[],[],[]⟩
def VG:Bst:=⟨⟨1,1000,0,0,false⟩,1,2,[⟨⟨#[98]⟩,[66],18446744073709551615,2⟩],[⟨2,50⟩],[],[]⟩
def VA:Bst:=⟨⟨2,1000,0,0,false⟩,1,1,[⟨⟨#[97]⟩,[65],18446744073709551615,1⟩],[⟨1,50⟩],[],[]⟩
def Vm:Bst:=⟨⟨1,1000,0,0,false⟩,2,3,[⟨⟨#[97]⟩,[65],18446744073709551615,3⟩],[⟨3,50⟩],[],[]⟩
def VK:Bst:=⟨⟨2,1000,0,0,false⟩,2,2,[⟨⟨#[98]⟩,[66],18446744073709551615,2⟩],[⟨2,50⟩],[],[]⟩
def UB:Bst:=⟨⟨1,1000,0,0,false⟩,2,4,[⟨⟨#[98]⟩,[66],18446744073709551615,4⟩],[⟨4,50⟩],[],[]⟩
def UJ:Bst:=⟨⟨2,1000,0,0,false⟩,2,3,[⟨⟨#[97]⟩,[65],18446744073709551615,3⟩],[⟨3,50⟩],[],[]⟩
def VI:Bst:=⟨⟨1,1000,0,0,false⟩,2,4,[⟨⟨#[98]⟩,[66],18446744073709551615,4⟩],[⟨4,50⟩],[],[]⟩
def Ug:Bst:=⟨⟨2,1000,0,0,false⟩,2,3,[⟨⟨#[97]⟩,[65],18446744073709551615,3⟩],[⟨3,50⟩],[],[]⟩
def Uf:Bst:=⟨⟨1,1000,0,0,false⟩,3,4,[],[],[],[]⟩
def Uc:Bst:=⟨⟨2,1000,0,0,false⟩,3,3,[⟨⟨#[97]⟩,[65],18446744073709551615,3⟩],[⟨3,50⟩],[],[]⟩
def Ux:Bst:=⟨⟨1,1000,0,0,false⟩,3,4,[],[],[],[]⟩
def UN:Bst:=⟨⟨2,1000,0,0,false⟩,3,3,[],[],[],[]⟩
def zbi:Bst:=⟨⟨1,1000,0,0,false⟩,3,4,[],[],[],[]⟩
def zda:Bst:=⟨⟨2,1000,0,0,false⟩,3,3,[],[],[],[]⟩
def Vv:Bst:=⟨⟨1,1000,0,0,false⟩,0,1,[⟨⟨#[97]⟩,[65],5,1⟩],[⟨1,50⟩],[],[]⟩
def Vc:Bst:=⟨⟨2,1000,0,0,false⟩,0,1,[⟨⟨#[97]⟩,[65],5,1⟩],[⟨1,50⟩],[],[]⟩
def VM:Bst:=⟨⟨1,1000,0,0,false⟩,1,2,[⟨⟨#[98]⟩,[66],18446744073709551615,2⟩],[⟨2,50⟩],[],[]⟩
def UP:Bst:=⟨⟨2,1000,0,0,false⟩,1,2,[⟨⟨#[97]⟩,[65],5,1⟩,⟨⟨#[98]⟩,[66],18446744073709551615,2⟩],[⟨1,50⟩,⟨2,50⟩],[],[]⟩
def Us:Bst:=⟨⟨1,1000,0,0,false⟩,2,3,[⟨⟨#[97]⟩,[65],5,3⟩],[⟨3,50⟩],[],[]⟩
def US:Bst:=⟨⟨2,1000,0,0,false⟩,2,2,[⟨⟨#[97]⟩,[65],5,1⟩,⟨⟨#[98]⟩,[66],18446744073709551615,2⟩],[⟨2,50⟩,⟨1,50⟩],[],[]⟩
def Vb:Bst:=⟨⟨1,1000,0,0,false⟩,4,3,[⟨⟨#[97]⟩,[65],5,3⟩],[⟨3,50⟩],[],[]⟩
def V5:Bst:=⟨⟨2,1000,0,0,false⟩,4,2,[⟨⟨#[97]⟩,[65],5,1⟩,⟨⟨#[98]⟩,[66],18446744073709551615,2⟩],[⟨2,50⟩,⟨1,50⟩],[],[]⟩
def zdO:Bst:=⟨⟨1,1000,0,0,false⟩,5,3,[],[],[],[]⟩
def QZ:Bst:=⟨⟨2,1000,0,0,false⟩,5,2,[⟨⟨#[98]⟩,[66],18446744073709551615,2⟩],[⟨2,50⟩],[],[]⟩
theorem tk1:kW true true Xc YY 0 ⟨#[97]⟩ [65] 0=(0,VF,Uu):=by kernel_rfl
theorem to1:kO true true Xc YY 0 ⟨#[97]⟩ [65] 0 0 0=true:=by kernel_rfl
theorem tk2:kW true true VF Uu 1 ⟨#[98]⟩ [66] 0=(0,VG,VA):=by kernel_rfl
theorem to2:kO true true VF Uu 1 ⟨#[98]⟩ [66] 0 0 1=true:=by kernel_rfl
theorem tk3:qW true true VG VA 2 ⟨⟨#[97]⟩,[65],18446744073709551615,1⟩=(Vm,VK):=by kernel_rfl
theorem to3:Zg true true VG VA 2 ⟨⟨#[97]⟩,[65],18446744073709551615,1⟩ 1 2=true:=by kernel_rfl
theorem tk4:qW true true Vm VK 2 ⟨⟨#[98]⟩,[66],18446744073709551615,2⟩=(UB,UJ):=by kernel_rfl
theorem to4:Zg true true Vm VK 2 ⟨⟨#[98]⟩,[66],18446744073709551615,2⟩ 3 2=true:=by kernel_rfl
theorem tk5:Y0 true UB UJ 2=(VI,Ug):=by kernel_rfl
theorem to5:Y3 true UB UJ 2 ⟨#[99]⟩ 5 0=true:=by kernel_rfl
theorem tk6:Vu true VI Ug 3 ⟨#[98]⟩=(1,Uf,Uc):=by kernel_rfl
theorem to6:UF true VI Ug 3 ⟨#[98]⟩ 5 1=true:=by kernel_rfl
theorem tk7:Vu true Uf Uc 3 ⟨#[97]⟩=(2,Ux,UN):=by kernel_rfl
theorem to7:UF true Uf Uc 3 ⟨#[97]⟩ 6 1=true:=by kernel_rfl
theorem tk8:Y0 true Ux UN 3=(zbi,zda):=by kernel_rfl
theorem to8:Y3 true Ux UN 3 ⟨#[97]⟩ 7 0=true:=by kernel_rfl
theorem tk9:kW false false Xc YY 0 ⟨#[97]⟩ [65] 5=(0,Vv,Vc):=by kernel_rfl
theorem to9:kO false false Xc YY 0 ⟨#[97]⟩ [65] 5 0 0=true:=by kernel_rfl
theorem zin:kW false false Vv Vc 1 ⟨#[98]⟩ [66] 0=(0,VM,UP):=by kernel_rfl
theorem zja:kO false false Vv Vc 1 ⟨#[98]⟩ [66] 0 0 1=true:=by kernel_rfl
theorem zd0:qW false false VM UP 2 ⟨⟨#[97]⟩,[65],5,1⟩=(Us,US):=by kernel_rfl
theorem zd9:Zg false false VM UP 2 ⟨⟨#[97]⟩,[65],5,1⟩ 1 1=true:=by kernel_rfl
theorem zjd:Xq false Us US 4 ⟨⟨#[97]⟩,[65],5,3⟩=(Vb,V5):=by kernel_rfl
theorem zie:Xx false Us US 4 ⟨⟨#[97]⟩,[65],5,3⟩ 2 0=true:=by kernel_rfl
theorem zhp:Y0 false Vb V5 5=(zdO,QZ):=by kernel_rfl
theorem zjn:Y3 false Vb V5 5 ⟨#[97]⟩ 2 2=true:=by kernel_rfl
theorem zaG(w:World)(hT:xb w):Calls prog 5 #[] w fun e w'=>e=.returned (.bool true)∧zb w w':=by
  have HM:=za (fun W (hW:zb w W) ex dm=>zfE W (hT.pure hW) ex dm);have hcv:=fun(W:World) (C:Array Value) (n c:Nat)=>Go.Lib.run_convert_bytes_const (P:=prog) W 34 5 C n c underlying34 underlying5
  clear hT;have T1:True:=trivial;have T2:True:=trivial;have T3:True:=trivial;have T4:True:=trivial;have T5:True:=trivial;have T6:True:=trivial;have T7:True:=trivial;have T8:True:=trivial;have T9:True:=trivial;have T10:True:=trivial;have T11:True:=trivial;have T12:True:=trivial;have T13:True:=trivial;go_enter func5,ntmps5;go_upto_region 2 with(go_at_call 14;refine(HM.out _ (Mod.refl _ _) true true).mono ?_;rintro e w1 ⟨q,p0,p1,rfl,hk⟩;have HK:Hid (TiP w q p0 p1 true true 0 Xc YY w1):=za hk;clear hk)
  go_upto_region 4 with(first
    | (go_at_call 7;clear T1;refine zq (Vy HK.out (tt:=0) (ttl:=0) (k:=0) 65 (by decide) to1 tk1) ?_;rintro e w' ⟨rfl,hk⟩;replace HK:Hid (TiP w q p0 p1 true true 0 VF Uu w'):=za hk;clear hk)
    | (go_at_call 7;clear T2;refine zq (Vy HK.out (tt:=1) (ttl:=0) (k:=1) 66 (by decide) to2 tk2) ?_;rintro e w' ⟨rfl,hk⟩;replace HK:Hid (TiP w q p0 p1 true true 1 VG VA w'):=za hk;clear hk)
    | (go_at_call 15;clear T3;refine zq (KZ HK.out (tt:=2) (k:=2) (x:=⟨⟨#[97]⟩,[65],18446744073709551615,1⟩) to3 (by kernel_rfl) (by kernel_rfl) tk3) ?_;rintro e w' ⟨rfl,hk⟩;replace HK:Hid (TiP w q p0 p1 true true 3 Vm VK w'):=za hk;clear hk)
    | (go_at_call 15;clear T4;refine zq (KZ HK.out (tt:=2) (k:=2) (x:=⟨⟨#[98]⟩,[66],18446744073709551615,2⟩) to4 (by kernel_rfl) (by kernel_rfl) tk4) ?_;rintro e w' ⟨rfl,hk⟩;replace HK:Hid (TiP w q p0 p1 true true 5 UB UJ w'):=za hk;clear hk)
    | (go_at_call 15;clear T5;refine zq (JH HK.out (tt:=2) (k:=0) to5 (by kernel_rfl) (by kernel_rfl) tk5) ?_;rintro e w' ⟨rfl,hk⟩;replace HK:Hid (TiP w q p0 p1 true true 5 VI Ug w'):=za hk;clear hk))
  go_upto_region 6 with(first
    | (go_at_call 16;clear T6;refine zq (zcY HK.out (tt:=3) (k:=1) to6 tk6) ?_;rintro e w' ⟨rfl,hk⟩;replace HK:Hid (TiP w q p0 p1 true true 6 Uf Uc w'):=za hk;clear hk)
    | (go_at_call 16;clear T7;refine zq (zcY HK.out (tt:=3) (k:=1) to7 tk7) ?_;rintro e w' ⟨rfl,hk⟩;replace HK:Hid (TiP w q p0 p1 true true 7 Ux UN w'):=za hk;clear hk)
    | (go_at_call 15;clear T8;refine zq (JH HK.out (tt:=3) (k:=0) to8 (by kernel_rfl) (by kernel_rfl) tk8) ?_;rintro e w' ⟨rfl,hk⟩;replace HK:Hid (TiP w q p0 p1 true true 7 zbi zda w'):=za hk;clear hk))
  have HP:Hid (zb w w'):=za (by obtain⟨D9,hk9⟩:=HK.out;exact hk9.2.1);clear HK;go_upto_region 7 with(go_at_call 14;refine(HM.out _ HP.out false false).mono ?_;rintro e w1 ⟨q,p0,p1,rfl,hk⟩;have HK:Hid (TiP _ q p0 p1 false false 0 Xc YY w1):=za hk;clear hk)
  go_wp2_with (first
    | (go_at_call 7;clear T9;refine zq (Vy HK.out (tt:=0) (ttl:=5) (k:=0) 65 (by decide) to9 tk9) ?_;rintro e w' ⟨rfl,hk⟩;replace HK:Hid (TiP _ q p0 p1 false false 0 Vv Vc w'):=za hk;clear hk)
    | (go_at_call 7;clear T10;refine zq (Vy HK.out (tt:=1) (ttl:=0) (k:=1) 66 (by decide) zja zin) ?_;rintro e w' ⟨rfl,hk⟩;replace HK:Hid (TiP _ q p0 p1 false false 1 VM UP w'):=za hk;clear hk)
    | (go_at_call 15;clear T11;refine zq (KZ HK.out (tt:=2) (k:=1) (x:=⟨⟨#[97]⟩,[65],5,1⟩) zd9 (by kernel_rfl) (by kernel_rfl) zd0) ?_;rintro e w' ⟨rfl,hk⟩;replace HK:Hid (TiP _ q p0 p1 false false 2 Us US w'):=za hk;clear hk)
    | (go_at_call 15;clear T12;refine zq (ze7 HK.out (tt:=4) (k:=0) (x:=⟨⟨#[97]⟩,[65],5,3⟩) zie (by kernel_rfl) zjd) ?_;rintro e w' ⟨rfl,hk⟩;replace HK:Hid (TiP _ q p0 p1 false false 2 Vb V5 w'):=za hk;clear hk)
    | (go_at_call 15;clear T13;refine zq (JH HK.out (tt:=5) (k:=2) zjn (by kernel_rfl) (by kernel_rfl) zhp) ?_;rintro e w' ⟨rfl,hk⟩;replace HK:Hid (TiP _ q p0 p1 false false 4 zdO QZ w'):=za hk;clear hk))
  go_ret;obtain⟨D9,hk9⟩:=HK.out;exact⟨rfl,HP.out.trans hk9.2.1⟩
end
end Go.Proofs.YtifbnponicgplaaGreatDoor
