/- Lemmas and contracts of functions. No condition. -/
import Derived.Test.YtpadepliilhmhaaGreatDoorJPfBoth2518
namespace Go.Proofs.YtpadepliilhmhaaGreatDoor
open _root_.Go.Proofs.Tryz
set_option maxRecDepth 100000
set_option maxHeartbeats 20000000
set_option linter.all false
section
open Go.RowKit Go.Shelf
def NoF:Nat→Prop:=fun _=>False
structure KnU(w0 w:World)(q p:Nat)(f:Nat→Bool)(pl:Nat→Nat)(D:Nat→Prop)(t:Bst):Prop where
 at_:yC NoF w D p t
 pu:zb w0 w
 ge : ∀ k,D k→w0.heap.size≤k
 cu:yD w q p f pl
 nd : ¬ D q
 gq:w0.heap.size≤q
 pos:0<w0.heap.size
section
variable{w0 w w':World}{q p:Nat}{f:Nat→Bool}{pl:Nat→Nat}{D:Nat→Prop}{t t':Bst}
theorem KnU.pure(h:KnU w0 w q p f pl D t)(hp:zb w w'):KnU w0 w' q p f pl D t:=⟨h.at_.pure hp,h.pu.trans hp,h.ge,hp.heap (fun h=>h) h.cu,h.nd,h.gq,h.pos⟩
def KuP(w0:World)(q p:Nat)(f:Nat→Bool)(pl:Nat→Nat)(t:Bst)(w:World):Prop := ∃ D,KnU w0 w q p f pl D t
theorem KuP.pure(h:KuP w0 q p f pl t w)(hp:zb w w'):KuP w0 q p f pl t w':=by
 obtain⟨D,h⟩:=h;exact⟨D,h.pure hp⟩
theorem KnU.goD(h:KnU w0 w q p f pl D t)(hg:uV NoF w D p t' w') : ∃ D',KnU w0 w' q p f pl D' t'∧Mod D w w' ∧ ∀ k,k<w.heap.size → ¬ D k → ¬ D' k:=by
 obtain⟨D2,g1,g2,g3⟩:=hg;have hn : ∀ k,k<w.heap.size → ¬ D k → ¬ D2 k:=fun k hk hd e=>(g3 k e).elim hd (fun e=>by omega)
 exact⟨D2,⟨g1,h.pu.then g2 (fun i hi e=>by have:=h.ge i e;omega),fun k hk=>(g3 k hk).elim (h.ge k) (fun e=>zJ h.pu.size e),g2.heap h.nd h.cu,hn q h.cu.lt h.nd,h.gq,h.pos⟩,g2,hn⟩
theorem KnU.go(h:KnU w0 w q p f pl D t)(hg:uV NoF w D p t' w'):KuP w0 q p f pl t' w':=by
 obtain⟨D2,g,_⟩:=h.goD hg;exact⟨D2,g⟩
theorem KnU.box{S:Nat→Prop}{f':Nat→Bool}{pl':Nat→Nat}(h:KnU w0 w q p f pl D t)(hm:Mod S w w')(hS : ∀ k,k<w.heap.size→S k→w0.heap.size≤k ∧ ¬ D k ∧ ∀ cs fz,w.heap[k]? ≠ some (.cells cs 5 fz))(hc:yD w' q p f' pl'):KnU w0 w' q p f' pl' D t :=
 ⟨h.at_.beside hm (fun k hk e=>(hS k (h.at_.lt hk) e).2.1 hk) (fun k hk e => .inr (hS k hk e).2.2) (fun e=>by have h1:=hS 0 (by have:=h.cu.lt;omega) e;have:=h.pos;omega),h.pu.then hm (fun i hi e=>by have h1:=hS i (by have:=h.pu.size;omega) e;omega),h.ge,hc,h.nd,h.gq,h.pos⟩
theorem KnU.qbox{f':Nat→Bool}{pl':Nat→Nat}(h:KnU w0 w q p f pl D t)(hm:Mod (fun k=>k=q) w w')(hc:yD w' q p f' pl'):KnU w0 w' q p f' pl' D t :=
 h.box hm (fun k hk e=>by subst e;exact⟨h.gq,h.nd,fun cs fz hb=>by have hcu:=h.cu;unfold yD at hcu;rw[hcu]at hb;injection hb with hb;injection hb with _ hb;exact absurd hb (by decide)⟩) hc
theorem U7(h:KuP w0 q p f pl t w){tt:Nat}{key:ByteArray}(ht:tt≤18446744073709551615)(he:Zv t key.size 0=0)(hb:t.births<16)(ht':jw t tt key [] (fun _=>18446744073709551615)=t') :
  Calls prog 17 #[lkP p,.int .u64 tt,.string key,.slice none 0 0] w fun e w'=>e=.returned (.int .i64 0)∧KuP w0 q p f pl t' w':=by
 obtain⟨D,h⟩:=h;refine(h.at_.Set ht he hb (zbZ w) (fun g hg=>by cases hg)).mono ?_;rintro e w' ⟨rfl,hg⟩;rw[ht']at hg;exact⟨rfl,h.go hg⟩
theorem zdh(h:KuP w0 q p f pl t w){tt ttl:Nat}{key:ByteArray}(ht:tt≤18446744073709551615)(hl:ttl≤18446744073709551615)(hl0:0<ttl)(hn:t.now≤18446744073709551615)(he:Zv t key.size 0=0)(hb:t.births<16)(ht':jw t tt key [] (fun q=>km q ttl)=t') :
  Calls prog 18 #[lkP p,.int .u64 tt,.string key,.slice none 0 0,.int .u64 ttl] w fun e w'=>e=.returned (.int .i64 0)∧KuP w0 q p f pl t' w':=by
 obtain⟨D,h⟩:=h;refine(h.at_.SetTTL ht hl hl0 he hb (zbZ w) (fun g hg=>by cases hg) hn).mono ?_;rintro e w' ⟨rfl,hg⟩;rw[ht']at hg;exact⟨rfl,h.go hg⟩
theorem zg4(h:KuP w0 q p f pl t w){n:Nat}(hn:t.now=n):Calls prog 21 #[lkP p] w fun e w'=>e=.returned (.int .u64 (n:Nat))∧w=w':=by
 obtain⟨D,h⟩:=h;rw[← hn];exact h.at_.now_
theorem zex(h:KuP w0 q p f pl t w){n:Nat}{f':Nat→Bool}{pl':Nat→Nat}(hn:ZT f=n)(h64:n<64)(hf':yT f n true=f')(hp':plN pl n 0=pl'):Calls prog 23 #[lkP q] w fun e w'=>e=.returned (.tuple #[.int .i64 (n:Nat),.int .i64 0])∧KuP w0 q p f' pl' t w':=by
 obtain⟨D,h⟩:=h;subst hf' hp';refine(zcK h.cu hn h64).mono ?_;rintro e w' ⟨rfl,hc,hm⟩;exact⟨rfl,D,h.qbox hm hc⟩
theorem zke(h:KuP w0 q p f pl t w){n b:Nat}{pl':Nat→Nat}(h64:n<64)(hf:f n=true)(hp':plN pl n b=pl'):Calls prog 13 #[lkP q,.int .i64 (n:Nat),.int .u64 (b:Nat)] w fun e w'=>e=.returned (.int .i64 0)∧KuP w0 q p f pl' t w':=by
 obtain⟨D,h⟩:=h;subst hp';refine(zdP h.cu h64 hf).mono ?_;rintro e w' ⟨rfl,hc,hm⟩;exact⟨rfl,D,h.qbox hm hc⟩
theorem zdx(h:KuP w0 q p f pl t w){n b:Int}(hf:vq f n=false):Calls prog 13 #[lkP q,.int .i64 n,.int .u64 b] w fun e w'=>e=.returned (.int .i64 9)∧w=w':=by
 obtain⟨D,h⟩:=h;exact zeI h.cu hf
theorem zj3(h:KuP w0 q p f pl t w){n:Nat}{f':Nat→Bool}(h64:n<64)(hf:f n=true)(hf':yT f n false=f'):Calls prog 9 #[lkP q,.int .i64 (n:Nat)] w fun e w'=>e=.returned (.int .i64 0)∧KuP w0 q p f' pl t w':=by
 obtain⟨D,h⟩:=h;subst hf';refine(zjY h.cu h64 hf).mono ?_;rintro e w' ⟨rfl,hc,hm⟩;exact⟨rfl,D,h.qbox hm hc⟩
theorem zkJ(h:KuP w0 q p f pl t w){n:Int}(hf:vq f n=false):Calls prog 9 #[lkP q,.int .i64 n] w fun e w'=>e=.returned (.int .i64 9)∧w=w':=by
 obtain⟨D,h⟩:=h;exact zfT h.cu hf
theorem za9(h:KuP w0 q p f pl t w){l:List Nat}(hl:qL f=l):Calls prog 10 #[lkP q] w fun e w' => ∃ a c,e=.returned (.slice a l.length c)∧zn w' (.slice a l.length c) 1 (vI l)∧KuP w0 q p f pl t w':=by
 have h9:=h;obtain⟨D,h⟩:=h;rw[← hl];refine(zfX h.cu).mono ?_;rintro e w' ⟨a,c,rfl,hr,hp⟩;exact⟨a,c,rfl,hr,h9.pure hp⟩
theorem zhP(h:KuP w0 q p f pl t w){n:Nat}(h64:n<64)(hf:f n=true){x:Nat}(hx:pl n=x):Calls prog 30 #[lkP q,.int .i64 (n:Nat)] w fun e w'=>e=.returned (.tuple #[.int .u64 (x:Nat),.int .i64 0])∧w=w':=by
 obtain⟨D,h⟩:=h;rw[← hx];exact zjR h.cu h64 hf
end
def zkr(cfg:Cfg):Bst:=⟨cfg,0,0,[],[],[],[]⟩
section
variable{Fo:Nat→Prop}{w w':World}{b:CaB}{s:CaS}{D:Nat→Prop}{p:Nat}{t:Bst}
theorem zfh{cfg:Cfg}(hc:cfg.ok){mc mb births now:Nat}(h1:cfg.count=mc)(h2:cfg.bytes=mb)(hn:now≤18446744073709551615)(hb:births≤16):CaI NoP (Xr cfg mc mb births now) :=
 ⟨hc,rfl,h1,h2,rfl,j8,fun y=>⟨fun e=>(by cases e),fun⟨x,hx,_⟩=>(by simp[Xr]at hx)⟩,yE.nil _,fun t=>⟨fun e=>(by cases e),fun⟨x,hx,_⟩=>(by simp[Xr]at hx)⟩,fun x hx=>(by cases hx),List.Pairwise.nil,List.Pairwise.nil,fun v hv=>(by cases hv),List.Pairwise.nil,hn,zJ hb (by decide),yk _,hb⟩
def zjG(Fo:Nat→Prop)(w:World)(cfg:Cfg)(e:Ending)(w':World):Prop := ∃ p D,e=.returned (.tuple #[lkP p,.int .i64 0])∧yC Fo w' D p (zkr cfg)∧zb w w' ∧ ∀ k,D k→w.heap.size≤k
theorem zgO{cfg:Cfg}(hc:cfg.ok)(hsd:cfg.seed<18446744073709551616)(w:World)(hT:xt w)(hFo : ∀ k,Fo k→k<w.heap.size):Calls prog 22 #[cfg.v] w (zjG Fo w cfg):=by
 have hck:=fun W=>QT cfg W
 rw[Cfg.err_ok.2 hc]at hck;obtain⟨c0,b0,pr,sd,sm⟩:=cfg;obtain⟨mc,rfl⟩ : ∃ m:Nat,c0=m:=⟨c0.toNat,by have:=hc.1;dsimp only at this;omega⟩;obtain⟨mb,rfl⟩ : ∃ m:Nat,b0=m:=⟨b0.toNat,by have:=hc.2.2.1;dsimp only at this;omega⟩;dsimp only[Cfg.v]at hck ⊢;have HCK:=za hck;have HMd:=za (fun Y (hY:zb w Y)=>ze6 (Fo:=Fo) hc hsd (now:=0) (births:=0) (by omega) Y (hT.pure hY) (fun k hk=>xV (hFo k hk) hY.size));have HI:=za (zfh (births:=0) (now:=0) hc rfl rfl (by omega) (by omega));have hal:zb w (w.alloc (.cells #[.int .i64 mc,.int .i64 mb,.int .i64 pr,.int .u64 sd,.bool sm] 29)):=(Mod.refl _ w).alloc _;have z:=zi (w:=w) (o := .cells #[.int .i64 mc,.int .i64 mb,.int .i64 pr,.int .u64 sd,.bool sm] 29 (0,0)) rfl;have HP1:=za hal;clear hc hsd hT hFo hck hal;go_enter func22,ntmps22;go_upto_region 1 with fail
 generalize w.alloc (.cells #[.int .i64 mc,.int .i64 mb,.int .i64 pr,.int .u64 sd,.bool sm] 29)=W1 at *;generalize w.heap.size=c1 at z ⊢;have Z:=za z;obtain⟨z_0,z_1,z_2,z_3,z_4,z_f,z_l,H_z⟩:=cr5 z;clear z;go_upto_region 2 with(go_at_call 39;refine(HCK.out _).mono ?_;rintro e W2 ⟨rfl,hp2⟩)
 clear z_0 z_1 z_2 z_3 z_4 z_f z_l;clear H_z;have HP2:=za (HP1.out.trans hp2);have z2:=hp2.heap (fun h=>h) Z.out;have HMd2:=za (HMd.out W2 HP2.out);clear hp2;obtain⟨z2_0,z2_1,z2_2,z2_3,z2_4,z2_f,z2_l,H_z2⟩:=cr5 z2;clear z2
 go_wp2_with (go_at_call 40;refine HMd2.out.mono ?_;rintro e W3 ⟨b,rfl,hC,hp3,hge⟩)
 go_ret2;exact⟨b.p,b.D,rfl,⟨b,_,hC,HI.out,rfl,rfl,rfl,yk _,yk _,yk _⟩,HP2.out.trans hp3,fun k hk=>zJ HP2.out.size (hge k hk)⟩
theorem CaI.getTd(h:CaI NoP s){sl:Nat}{x:CE}(hx:s.L[sl]? = some (some x)):getTd s.M sl=(⟨sl,x.dl,x.birth⟩,0):=by
 have hm:(⟨sl,x.dl,x.birth⟩:Td)∈s.M:=(h.md0 _).2 ⟨x,hx,rfl,rfl⟩;rcases VL s.M sl with⟨_,hh,y,e1,e2,_,e3,e4⟩ | ⟨hno,er,e1,e2⟩
 ·have hy:y∈s.M:=e4.mem_iff.2 yt;rw[e1,h.due.slots y hy _ hm e2]
 ·exfalso;rcases hno with c | c
  ·exact c (h.sl_lt hx)
  ·rw[uA.2 ⟨_,hm,rfl⟩]at c;cases c
end
theorem Kt{fr up:Int} : ∀ {G:List (Nat × Ent)},(∀ a∈G,a.2.birth<fr) → ∀ o,G.foldl (xP fr up) o=o
 | [],_,_=>rfl
 | g::G,h,o=>by
  have e:xP fr up o g=o:=by unfold xP;rw[zf (by have:=h g yt;omega)]
  rw[List.foldl_cons,e];exact Kt (fun a ha=>h a (yv _ ha)) o
theorem zb2{fr up:Int}{sl:Nat}{bi:Int} : ∀ {G:List (Nat × Ent)},(∀ a∈G,bi<a.2.birth)→G.foldl (xP fr up) (some (sl,bi))=some (sl,bi)
 | [],_=>rfl
 | g::G,h=>by
  have e:xP fr up (some (sl,bi)) g=some (sl,bi):=by
   unfold xP;have:=h g yt;split
   ·split
    ·dsimp only;rw[zf (by omega)]
    ·rfl
   ·rfl
  rw[List.foldl_cons,e];exact zb2 (fun a ha=>h a (yv _ ha))
theorem UK{L:List (Option CE)} : ∀ {k:Nat} {a:Nat × Ent},a∈xn k (zF L) → ∃ x∈zr L,a.2=x.ent:=by
 induction L with
 | nil=>intro k a h;cases h
 | cons o L ih =>
  intro k a h
  cases o with
  | none =>
   obtain⟨x,hx,e⟩:=ih (k:=k+1) h;exact⟨x,hx,e⟩
  | some z =>
   rcases yp.1 h with rfl | h
   ·exact⟨z,yt,rfl⟩
   ·obtain⟨x,hx,e⟩:=ih (k:=k+1) h;exact⟨x,yv _ hx,e⟩
theorem zd3{L:List (Option CE)}{above:Nat}(h : ∀ x∈zr L,x.birth≤above):kz (zF L) above=(0,14):=by
 unfold kz;split
 ·have e:vR ((above:Int)+1) 18446744073709551615 (live (zF L))=none:=Kt (fun a ha=>by
   obtain⟨x,hx,e⟩:=UK (k:=0) ha;have:=h x hx;rw[e]
   show(x.birth:Int)<_
   omega) none
  rw[e]
 ·rfl
theorem zf2{L:List (Option CE)}{above sl:Nat}{x:CE}(hx:L[sl]? = some (some x))(hc:vu L)(h1:above<x.birth)(h2 : ∀ y∈zr (L.take sl),y.birth≤above)(h3:x.birth≤18446744073709551615):kz (zF L) above=(sl,0):=by
 have hsl:=(zC.1 hx).1;have hsp:live (zF L)=xn 0 (zF (L.take sl))++(sl,x.ent)::xn (sl+1) (zF (L.drop (sl+1))):=by
  have e:=congrArg zF (zap hx);have e2:zF (L.take sl++some x::L.drop (sl+1))=zF (L.take sl)++zF (some x::L.drop (sl+1)):=by unfold zF;rw[xT]
  have e3:(zF (L.take sl)).length=sl:=by unfold zF;rw[yB,jL];omega
  unfold live
  conv=>lhs;rw[e,e2,zix,e3,jJ]
  rfl
 have hsp2:=Yr hx;have hc':=hc;unfold vu at hc';rw[hsp2]at hc';have hpost:=(uj.1 (ku.1 hc').2.1).1;unfold kz;rw[zh (by omega)];have e:vR ((above:Int)+1) 18446744073709551615 (live (zF L))=some (sl,(x.birth:Int)):=by
  unfold vR;have eA:(xn 0 (zF (L.take sl))).foldl (xP ((above:Int)+1) 18446744073709551615) none=none:=Kt (fun a ha=>by
   obtain⟨y,hy,e⟩:=UK (k:=0) ha;have:=h2 y hy;rw[e]
   show(y.birth:Int)<_
   omega) none
  rw[hsp,Zl,eA,List.foldl_cons];have e2:xP ((above:Int)+1) 18446744073709551615 none (sl,x.ent)=some (sl,(x.birth:Int)):=by
   unfold xP;rw[zh (show(above:Int)+1≤(x.birth:Int) by omega),zh (show(x.birth:Int)≤18446744073709551615 by omega)]
  rw[e2];exact zb2 (fun a ha=>by
   obtain⟨y,hy,e⟩:=UK ha;have:=hpost y hy;rw[e]
   show(x.birth:Int)<(y.birth:Int)
   omega)
 rw[e]
def Yd(t:Bst)(above:Nat):Option CE:=t.E.find? (fun x=>decide (above<x.birth))
theorem zhv{s:CaS}{above:Nat}(h:Yd (zG s) above=none):kz (zF s.L) above=(0,14):=zd3 (fun x hx=>by
 have:=kY.1 h x hx;simp at this;omega)
theorem zeo{s:CaS}(hi:CaI NoP s){above:Nat}{x:CE}(h:Yd (zG s) above=some x) : ∃ sl,s.L[sl]? = some (some x)∧kz (zF s.L) above=(sl,0):=by
 have hx:x∈zr s.L:=qk h;have ha:above<x.birth:=by simpa using Y9 h
 obtain⟨sl,hsl⟩:=xO.1 hx;refine⟨sl,hsl,zf2 hsl hi.inc ha (fun y hy => ?_) (hi.ok x hx).1.b1⟩;obtain⟨_,pre,post,e1,e2⟩:=List.find?_eq_some_iff_append.1 h;have hsp:=Yr hsl;have e1':zr s.L=pre++x::post:=e1;have hy1:y∈zr s.L:=by rw[hsp];exact xE _ hy
 have hyx:y.birth<x.birth:=by
  have hc:=hi.inc;unfold vu at hc;rw[hsp]at hc;exact(ku.1 hc).2.2 y hy x yt
 rw[e1']at hy1;rcases yz.1 hy1 with k | k
 ·have:=e2 y k;simp at this;omega
 ·have hc:=hi.inc;unfold vu at hc;rw[e1']at hc;have hc2:=(uj.1 (ku.1 hc).2.1).1;rcases yp.1 k with rfl | k
  ·omega
  ·have:=hc2 y k;omega
abbrev uF:Value := .agg #[.string ⟨#[]⟩,.slice none 0 0,.int .u64 0,.int .u64 0]
section
variable{Fo:Nat→Prop}{w w':World}{b:CaB}{s:CaS}{D:Nat→Prop}{p:Nat}{t:Bst}
theorem JJ(h:zu Fo w b s)(hev:s.evs.length≤1048576)(Y:World)(hY:zb w Y):Calls prog 49 #[lkP b.p,.slice none 0 0] Y fun e w'=>e=.returned (.int .i64 (ub s))∧zb Y w':=by
 refine(UZ (h.pure hY) (a:=none) (n:=0) (c:=0) (l:=[]) (vD _ _ _ _) rfl (by omega) hev).mono ?_;rintro e w' ⟨rfl,hm⟩;refine⟨?_,hm.mono (fun k _ e=>by cases e)⟩;have e:vi ([]++[ub s])=ub s:=by
  show(if ub s=0 then 0 else ub s)=ub s
  split
  ·rename_i c;exact c.symm
  ·rfl
 rw[e]
def zcq(Fo:Nat→Prop)(w:World)(b:CaB)(o:Option CE)(s':CaS)(e:Ending)(w':World):Prop:=match o with
 | none=>e=.returned (.tuple #[uF,.bool false,.int .i64 0]) ∧ ∃ b',zu Fo w' b' s'∧zx w w' b b'
 | some x=>JX Fo w b x s' e w'
theorem zhc(h:zu Fo w b s){t:Nat}(ht:t≤18446744073709551615)(hev:s.evs.length≤1048576)(hr:ub s=0)(hlv:uN 1 (tmS s t) (xk s t))(hR:kR (zy s t) yN){above:Nat}(ha:above≤18446744073709551615)(hf:kz (zF (pkS (evS (zy s t) yN)).L) above=(0,14)) :
    Calls prog 45 #[lkP b.p,.int .u64 t,.int .u64 above] w (zcq Fo w b none (pkS (evS (zy s t) yN))):=by
  have hc:=JJ h hev;rw[hr]at hc;have HC:=za hc;have HRn:=za (fun(Y:World) (hY:zb w Y)=>zaj (h.pure hY) ht hlv hR);have HAf:=za (fun(Y:World) (b3:CaB) (hY:zu Fo Y b3 (pkS (evS (zy s t) yN)))=>zcd (QP hY.dict) (zae hY.dict) above (by omega));rw[hf]at HAf;have hal:zb w (w.alloc (.cells #[.string ⟨#[]⟩,.slice none 0 0,.int .u64 0,.int .u64 0] 47)):=(Mod.refl _ w).alloc _;have z:=zi (w:=w) (o := .cells #[.string ⟨#[]⟩,.slice none 0 0,.int .u64 0,.int .u64 0] 47 (0,0)) rfl;have HND:=za (fun k (e:b.D k)=>h.lt e);have HPS:=za h.pos;have HP:=za hal;have Z:=za z;generalize pkS (evS (zy s t) yN)=s9 at *;clear h hev hr hc hlv hR hf hal z ha;unfold zcq;dsimp only;go_enter func45,ntmps45;go_upto_region 1 with fail
  generalize w.alloc (.cells #[.string ⟨#[]⟩,.slice none 0 0,.int .u64 0,.int .u64 0] 47)=W1 at *;obtain⟨q,hq⟩:=zc w.heap.size;rw[hq]at Z ⊢;have HQ:=za hq;clear hq;go_upto_region 5 with(first
    | (go_at_call 49;refine(HC.out _ HP.out).mono ?_;rintro e w2 ⟨rfl,hp2⟩;have HRn2:=za (HRn.out _ (HP.out.trans hp2)))
    | (go_at_call 56;refine HRn2.out.mono ?_;rintro e w3 ⟨rfl,b3,C3,T3⟩))
  have HAf3:=za (HAf.out _ _ C3);have hb3:=C3.box;rw[T3.p]at hb3;have hq3:=T3.mod.heap (fun e=>by have:=HND.out _ e;have:=HQ.out;omega) (hp2.heap (fun h=>h) Z.out);have HC3:=za C3;have HT3:=za ((zx.pure (HP.out.trans hp2)).trans T3);have hn3 : ¬ b3.D q:=(T3.nd (fun e=>by have:=HND.out _ e;have:=HQ.out;omega) (zl (hp2.heap (fun h=>h) Z.out)));have HN3:=za hn3;have HT3':=za T3;have HP2:=za hp2;clear C3 T3 hp2 HAf HC HRn hn3;obtain⟨hb3_0,hb3_1,hb3_2,hb3_3,hb3_4,hb3_5,hb3_6,hb3_7,hb3_8,hb3_9,hb3_10,hb3_f,hb3_l,H_hb3⟩:=xz hb3;clear hb3;go_upto_region 6 with(go_at_call 78;refine HAf3.out.mono ?_;rintro e w4 ⟨rfl,hp4⟩)
  clear hb3_0 hb3_1 hb3_2 hb3_3 hb3_4 hb3_5 hb3_6 hb3_7 hb3_8 hb3_9 hb3_10 hb3_f hb3_l;clear H_hb3;have hq4:=hp4.heap (fun h=>h) hq3;have HQ4:=za hq4;have HP4:=za hp4;clear hp4 hq3;obtain⟨hq4_0,hq4_1,hq4_2,hq4_3,hq4_f,hq4_l,H_hq4⟩:=cr4 hq4;clear hq4;go_wp2;obtain⟨Y,hY⟩:=zc ((((w4.setCell ⟨q,0,none⟩ (.string ⟨#[]⟩)).setCell ⟨q,1,none⟩ (.slice none 0 0)).setCell ⟨q,2,none⟩ (.int .u64 0)).setCell ⟨q,3,none⟩ (.int .u64 0));obtain⟨g1,g2⟩:=ZI HQ4.out hY;rw[hY];have hc9:=(HC3.out.pure HP4.out).beside g1 (fun k hk e=>by subst e;exact HN3.out hk) (fun k _ e => .inr (fun cs fz hb=>by subst e;rw[HQ4.out]at hb;injection hb with hb;injection hb with _ hb;exact absurd hb (by decide))) (by have:=HQ.out;have:=HPS.out;omega);obtain⟨g2_0,g2_1,g2_2,g2_3,g2_f,g2_l,H_g2⟩:=cr4 g2;clear g2;refine zM (v := .tuple #[uF,.bool false,.int .i64 0]) (by simp[results,results45,go_sem,g2_0,g2_1,g2_2,g2_3]) rfl ⟨rfl,b3,hc9,⟨HT3.out.p,?_,HT3.out.grew⟩⟩;exact Mod.trans' (HT3.out.mod.trans (Mod.of_pure HP4.out)) g1 (fun _ _ e=>e) (fun i hi e=>by have:=HQ.out;omega)
theorem yC.afterNo(h:yC Fo w D p t){tt:Nat}(ht:tt≤18446744073709551615)(hr:xR t=0){above:Nat}(ha:above≤18446744073709551615)(hf:Yd (vY t tt) above=none) :
  Calls prog 45 #[lkP p,.int .u64 tt,.int .u64 above] w fun e w'=>e=.returned (.tuple #[uF,.bool false,.int .i64 0])∧uV Fo w D p (vY t tt) w':=by
 obtain⟨b,s,h1,h2,rfl,rfl,rfl,h3,h4,h5⟩:=h;obtain⟨k1,k2,k3⟩:=h2.exp ht (ZE hr);obtain⟨q1,q2⟩:=k2.fin (h2.exp_sum ht hr).1 k3;have e9:zG (pkS (evS (zy s tt) yN))=vY (zG s) tt:=q2.2.1;refine(zhc h1 ht h4 ((VX s).trans hr) k1 q1 ha (zhv (by rw[e9];exact hf))).mono ?_;rintro e w' ⟨rfl,b',hC,hT⟩;exact⟨rfl,yC.of hC hT q2⟩
end
section
variable{w w':World}{P:World→Prop}
theorem zam{pv:Value}{n er:Int}(h:Calls prog 23 #[pv] w fun e w'=>e=.returned (.tuple #[.int .i64 n,.int .i64 er])∧P w') :
  Calls prog 8 #[pv,.int .i64 n,.int .i64 er] w fun e w'=>e=.returned (.bool true)∧P w':=by
 have H:=za h;clear h;go_enter func8,ntmps8
 go_wp2_with (go_at_call 23;refine H.out.mono ?_;rintro e w1 ⟨rfl,hP⟩)
 go_ret;exact⟨by simp,hP⟩
theorem Qk{pv:Value}{n b er:Int}(h:Calls prog 30 #[pv,.int .i64 n] w fun e w'=>e=.returned (.tuple #[.int .u64 b,.int .i64 er])∧P w') :
  Calls prog 14 #[pv,.int .i64 n,.int .u64 b,.int .i64 er] w fun e w'=>e=.returned (.bool true)∧P w':=by
 have H:=za h;clear h;go_enter func14,ntmps14
 go_wp2_with (go_at_call 30;refine H.out.mono ?_;rintro e w1 ⟨rfl,hP⟩)
 go_ret;exact⟨by simp,hP⟩
theorem zhe{pv:Value}{tt:Nat}{n:Int}{x:CE}(hP : ∀ W W',P W→zb W W'→P W')(h:Calls prog 28 #[pv,.int .u64 tt,.int .i64 n] w fun e w' => ∃ a n c,e=.returned (.tuple #[ceV x (.slice a n c),.int .i64 0])∧P w') :
  Calls prog 19 #[pv,.int .u64 tt,.int .i64 n,.string x.key] w fun e w'=>e=.returned (.bool true)∧P w':=by
 have H:=za h;have HP:=za hP;clear h hP;go_enter func19,ntmps19
 go_wp2_with (go_at_call 28;refine H.out.mono ?_;rintro e w1 ⟨a,m,c,rfl,hPw⟩;have HPw:=za (HP.out _ _ hPw ((Mod.refl _ w1).alloc (.cells #[.string x.key,.slice a m c,.int .u64 x.dl,.int .u64 x.birth] 47))))
 go_ret;exact⟨by simp,HPw.out⟩
theorem zfy{w:World}(x:CE)(a1 a2:Option Addr)(n1 n2 c1 c2:Nat)(h1:zn w (.slice a1 n1 c1) 1 (zS x.val))(h2:zn w (.slice a2 n2 c2) 1 (zS x.val)) :
  Calls prog 29 #[ceV x (.slice a1 n1 c1),ceV x (.slice a2 n2 c2)] w fun e w'=>e=.returned (.bool true)∧zb w w':=by
 have hp:zb w ((w.alloc (.cells #[.string x.key,.slice a1 n1 c1,.int .u64 x.dl,.int .u64 x.birth] 47)).alloc (.cells #[.string x.key,.slice a2 n2 c2,.int .u64 x.dl,.int .u64 x.birth] 47)):=((Mod.refl _ w).alloc _).alloc _;have k1:=JO x.val (h1.frame hp (fun _ _ h=>h));have k2:=JO x.val (h2.frame hp (fun _ _ h=>h));have HP:=za hp;clear h1 h2 hp;go_enter func29,ntmps29;go_wp2;go_ret;exact⟨rfl,HP.out⟩
theorem zbq(w:World):zn w (.slice none 0 0) 1 (zS []):=⟨none,0,0,rfl,rfl,by decide,fun _=>rfl,fun a h=>by cases h⟩
theorem KT{pv:Value}{tt:Nat}{n er:Int}(hP : ∀ W W',P W→zb W W'→P W')(h : ∀ W,zb w W→Calls prog 28 #[pv,.int .u64 tt,.int .i64 n] W fun e w'=>e=.returned (.tuple #[uF,.int .i64 er])∧W.heap.size≤w'.heap.size∧(∀ k,w.heap.size≤k→k<W.heap.size→w'.heap[k]? = W.heap[k]?)∧P w') :
  Calls prog 12 #[pv,.int .u64 tt,.int .i64 n,uF,.int .i64 er] w fun e w'=>e=.returned (.bool true)∧P w':=by
 have hal:zb w (w.alloc (.cells #[.string ⟨#[]⟩,.slice none 0 0,.int .u64 0,.int .u64 0] 47)):=(Mod.refl _ w).alloc _;have hz:=zi (w:=w) (o := .cells #[.string ⟨#[]⟩,.slice none 0 0,.int .u64 0,.int .u64 0] 47 (0,0)) rfl;have H:=za (h _ hal);have HP:=za hP;have Z:=za hz;have hsz:w.heap.size<(w.alloc (.cells #[.string ⟨#[]⟩,.slice none 0 0,.int .u64 0,.int .u64 0] 47)).heap.size:=by simp
 have HSZ:=za hsz;clear h hP hal hz hsz;go_enter func12,ntmps12;go_upto_region 1 with fail
 generalize w.alloc (.cells #[.string ⟨#[]⟩,.slice none 0 0,.int .u64 0,.int .u64 0] 47)=W1 at *;obtain⟨q,hq⟩:=zc w.heap.size;rw[hq]at Z H HSZ ⊢;clear hq;go_upto_region 2 with(go_at_call 28;refine H.out.mono ?_;rintro e w2 ⟨rfl,hs2,hk2,hPw⟩)
 have hal2:zb w2 (w2.alloc (.cells #[.string ⟨#[]⟩,.slice none 0 0,.int .u64 0,.int .u64 0] 47)):=(Mod.refl _ w2).alloc _;have hz2:=zi (w:=w2) (o := .cells #[.string ⟨#[]⟩,.slice none 0 0,.int .u64 0,.int .u64 0] 47 (0,0)) rfl;have hzz:w2.heap[q]? = some (.cells #[.string ⟨#[]⟩,.slice none 0 0,.int .u64 0,.int .u64 0] 47 (0,0)):=(hk2 q (zH _) HSZ.out).trans Z.out;have hzq:=hal2.heap (fun h=>h) hzz;have HEn:=za (zfy (w:=w2.alloc (.cells #[.string ⟨#[]⟩,.slice none 0 0,.int .u64 0,.int .u64 0] 47)) ⟨⟨#[]⟩,[],0,0⟩ none none 0 0 0 0 (zbq _) (zbq _));have HPw:=za (HP.out _ _ hPw hal2);clear hPw hal2 hzz hk2 hs2;generalize w2.alloc (.cells #[.string ⟨#[]⟩,.slice none 0 0,.int .u64 0,.int .u64 0] 47)=W3 at *;generalize w2.heap.size=q2 at hz2 ⊢;obtain⟨hz2_0,hz2_1,hz2_2,hz2_3,hz2_f,hz2_l,H_hz2⟩:=cr4 hz2;clear hz2;obtain⟨hzq_0,hzq_1,hzq_2,hzq_3,hzq_f,hzq_l,H_hzq⟩:=cr4 hzq;clear hzq
 go_wp2_with (go_at_call 29;refine HEn.out.mono ?_;rintro e w4 ⟨rfl,hp4⟩)
 go_ret;exact⟨by simp,HP.out _ _ HPw.out hp4⟩
theorem zbx{w:World}{a:Option Addr}{n c:Nat}{L:List Nat}(h:zn w (.slice a n c) 1 (vI L)){j:Nat}{x:Nat}(hx:L[j]? = some x) : ∃ ad,a=some ad∧w.cell? (ad.add j)=some (.int .i64 x):=by
 obtain⟨a',n',c',e,hl,_,h0,hc⟩:=h;injection e with e1 e2 e3
 subst e1 e2 e3;have hu:(vI L)[j]? = some (.int .i64 x):=by unfold vI;rw[yu,hx];rfl
 exact Azu4k
theorem zdf{a1 a2:Option Addr}{n c1 c2:Nat}{L:List Nat}(hn:L.length=n)(hl:n≤4194304)(h1:zn w (.slice a1 n c1) 1 (vI L))(h2:zn w (.slice a2 n c2) 1 (vI L)) :
  Calls prog 20 #[.slice a1 n c1,.slice a2 n c2] w fun e w'=>e=.returned (.bool true)∧zb w w':=by
 have HN:=za hn;have H1:=za h1;have H2:=za h2;have HL:=za hl;clear hn h1 h2 hl;go_enter func20,ntmps20;go_upto_region 4 with fail
 go_loopw [5] (fun v5 wr => ∃ j:Nat,v5=.int .i64 (j:Nat)∧j≤n∧zb w wr) (fun v5 _=>n-(intOf v5).toNat)
 case atStart=>exact⟨0,rfl,yk _,Mod.refl _ _⟩
 case round =>
  obtain⟨j,rfl,hj,hp⟩:=hrel;have HP:=za hp;clear hp;by_cases hlt:j<n
  ·have hlt':(j:Int)<(n:Int):=by omega
   have j0:(0:Int)≤(j:Int):=by omega
   have wj:IntKind.i64.wrap ((j:Int)+1)=(j:Int)+1:=zo _ (by have:=HL.out;omega);obtain⟨x,hx⟩ : ∃ x,L[j]? = some x:=⟨_,zQ (by rw[HN.out];exact hlt)⟩;obtain⟨ad,had,z0⟩:=zbx (H1.out.frame (HP.out.drew) (fun _ _ h=>h)) hx;obtain⟨ae,hae,z1⟩:=zbx (H2.out.frame (HP.out.drew) (fun _ _ h=>h)) hx;subst had hae;clear hx;go_upto_region 6 with fail
   refine rHd (S:=fun Y=>Y.cell? (ad.add j)=some (.int .i64 x)∧Y.cell? (ae.add j)=some (.int .i64 x)) ⟨z0,z1⟩ (fun h_ => ?_);refine hTk 0 ?_;refine hTk 1 ?_;refine hTk 2 ?_;refine hLd 3 ?_;refine hTk 4 ?_;refine hTk 5 ?_;refine hTk 6 ?_;refine hLd 7 ?_;refine hTk 8 ?_;refine hDn ?_;clear h_ z0 z1;have hp9:=HP.out.drew;go_wp2;go_roundw
   case rel=>exact⟨j+1,by first | rfl | simp,hlt,hp9⟩
   case measure=>simp[intOf];omega
  ·have hlt' : ¬ (j:Int)<(n:Int):=by omega
   obtain rfl:j=n:=by omega
   go_wp2;go_ret;exact⟨rfl,HP.out⟩
end
section
variable{Fo:Nat→Prop}{w w':World}{b:CaB}{s:CaS}{D:Nat→Prop}{p:Nat}{t:Bst}
theorem zdO(h:zu Fo w b s){t:Nat}(ht:t≤18446744073709551615)(hev:s.evs.length≤1048576)(hr:ub s=0)(hlv:uN 1 (tmS s t) (xk s t))(hR:kR (zy s t) yN){above:Nat}(ha:above≤18446744073709551615){sl:Nat}{x:CE}(hs:sl≤4294967295)(hf:kz (zF (pkS (evS (zy s t) yN)).L) above=(sl,0))(hx:(pkS (evS (zy s t) yN)).L[sl]? = some (some x)) :
    Calls prog 45 #[lkP b.p,.int .u64 t,.int .u64 above] w (JX Fo w b x (pkS (evS (zy s t) yN))):=by
  have hc:=JJ h hev;rw[hr]at hc;have HC:=za hc;have HRn:=za (fun(Y:World) (hY:zb w Y)=>zaj (h.pure hY) ht hlv hR);have HAf:=za (fun(Y:World) (b3:CaB) (hY:zu Fo Y b3 (pkS (evS (zy s t) yN)))=>zcd (QP hY.dict) (zae hY.dict) above (by omega));rw[hf]at HAf;have HGt:=za (fun(Y:World) (b3:CaB) (hY:zu Fo Y b3 (pkS (evS (zy s t) yN)))=>JT hY.dict (Xb hx));have hal:zb w (w.alloc (.cells #[.string ⟨#[]⟩,.slice none 0 0,.int .u64 0,.int .u64 0] 47)):=(Mod.refl _ w).alloc _;have z:=zi (w:=w) (o := .cells #[.string ⟨#[]⟩,.slice none 0 0,.int .u64 0,.int .u64 0] 47 (0,0)) rfl;have HND:=za (fun k (e:b.D k)=>h.lt e);have HPS:=za h.pos;have HP:=za hal;have Z:=za z;generalize pkS (evS (zy s t) yN)=s9 at *;clear h hev hr hc hlv hR hf hal z ha hx;go_enter func45,ntmps45;go_upto_region 1 with fail
  generalize w.alloc (.cells #[.string ⟨#[]⟩,.slice none 0 0,.int .u64 0,.int .u64 0] 47)=W1 at *;obtain⟨q,hq⟩:=zc w.heap.size;rw[hq]at Z ⊢;have HQ:=za hq;clear hq;go_upto_region 5 with(first
    | (go_at_call 49;refine(HC.out _ HP.out).mono ?_;rintro e w2 ⟨rfl,hp2⟩;have HRn2:=za (HRn.out _ (HP.out.trans hp2)))
    | (go_at_call 56;refine HRn2.out.mono ?_;rintro e w3 ⟨rfl,b3,C3,T3⟩))
  have HAf3:=za (HAf.out _ _ C3);have HGt3:=za (fun Y (hY:zb w3 Y)=>HGt.out _ _ (C3.pure hY));have hb3:=C3.box;rw[T3.p]at hb3;have hq3:=T3.mod.heap (fun e=>by have:=HND.out _ e;have:=HQ.out;omega) (hp2.heap (fun h=>h) Z.out);have HC3:=za C3;have HT3:=za ((zx.pure (HP.out.trans hp2)).trans T3);have hn3 : ¬ b3.D q:=(T3.nd (fun e=>by have:=HND.out _ e;have:=HQ.out;omega) (zl (hp2.heap (fun h=>h) Z.out)));have HN3:=za hn3;have HT3':=za T3;have HP2:=za hp2;have HB3:=za hb3;clear C3 T3 hp2 HAf HC HRn hn3;obtain⟨hb3_0,hb3_1,hb3_2,hb3_3,hb3_4,hb3_5,hb3_6,hb3_7,hb3_8,hb3_9,hb3_10,hb3_f,hb3_l,H_hb3⟩:=xz hb3;clear hb3;go_upto_region 6 with(go_at_call 78;refine HAf3.out.mono ?_;rintro e w4 ⟨rfl,hp4⟩)
  clear hb3_0 hb3_1 hb3_2 hb3_3 hb3_4 hb3_5 hb3_6 hb3_7 hb3_8 hb3_9 hb3_10 hb3_f hb3_l;clear H_hb3;have hq4:=hp4.heap (fun h=>h) hq3;have hb4:=hp4.heap (fun h=>h) HB3.out;have HQ4:=za hq4;have HP4:=za hp4;have HGt4:=za (HGt3.out _ hp4);clear hp4 hq3;obtain⟨hb4_0,hb4_1,hb4_2,hb4_3,hb4_4,hb4_5,hb4_6,hb4_7,hb4_8,hb4_9,hb4_10,hb4_f,hb4_l,H_hb4⟩:=xz hb4;clear hb4;go_upto_region 9 with(go_at_call 53;refine HGt4.out.mono ?_;rintro e w5 ⟨a,n,c,rfl,hby,hfr,hp5⟩)
  clear hb4_0 hb4_1 hb4_2 hb4_3 hb4_4 hb4_5 hb4_6 hb4_7 hb4_8 hb4_9 hb4_10 hb4_f hb4_l;clear H_hb4;have al6:zb w5 (w5.alloc (.cells #[.string x.key,.slice a n c,.int .u64 x.dl,.int .u64 x.birth] 47)):=(Mod.refl _ w5).alloc _;have z6:=zi (w:=w5) (o := .cells #[.string x.key,.slice a n c,.int .u64 x.dl,.int .u64 x.birth] 47 (0,0)) rfl;have hp6:=hp5.trans al6;have q6:=hp6.heap (fun h=>h) HQ4.out;have hby6:yy _ (.slice a n c) (zS x.val):=zA hby al6 (fun _ _ h=>h);have HBY:=za hby6;have HFR:=za hfr;have HP6:=za hp6;clear hby hfr hp5 al6 hp6 hby6;generalize w5.alloc (.cells #[.string x.key,.slice a n c,.int .u64 x.dl,.int .u64 x.birth] 47)=w6 at *;generalize w5.heap.size=r6 at *;have HQ6:=za q6;obtain⟨z6_0,z6_1,z6_2,z6_3,z6_f,z6_l,H_z6⟩:=cr4 z6;clear z6;obtain⟨q6_0,q6_1,q6_2,q6_3,q6_f,q6_l,H_q6⟩:=cr4 q6;clear q6;go_wp2;obtain⟨Y,hY⟩:=zc ((((w6.setCell ⟨q,0,none⟩ (.string x.key)).setCell ⟨q,1,none⟩ (.slice a n c)).setCell ⟨q,2,none⟩ (.int .u64 x.dl)).setCell ⟨q,3,none⟩ (.int .u64 x.birth));obtain⟨g1,g2⟩:=ZI HQ6.out hY;rw[hY];have hall:=HP4.out.trans HP6.out;have hc9:=(HC3.out.pure hall).beside g1 (fun k hk e=>by subst e;exact HN3.out hk) (fun k _ e => .inr (fun cs fz hb=>by subst e;rw[HQ6.out]at hb;injection hb with hb;injection hb with _ hb;exact absurd hb (by decide))) (by have:=HQ.out;have:=HPS.out;omega);have hby9:yy Y (.slice a n c) (zS x.val):=jy HBY.out g1 (fun k _ e cs fz e2=>by subst e;rw[HQ6.out]at e2;cases e2);obtain⟨g2_0,g2_1,g2_2,g2_3,g2_f,g2_l,H_g2⟩:=cr4 g2;clear g2;refine zM (v := .tuple #[ceV x (.slice a n c),.bool true,.int .i64 0]) (by simp[results,results45,go_sem,g2_0,g2_1,g2_2,g2_3]) rfl ⟨a,n,c,rfl,hby9,fun g hg=>by have h1:=HFR.out g hg;have h2:=HT3.out.mod.size;have h3:=HP4.out.size;omega,b3,hc9,⟨HT3.out.p,?_,HT3.out.grew⟩⟩;exact Mod.trans' (HT3.out.mod.trans (Mod.of_pure hall)) g1 (fun _ _ e=>e) (fun i hi e=>by have:=HQ.out;omega)
end
section
variable{w0 w w':World}{q p:Nat}{f:Nat→Bool}{pl:Nat→Nat}{D:Nat→Prop}{t t':Bst}
theorem yC.afterYes{Fo:Nat→Prop}(h:yC Fo w D p t){tt:Nat}(ht:tt≤18446744073709551615)(hr:xR t=0){above:Nat}(ha:above≤18446744073709551615){x:CE}(hf:Yd (vY t tt) above=some x) :
  Calls prog 45 #[lkP p,.int .u64 tt,.int .u64 above] w fun e w' => ∃ a n c,e=.returned (.tuple #[ceV x (.slice a n c),.bool true,.int .i64 0])∧yy w' (.slice a n c) (zS x.val)∧vo w (.slice a n c)∧uV Fo w D p (vY t tt) w':=by
 obtain⟨b,s,h1,h2,rfl,rfl,rfl,h3,h4,h5⟩:=h;obtain⟨k1,k2,k3⟩:=h2.exp ht (ZE hr);obtain⟨q1,q2⟩:=k2.fin (h2.exp_sum ht hr).1 k3;have e9:zG (pkS (evS (zy s tt) yN))=vY (zG s) tt:=q2.2.1;obtain⟨sl,g1,g2⟩:=zeo q2.1 (by rw[e9];exact hf);refine(zdO h1 ht h4 ((VX s).trans hr) k1 q1 ha (by have:=q2.1.sl_lt g1;omega) g2 g1).mono ?_;rintro e w' ⟨a,n,c,rfl,hby,hfr,b',hC,hT⟩;exact⟨a,n,c,rfl,hby,hfr,yC.of hC hT q2⟩
def zi2(w0 w:World)(D:Nat→Prop)(q p:Nat)(f:Nat→Bool)(pl:Nat→Nat)(t':Bst)(n:Nat)(key:ByteArray)(dl b:Nat)(is:Bool)(e:Ending)(w':World):Prop :=
 match is with
 | true => ∃ a m c,e=.returned (.tuple #[.agg #[.string key,.slice a m c,.int .u64 dl,.int .u64 b],.int .i64 0])∧KuP w0 q p f (plN pl n b) t' w'
 | false=>e=.returned (.tuple #[uF,.int .i64 14])∧KuP w0 q p f pl t' w'∧Mod D w w'
abbrev zcl(key:ByteArray)(sv:Value)(dl b:Nat):Array Value:=#[.string key,sv,.int .u64 dl,.int .u64 b]
theorem KnU.ent(h:KnU w0 w q p f pl D t){r2:Nat}{v0 v1 v2 v3:Value}(hz:w.heap[r2]? = some (.cells #[v0,v1,v2,v3] 47 (0,0)))(hnd : ¬ D r2)(hge:w0.heap.size≤r2){key:ByteArray}{sv:Value}{dl b:Nat}{Y:World}(hY:(((w.setCell ⟨r2,0,none⟩ (.string key)).setCell ⟨r2,1,none⟩ sv).setCell ⟨r2,2,none⟩ (.int .u64 dl)).setCell ⟨r2,3,none⟩ (.int .u64 b)=Y) :
  KnU w0 Y q p f pl D t∧Y.heap[r2]? = some (.cells (zcl key sv dl b) 47 (0,0))∧Mod (fun k=>k=r2) w Y:=by
 obtain⟨g1,g2⟩:=ZI hz hY;have hne : ¬ q=r2:=fun e=>by
  subst e;have hc:=h.cu;unfold yD at hc;rw[hc]at hz;injection hz with hz
  injection hz with _ hz
  exact absurd hz (by decide)
 exact⟨h.box g1 (fun k hk e=>by subst e;exact⟨hge,hnd,fun cs fz hb=>by rw[hz]at hb;injection hb with hb;injection hb with _ hb;exact absurd hb (by decide)⟩) (g1.heap hne h.cu),g2,g1⟩
theorem Azmpt {P:Prop}(h:P:=by
 obtain⟨z2_0,z2_1,z2_2,z2_3,z2_f,z2_l,H_z2⟩:=cr4 z2;clear z2
 (refine hSt 17 (fun K hK => ?_);go_simp;refine hK.out _ _ ?_ (fun h_ => ?_);(· exact HS.out _ _ _ (HE.out _ rfl).1);clear hK K;refine clA ?_)
 refine hTk 18 ?_;refine hTk 19 ?_;refine hDn ?_;obtain⟨e1,e2,e3⟩:=HE.out _ rfl;go_wp2
 go_meet
 exact⟨r2,a,m,c,D',rfl,rfl,rfl,e2,HR2.out,Mod.trans' HM3.out e3 (fun _ _ e=>e) (fun i hi e=>by subst e;exact absurd hi (Nat.not_lt.2 HS2.out)),e1,HD2.out,HN2.out⟩):P:=h
theorem zbH(h:KnU w0 w q p f pl D t){n:Nat}(hn:n<64)(hf:f n=true){tt dl b:Nat}{key:ByteArray}{is:Bool}
  (hA : ∀ W,zb w W→Calls prog 45 #[lkP p,.int .u64 tt,.int .u64 (pl n:Nat)] W fun e w' => ∃ a m c,e=.returned (.tuple #[.agg #[.string key,.slice a m c,.int .u64 dl,.int .u64 b],.bool is,.int .i64 0])∧uV NoF W D p t' w') :
  Calls prog 28 #[lkP q,.int .u64 tt,.int .i64 (n:Nat)] w (zi2 w0 w D q p f pl t' n key dl b is):=by
 have HCk:=za (fun W (hW:zb w W)=>VH (h.pure hW).cu (n:=(n:Int)) (by rw[qK hn];exact hf));have hal:zb w (w.alloc (.cells #[.string ⟨#[]⟩,.slice none 0 0,.int .u64 0,.int .u64 0] 47)):=(Mod.refl _ w).alloc _;have z:=zi (w:=w) (o := .cells #[.string ⟨#[]⟩,.slice none 0 0,.int .u64 0,.int .u64 0] 47 (0,0)) rfl;have HP:=za hal;have Z:=za z;have HU:=za h;have HA:=za hA;have n0:(0:Int)≤(n:Int):=by omega
 have n1:(n:Int)<64:=by omega
 have HN:=za hn;clear hal z h hf hA hn;go_enter func28,ntmps28;go_upto_region 1 with fail
 have hpw1:=HP.out;generalize w.alloc (.cells #[.string ⟨#[]⟩,.slice none 0 0,.int .u64 0,.int .u64 0] 47)=W1 at *;obtain⟨r,hr⟩:=zc w.heap.size;rw[hr]at Z ⊢;have HR:=za hr;clear hr hpw1;go_upto_region 4 with(go_at_call 24;refine(HCk.out _ HP.out).mono ?_;rintro e w' ⟨rfl,rfl⟩)
 clear HCk
 go_cut [9,10,11] (fun v9 v10 v11 wx => ∃(r2:Nat) (a:Option Addr) (m c:Nat) (D':Nat→Prop),v9=.pointer (some ⟨r2,0,none⟩)∧v10=.bool is∧v11=.int .i64 0∧wx.heap[r2]? = some (.cells (zcl key (.slice a m c) dl b) 47 (0,0))∧r<r2∧Mod D W1 wx∧KnU w0 wx q p f pl D' t' ∧ ¬ D' r2 ∧ ¬ D' r)
 case first =>
  have hU1:=HU.out.pure HP.out;have c0:=hU1.cu.c0;have c2:=hU1.cu.c2 HN.out;have HU1:=za hU1;have hrl:r<W1.heap.size:=zl Z.out;have HRL:=za hrl;have hdr : ¬ D r:=fun e=>by have h1:=HU.out.at_.lt e;have:=HR.out;omega
  have HDR:=za hdr;have HS:=za (fun(Y:World) (D':Nat→Prop) (t2:Bst) (h:KnU w0 Y q p f pl D' t2)=>(⟨h.cu.c0,h.cu.c2 HN.out⟩:Y.cell? ⟨q,0,none⟩=some (lkP p)∧Y.cell? ⟨q,2+n,none⟩=some (.int .u64 (pl n:Nat))));clear hU1 hrl hdr;refine jM (S:=fun Y=>Y.cell? ⟨q,0,none⟩=some (lkP p)∧Y.cell? ⟨q,2+n,none⟩=some (.int .u64 (pl n:Nat))) (by kernel_rfl) ⟨c0,c2⟩ (fun h_ => ?_);clear c0 c2;refine hTk 0 ?_;refine hTk 1 ?_;refine hTk 2 ?_;refine hLd 3 ?_;refine hTk 4 ?_;refine hTk 5 ?_;refine hTk 6 ?_;refine hTk 7 ?_;refine hTk 8 ?_;refine hTk 9 ?_;refine hLd 10 ?_;refine ki (rs:=[11,16]) (by kernel_rfl) (by simp) ?_;refine vS rfl (fun K1 hK1 => ?_) (vS rfl (fun K1 hK1 => ?_) uW)
  ·go_simp;refine zm (HA.out _ (HP.out.trans (Mod.refl (fun _=>False) W1).drew)) ?_;rintro e w2 ⟨a,m,c,rfl,hg⟩;obtain⟨D',hU2,hm2,hn2⟩:=(HU1.out.pure (Mod.refl (fun _=>False) W1).drew).goD hg;have HU2:=za hU2;have HM2:Hid (Mod D W1 w2):=za (Mod.trans' (Mod.refl (fun _=>False) W1).drew hm2 (fun _ _ e=>e.elim) (fun _ _ e=>e));have HN2:=za (hn2 r HRL.out HDR.out);clear hU2 hm2 hn2 hg;refine hK1.out _ _ (HS.out _ _ _ HU2.out) (fun h_ => ?_);clear hK1 K1;refine clA ?_;refine hTk 12 ?_;refine hTk 13 ?_;refine hTk 14 ?_;refine hTk 15 ?_;have al2:zb w2 (w2.alloc (.cells #[.string ⟨#[]⟩,.slice none 0 0,.int .u64 0,.int .u64 0] 47)):=(Mod.refl _ w2).alloc _;have z2:=zi (w:=w2) (o := .cells #[.string ⟨#[]⟩,.slice none 0 0,.int .u64 0,.int .u64 0] 47 (0,0)) rfl;have HU3:=za (HU2.out.pure al2);have hr2:r<w2.heap.size:=xV HRL.out HM2.out.size;have nd2 : ¬ D' w2.heap.size:=fun e=>by have:=HU2.out.at_.lt e;omega
   have ge2:w0.heap.size≤w2.heap.size:=HU2.out.pu.size;have hm3:Mod D W1 _:=HM2.out.trans (Mod.of_pure al2);have hs2:W1.heap.size≤w2.heap.size:=HM2.out.size
   (refine hSt 16 (fun K hK => ?_);go_simp;refine hK.out _ _ ?_ (fun h_ => ?_);(· exact HS.out _ _ _ HU3.out);clear hK K;refine clA ?_)
   generalize w2.alloc (.cells #[.string ⟨#[]⟩,.slice none 0 0,.int .u64 0,.int .u64 0] 47)=U2 at *;obtain⟨r2,hr2e⟩:=zc w2.heap.size;rw[hr2e]at z2 hr2 nd2 ge2 hs2 ⊢;have HE:=za (fun Y hY=>HU3.out.ent z2 nd2 ge2 (key:=key) (sv := .slice a m c) (dl:=dl) (b:=b) (Y:=Y) hY);have HR2:=za hr2;have HD2:=za nd2;have HM3:=za hm3;have HS2:=za hs2;clear hr2 nd2 ge2 hr2e al2 HU2 HM2 hm3 hs2;exact Azmpt
  ·go_simp;have al2:zb W1 (W1.alloc (.cells #[.string ⟨#[]⟩,.slice none 0 0,.int .u64 0,.int .u64 0] 47)).drew:=((Mod.refl _ W1).alloc _).drew;have z2:(W1.alloc (.cells #[.string ⟨#[]⟩,.slice none 0 0,.int .u64 0,.int .u64 0] 47)).drew.heap[W1.heap.size]? = some (.cells #[.string ⟨#[]⟩,.slice none 0 0,.int .u64 0,.int .u64 0] 47 (0,0)):=zi rfl;have HU2:=za (HU1.out.pure al2);refine hK1.out _ _ (HS.out _ _ _ HU2.out) (fun h_ => ?_);clear hK1 K1;refine clA ?_;have nd2 : ¬ D W1.heap.size:=fun e=>by have:=HU1.out.at_.lt e;omega
   have ge2:w0.heap.size≤W1.heap.size:=HU1.out.pu.size;have hrl:=HRL.out;have HAL:=za al2;have HA2:=za (HA.out _ (HP.out.trans al2));generalize(W1.alloc (.cells #[.string ⟨#[]⟩,.slice none 0 0,.int .u64 0,.int .u64 0] 47)).drew=U1 at *;have hs2:W1.heap.size≤W1.heap.size:=zH _;obtain⟨r2,hr2e⟩:=zc W1.heap.size;have hs2:W1.heap.size≤r2:=Nat.le_of_eq hr2e;rw[hr2e]at z2 hrl nd2 ge2 ⊢;have HND2:=za nd2;have HGE2:=za ge2;have HR2:=za hrl;have HS2:=za hs2;have HZ2:=za z2;clear al2 hr2e nd2 ge2 hrl hs2 z2
   (refine hSt 11 (fun K hK => ?_);go_simp;refine HA2.out.mono ?_;rintro e w2 ⟨a,m,c,rfl,hg⟩;obtain⟨D',hU2,hm2,hn2⟩:=HU2.out.goD hg;refine hK.out _ _ ?_ (fun h_ => ?_);(· exact HS.out _ _ _ hU2);clear hK K;refine clA ?_)
   have HU3:=za hU2;have HM3:Hid (Mod D W1 w2):=za (Mod.trans' HAL.out hm2 (fun _ _ e=>e.elim) (fun _ _ e=>e));have nd2:=hn2 r2 (zl HZ2.out) HND2.out;have HN2:=za (hn2 r (xV HRL.out HAL.out.size) HDR.out);have z2:=hm2.heap HND2.out HZ2.out;have HE:=za (fun Y hY=>HU3.out.ent z2 nd2 HGE2.out (key:=key) (sv := .slice a m c) (dl:=dl) (b:=b) (Y:=Y) hY);have HD2:=za nd2;clear hU2 hm2 hn2 hg nd2 HZ2 HA2 HU2;refine hTk 12 ?_;refine hTk 13 ?_;refine hTk 14 ?_;refine hTk 15 ?_;exact Azmpt
 case rest =>
  obtain⟨r2,a,m,c,D',rfl,rfl,rfl,hz,hlt,hm,hU,hn2,hnr⟩:=hcut;have hdr : ¬ D r:=fun e=>by have h1:=HU.out.at_.lt e;have:=HR.out;omega
  have hzr:=hm.heap hdr Z.out;have HZ2:=za hz;have HLT:=za hlt;have HM:=za hm;have HU3:=za hU;have HNR:=za hnr;have HZR:=za hzr;have HGR:Hid (w0.heap.size≤r):=za (by have:=HU.out.pu.size;have:=HR.out;omega);clear hz hlt hm hU hn2 hnr hdr HA
  cases is with
  | false =>
   obtain⟨hzr_0,hzr_1,hzr_2,hzr_3,hzr_f,hzr_l,H_hzr⟩:=cr4 hzr;clear hzr;go_wp2;obtain⟨Y,hY⟩:=zc ((((wc.setCell ⟨r,0,none⟩ (.string ⟨#[]⟩)).setCell ⟨r,1,none⟩ (.slice none 0 0)).setCell ⟨r,2,none⟩ (.int .u64 0)).setCell ⟨r,3,none⟩ (.int .u64 0));obtain⟨e1,e2,e3⟩:=HU3.out.ent (dl:=0) (b:=0) HZR.out HNR.out HGR.out hY;rw[hY];obtain⟨e2_0,e2_1,e2_2,e2_3,e2_f,e2_l,H_e2⟩:=cr4 e2;clear e2;refine zM (v := .tuple #[uF,.int .i64 14]) (by simp[results,results28,go_sem,e2_0,e2_1,e2_2,e2_3]) rfl ⟨rfl,⟨D',e1⟩,?_⟩;exact Mod.trans' (Mod.trans' HP.out HM.out (fun _ _ e=>e.elim) (fun _ _ e=>e)) e3 (fun _ _ e=>e) (fun i hi e=>by have:=HR.out;omega)
  | true =>
   clear hzr;have c2:=HU3.out.cu.c2 HN.out;have cf:=HU3.out.cu.fr;have cl:=HU3.out.cu.lt;have h4:=HZ2.out;obtain⟨h4_0,h4_1,h4_2,h4_3,h4_f,h4_l,H_h4⟩:=cr4 h4;clear h4;go_upto_region 9 with fail
   go_region
   have e1:yD ((wc.setCell ⟨q,2+n,none⟩ (.int .u64 b)).drew) q p f (plN pl n b):=by
    have e1:=zT wc q (2+n) _ _ (.int .u64 (b:Nat)) HU3.out.cu;rw[U9]at e1;exact e1
   have e2:Mod (fun k=>k=q) wc ((wc.setCell ⟨q,2+n,none⟩ (.int .u64 b)).drew):=((Mod.refl (fun k=>k=q) wc).setCell (p:=⟨q,2+n,none⟩) (fun _=>rfl) (.int .u64 (b:Nat))).drew;have HU9:=za (HU3.out.qbox e2 e1);have hqe : ∀ k v0 v1 v2 v3,wc.heap[k]? = some (.cells #[v0,v1,v2,v3] 47 (0,0)) → ¬ k=q:=fun k v0 v1 v2 v3 hk e=>by
    subst e;have hc:=HU3.out.cu;unfold yD at hc;rw[hc]at hk;injection hk with hk
    injection hk with _ hk
    exact absurd hk (by decide)
   have y2:=e2.heap (hqe _ _ _ _ _ HZ2.out) HZ2.out;have yr:=e2.heap (hqe _ _ _ _ _ HZR.out) HZR.out;generalize(wc.setCell ⟨q,2+n,none⟩ (.int .u64 b)).drew=W9 at *;clear h4_0 h4_1 h4_2 h4_3 h4_f h4_l;clear H_h4 c2 cf cl e1 e2 hqe;have HYR:=za yr;obtain⟨y2_0,y2_1,y2_2,y2_3,y2_f,y2_l,H_y2⟩:=cr4 y2;clear y2;obtain⟨yr_0,yr_1,yr_2,yr_3,yr_f,yr_l,H_yr⟩:=cr4 yr;clear yr;go_wp2;obtain⟨Y,hY⟩:=zc ((((W9.setCell ⟨r,0,none⟩ (.string key)).setCell ⟨r,1,none⟩ (.slice a m c)).setCell ⟨r,2,none⟩ (.int .u64 dl)).setCell ⟨r,3,none⟩ (.int .u64 b));obtain⟨e1,e2,e3⟩:=HU9.out.ent HYR.out HNR.out HGR.out hY;rw[hY];obtain⟨e2_0,e2_1,e2_2,e2_3,e2_f,e2_l,H_e2⟩:=cr4 e2;clear e2;exact zM (v := .tuple #[.agg #[.string key,.slice a m c,.int .u64 dl,.int .u64 b],.int .i64 0]) (by simp[results,results28,go_sem,e2_0,e2_1,e2_2,e2_3]) rfl ⟨a,m,c,rfl,⟨D',e1⟩⟩
theorem Xc(h:KuP w0 q p f pl t w){n tt:Nat}{x:CE}{key:ByteArray}{pl':Nat→Nat}(hn:n<64)(hf:f n=true)(ht:tt≤18446744073709551615)(hr:xR t=0)(ha:pl n≤18446744073709551615)(ht':vY t tt=t')(hl:Yd t' (pl n)=some x)(hk:x.key=key)(hp':plN pl n x.birth=pl') :
  Calls prog 19 #[lkP q,.int .u64 tt,.int .i64 (n:Nat),.string key] w fun e w'=>e=.returned (.bool true)∧KuP w0 q p f pl' t' w':=by
 obtain⟨D,h⟩:=h;subst hk hp' ht';refine zhe (x:=x) (fun W W' g hp=>g.pure hp) ((zbH h hn hf (key:=x.key) (dl:=x.dl) (b:=x.birth) (is:=true) (t':=vY t tt) (fun W hW=>((h.pure hW).at_.afterYes ht hr ha hl).mono ?_)).mono ?_)
 ·rintro e w' ⟨a,m,c,rfl,_,_,hg⟩;exact⟨a,m,c,rfl,hg⟩
 ·rintro e w' ⟨a,m,c,rfl,hg⟩;exact⟨a,m,c,rfl,hg⟩
theorem zjm(h:KuP w0 q p f pl t w){n tt:Nat}(hn:n<64)(hf:f n=true)(ht:tt≤18446744073709551615)(hr:xR t=0)(ha:pl n≤18446744073709551615)(ht':vY t tt=t')(hl:Yd t' (pl n)=none) :
  Calls prog 12 #[lkP q,.int .u64 tt,.int .i64 (n:Nat),uF,.int .i64 14] w fun e w'=>e=.returned (.bool true)∧KuP w0 q p f pl t' w':=by
 obtain⟨D,h⟩:=h;subst ht';refine KT (P:=KuP w0 q p f pl (vY t tt)) (fun W W' g hp=>g.pure hp) (fun W hW=>(zbH (h.pure hW) hn hf (key:=⟨#[]⟩) (dl:=0) (b:=0) (is:=false) (t':=vY t tt) (fun W2 hW2=>(((h.pure hW).pure hW2).at_.afterNo ht hr ha hl).mono ?_)).mono ?_)
 ·rintro e w' ⟨rfl,hg⟩;exact⟨none,0,0,rfl,hg⟩
 ·rintro e w' ⟨rfl,hg,hm⟩;exact⟨rfl,hm.size,fun k k1 k2=>hm.block k k2 (fun e=>by have:=h.at_.lt e;omega),hg⟩
theorem ze9(h:yD w q p f pl){n:Int}(hf:vq f n=false)(tt:Nat):Calls prog 28 #[lkP q,.int .u64 tt,.int .i64 n] w fun e w'=>e=.returned (.tuple #[uF,.int .i64 9])∧zb w w':=by
 have hal:zb w (w.alloc (.cells #[.string ⟨#[]⟩,.slice none 0 0,.int .u64 0,.int .u64 0] 47)):=(Mod.refl _ w).alloc _;have z:=zi (w:=w) (o := .cells #[.string ⟨#[]⟩,.slice none 0 0,.int .u64 0,.int .u64 0] 47 (0,0)) rfl;have HC:=za (Ug (w:=w.alloc (.cells #[.string ⟨#[]⟩,.slice none 0 0,.int .u64 0,.int .u64 0] 47)) (p:=p) (pl:=pl) (hal.heap (fun h=>h) h) hf);have HP:=za hal;have Z:=za z;clear h hal z hf;go_enter func28,ntmps28;go_upto_region 1 with fail
 generalize w.alloc (.cells #[.string ⟨#[]⟩,.slice none 0 0,.int .u64 0,.int .u64 0] 47)=W1 at *;obtain⟨r,hq⟩:=zc w.heap.size;rw[hq]at Z ⊢;have HQ:=za hq;clear hq;have hq2:=Z.out;obtain⟨hq2_0,hq2_1,hq2_2,hq2_3,hq2_f,hq2_l,H_hq2⟩:=cr4 hq2;clear hq2
 go_wp2_with (go_at_call 24;refine HC.out.mono ?_;rintro e w' ⟨rfl,rfl⟩)
 obtain⟨Y,hY⟩:=zc ((((W1.setCell ⟨r,0,none⟩ (.string ⟨#[]⟩)).setCell ⟨r,1,none⟩ (.slice none 0 0)).setCell ⟨r,2,none⟩ (.int .u64 0)).setCell ⟨r,3,none⟩ (.int .u64 0));obtain⟨g1,g2⟩:=ZI Z.out hY;rw[hY];obtain⟨g2_0,g2_1,g2_2,g2_3,g2_f,g2_l,H_g2⟩:=cr4 g2;clear g2;exact zM (v := .tuple #[uF,.int .i64 9]) (by simp[results,results28,go_sem,g2_0,g2_1,g2_2,g2_3]) rfl ⟨rfl,HP.out.then g1 (fun i hi e=>by have:=HQ.out;omega)⟩
theorem zhu(h:KuP w0 q p f pl t w){n:Int}(hf:vq f n=false)(tt:Nat) :
  Calls prog 12 #[lkP q,.int .u64 tt,.int .i64 n,uF,.int .i64 9] w fun e w'=>e=.returned (.bool true)∧KuP w0 q p f pl t w':=by
 refine KT (P:=KuP w0 q p f pl t) (fun W W' g hp=>g.pure hp) (fun W hW => ?_);have hU:=h.pure hW;obtain⟨D,hD⟩:=hU;refine(ze9 hD.cu hf tt).mono ?_;rintro e w' ⟨rfl,hp⟩;exact⟨rfl,hp.size,fun k k1 k2=>hp.block k k2 (fun h=>h),D,hD.pure hp⟩
theorem KE(h:KuP w0 q p f pl t w){n:Nat}{f':Nat→Bool}{pl':Nat→Nat}(hn:ZT f=n)(h64:n<64)(hf':yT f n true=f')(hp':plN pl n 0=pl'):Calls prog 8 #[lkP q,.int .i64 (n:Nat),.int .i64 0] w fun e w'=>e=.returned (.bool true)∧KuP w0 q p f' pl' t w':=zam (zex h hn h64 hf' hp')
theorem zaB(h:KuP w0 q p f pl t w){n:Nat}(h64:n<64)(hf:f n=true){x:Nat}(hx:pl n=x):Calls prog 14 #[lkP q,.int .i64 (n:Nat),.int .u64 (x:Nat),.int .i64 0] w fun e w'=>e=.returned (.bool true)∧w=w':=Qk (zhP h h64 hf hx)
end
end
end Go.Proofs.YtpadepliilhmhaaGreatDoor
