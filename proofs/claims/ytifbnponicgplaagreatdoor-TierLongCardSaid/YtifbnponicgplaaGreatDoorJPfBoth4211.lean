/- Lemmas and contracts of functions. No condition. -/
import Derived.Test.YtifbnponicgplaaGreatDoorJPfBoth4210
import Derived.Test.YtifbnponicgplaaGreatDoorJPfBoth429
import Derived.LoopN
namespace Go.Proofs.YtifbnponicgplaaGreatDoor
open _root_.Go.Proofs.Tryz
set_option maxRecDepth 100000
set_option maxHeartbeats 20000000
set_option linter.all false
section
open Go.RowKit Go.Shelf
variable{Fo:Nat→Prop}
section
variable{w w':World}{D S:Nat→Prop}{d seed:Nat}{same:Bool}{L:List (Option Ent)}{Gs:List Grp}
theorem K4(h:yc Fo w D d seed same L Gs):Calls prog 70 #[xr d] w fun e w'=>e=.returned (.int .i64 (yb L))∧w=w':=by
  obtain⟨q,p,sv,Dl,h1,h2,h3⟩:=h;have HZ:=za (ZL h1);have HC:=za (zkC h1.log);have hb:=h1.box;clear h1 h2 h3;obtain⟨hb_0,hb_1,hb_2,hb_3,hb_f,hb_l,H_hb⟩:=cr4 hb;clear hb;go_enter func70,ntmps70
  go_wp2_with (first
    | (go_at_call 81;refine HZ.out.mono ?_;rintro e w' ⟨rfl,rfl⟩)
    | (go_at_call 118;refine HC.out.mono ?_;rintro e w' ⟨rfl,rfl⟩))
  go_ret;exact⟨rfl,rfl⟩
def KE(w:World)(L:List (Option Ent))(Gs:List Grp)(e:Ending)(w':World):Prop :=
 e=.returned (.tuple #[.int .i64 L.length,.int .i64 Gs.length,.int .i64 (yi Gs)])∧zb w w'
theorem za7(h:yc Fo w D d seed same L Gs):Calls prog 110 #[xr d] w (KE w L Gs):=by
  obtain⟨q,p,sv,Dl,h1,h2,h3⟩:=h;have HZ:=za (ZL h1);have HL:=za (fun(W:World) (hW:zb w W)=>zaN (h1.log.pure hW));have HX:=za (fun(W:World) (hW:zb w W)=>Jn (h1.ix.pure hW));have HT:=za (fun(W:World) (hW:zb w W)=>Kq (h1.ix.pure hW));have hb:=h1.box;clear h1 h2 h3;obtain⟨hb_0,hb_1,hb_2,hb_3,hb_f,hb_l,H_hb⟩:=cr4 hb;clear hb;go_enter func110,ntmps110;go_upto_region 3 with(go_at_call 81;refine HZ.out.mono ?_;rintro e w' ⟨rfl,rfl⟩)
  go_region_held3 (fun w'=>w'.cell? ⟨d,0,none⟩=some (.pointer (some ⟨q,0,none⟩))∧w'.cell? ⟨d,3,none⟩=some (.pointer (some ⟨p,0,none⟩)))
    (first | exact⟨hb_0,hb_3⟩)
    (first
      | (go_at_call 168;(with_reducible refine zq (HL.out _ (by first | exact Mod.refl _ _ | exact Mod.drew (Mod.refl _ _))) ?_);rintro e w1 ⟨rfl,rfl⟩)
      | (go_at_call 133;(with_reducible refine zq (HX.out _ (by first | exact Mod.refl _ _ | exact Mod.drew (Mod.refl _ _))) ?_);rintro e w1 ⟨rfl,rfl⟩)
      | (go_at_call 135;(with_reducible refine zq (HT.out _ (by first | exact Mod.refl _ _ | exact Mod.drew (Mod.refl _ _))) ?_);rintro e w1 ⟨rfl,rfl⟩))
  all_goals
    try go_wp2
    refine zR (v := .tuple #[.int .i64 L.length,.int .i64 Gs.length,.int .i64 (yi Gs)]) (by simp[results,results110,go_sem]) rfl ⟨rfl,?_⟩
    first | exact Mod.refl _ _ | exact Mod.drew (Mod.refl _ _)
def DG(Fo:Nat→Prop)(w W:World)(d seed:Nat)(same:Bool)(L:List (Option Ent))(Gs:List Grp):Prop := ∃ D,yc Fo W D d seed same L Gs∧zb w W ∧ ∀ k,D k→w.heap.size≤k
end
section
variable{w W W':World}{d seed:Nat}{same:Bool}{L:List (Option Ent)}{Gs:List Grp}
theorem DG.pu(h:DG Fo w W d seed same L Gs):zb w W:=by obtain⟨D,h1,h2,h3⟩:=h;exact h2
theorem DG.pure(h:DG Fo w W d seed same L Gs)(hp:zb W W'):DG Fo w W' d seed same L Gs:=by
 obtain⟨D,h1,h2,h3⟩:=h;exact⟨D,h1.pure hp,h2.trans hp,h3⟩
theorem DG.step{D D':Nat→Prop}{L2:List (Option Ent)}{G2:List Grp}(h2:zb w W)(h3 : ∀ k,D k→w.heap.size≤k)(g1:yc Fo W' D' d seed same L2 G2)(g2:Mod D W W')(g3:vO D D' W):DG Fo w W' d seed same L2 G2 :=
 ⟨D',g1,h2.then g2 (fun i hi e=>by have:=h3 i e;omega),fun k hk=>by
  rcases g3 k hk with e | e
  ·exact h3 k e
  ·exact zF h2.size e⟩
end
end
section
open Go.RowKit Go.Shelf
variable{Fo:Nat→Prop}
def zi2(w:World)(x:Ent)(e:Ending)(w':World):Prop :=
 ∃ a n c,e=.returned (.tuple #[.agg #[.string x.key,.slice a n c,.int .u64 x.dl,.int .u64 x.birth],.int .i64 0])∧zW w' (.slice a n c) (zJ x.val)∧xK w (.slice a n c)∧zb w w'
theorem JT{w:World}{D:Nat→Prop}{d seed:Nat}{same:Bool}{L:List (Option Ent)}{Gs:List Grp}(h:yc Fo w D d seed same L Gs){s:Nat}{x:Ent}(hx:L[s]? = some (some x)):Calls prog 43 #[xr d,.int .u32 s] w (zi2 w x):=by
  obtain⟨q,p,sv,Dl,h1,h2,h3⟩:=h;have hsl:s<L.length:=(zE.1 hx).1;have hs:s≤4294967295:=by have:=h1.log.ok.len;omega
  have hp0:zb w (w.alloc (.cells #[.string ⟨#[]⟩,.slice none 0 0,.int .u64 0,.int .u64 0] 70)):=(Mod.refl _ w).alloc _;have z4:=zk (w:=w) (o := .cells #[.string ⟨#[]⟩,.slice none 0 0,.int .u64 0,.int .u64 0] 70 (0,0)) rfl;have HZ:=za (ZL (h1.pure hp0));have HG:=za (ziJ (h1.log.pure hp0) s hs);unfold JZ at HG;rw[hx]at HG;have hb:=(h1.pure hp0).box;have HP:=za hp0;clear h1 h2 h3 hp0 hx;go_enter func43,ntmps43;go_upto_region 1 with fail
  generalize w.alloc (.cells #[.string ⟨#[]⟩,.slice none 0 0,.int .u64 0,.int .u64 0] 70)=W1 at *;obtain⟨b4,hb4⟩:=zf w.heap.size;rw[hb4]at z4 ⊢;have HB:=za hb4;clear hb4;have Z4:=za z4;obtain⟨hb_0,hb_1,hb_2,hb_3,hb_f,hb_l,H_hb⟩:=cr4 hb;clear hb;obtain⟨z4_0,z4_1,z4_2,z4_3,z4_f,z4_l,H_z4⟩:=cr4 z4;clear z4
  go_wp2_with (first
    | (go_at_call 81;refine HZ.out.mono ?_;rintro e w' ⟨rfl,rfl⟩)
    | (go_at_call 82;refine HG.out.mono ?_;rintro e w2 ⟨a,n,c,rfl,hby,hfr,hp2⟩;have k0:=hp2.cell (fun h=>h) z4_0;have k1:=hp2.cell (fun h=>h) z4_1;have k2:=hp2.cell (fun h=>h) z4_2;have k3:=hp2.cell (fun h=>h) z4_3;have kf : ∀ j,w2.frozen? ⟨b4,j,none⟩=false:=(fun j=>(hp2.cells.2 b4 j z4_l).trans (z4_f j));have kl:=hp2.lt z4_l))
  obtain⟨Y,hY⟩:=zf ((((w2.setCell ⟨b4,0,none⟩ (.string x.key)).setCell ⟨b4,1,none⟩ (.slice a n c)).setCell ⟨b4,2,none⟩ (.int .u64 x.dl)).setCell ⟨b4,3,none⟩ (.int .u64 x.birth));have y4:=hp2.heap (fun h=>h) Z4.out;obtain⟨g1,g2⟩:=Xa y4 hY;rw[hY];have x0:=zi _ _ 0 _ _ _ g2;have x1:=zi _ _ 1 _ _ _ g2;have x2:=zi _ _ 2 _ _ _ g2;have x3:=zi _ _ 3 _ _ _ g2;simp at x0 x1 x2 x3;refine zR (v := .tuple #[.agg #[.string x.key,.slice a n c,.int .u64 x.dl,.int .u64 x.birth],.int .i64 0]) (by simp[results,results43,go_sem,x0,x1,x2,x3]) rfl ⟨a,n,c,rfl,?_,?_,?_⟩
  · exact kT hby g1 (fun k _ e cs fz e2=>by subst e;rw[y4]at e2;cases e2)
  · intro g e;have:=hfr g e;have:=HP.out.size;omega
  · exact(HP.out.trans hp2).then g1 (fun i hi e=>by have:=HB.out;omega)
theorem zhE{L:List (Option Ent)}{s:Nat}{x y:Ent}(hx:L[s]? = some (some x))(hk:y.key=x.key)(t:Nat):yL (L.set s (some y)) t=yL L t:=by
 have hs:=(zE.1 hx).1;unfold yL;by_cases e:t=s
 ·subst e;rw[yt hs,hx];exact hk
 ·rw[yw (fun c=>e c.symm)]
theorem zfw{L:List (Option Ent)}{s:Nat}{x y:Ent}(hx:L[s]? = some (some x))(t:Nat):ua (L.set s (some y)) t↔ua L t:=by
 have hs:=(zE.1 hx).1;unfold ua;by_cases e:t=s
 ·subst e;rw[yt hs,hx];exact⟨fun _=>⟨x,rfl⟩,fun _=>⟨y,rfl⟩⟩
 ·rw[yw (fun c=>e c.symm)]
theorem vS.setE{seed:Nat}{same:Bool}{L:List (Option Ent)}{Gs:List Grp}(h:vS seed same L Gs){s:Nat}{x y:Ent}(hx:L[s]? = some (some x))(hk:y.key=x.key):vS seed same (L.set s (some y)) Gs:=by
 have e1:yh seed same (L.set s (some y))=yh seed same L:=funext fun t=>by unfold yh;rw[zhE hx hk]
 have e2:ua (L.set s (some y))=ua L:=funext fun t=>propext (zfw hx t)
 have hs:=(zE.1 hx).1;have hget : ∀(a:Nat) (e:Ent),(L.set s (some y))[a]? = some (some e) → ∃ e',L[a]? = some (some e')∧e'.key=e.key:=fun a e ha=>by
  by_cases c:a=s
  ·subst c;rw[yt hs]at ha;injection ha with ha
   injection ha with ha
   exact⟨x,hx,by rw[← ha,hk]⟩
  ·rw[yw (fun d=>c d.symm)]at ha;exact⟨e,ha,rfl⟩
 refine⟨by rw[e1,e2];exact h.holds,fun a b e f ha hb hef => ?_,?_⟩
 ·obtain⟨e',h1,h2⟩:=hget a e ha;obtain⟨f',h3,h4⟩:=hget b f hb;exact h.keys a b e' f' h1 h3 (by rw[h2,h4,hef])
 ·rw[h.used];have h1:=VW hx;have h2:yb ((L.set s (some y)).set s none)+1=yb (L.set s (some y)):=VW (x:=y) (by rw[yt hs]);rw[List.set_set]at h2;omega
def zgb(Fo:Nat→Prop)(w:World)(D:Nat→Prop)(d seed:Nat)(same:Bool)(L2:List (Option Ent))(Gs:List Grp)(e:Ending)(w':World):Prop :=
 e=.returned (.int .i64 0)∧yc Fo w' D d seed same L2 Gs∧Mod D w w'
theorem zgk{w:World}{D:Nat→Prop}{d seed:Nat}{same:Bool}{L:List (Option Ent)}{Gs:List Grp}(h:yc Fo w D d seed same L Gs){s:Nat}{x:Ent}(hx:L[s]? = some (some x))(a:Option Addr)(n c:Nat)(vs:List UInt8)(hv:zr w (.slice a n c) 1 (zJ vs))(hl:vs.length≤65536)(dl:Int) :
    Calls prog 116 #[xr d,.int .u32 s,.slice a n c,.int .u64 dl] w (zgb Fo w D d seed same (L.set s (some (x.with vs dl))) Gs):=by
  obtain⟨q,p,sv,Dl,h1,h2,h3⟩:=h;obtain⟨lv,M,hM,hrow⟩:=h1.log;obtain⟨v,hMi⟩ : ∃ v,M[s]? = some (some x,v):=by
    rw[← hM,yz]at hx
    cases hm:M[s]? with
    | none=>rw[hm]at hx;cases hx
    | some m=>rw[hm]at hx;obtain⟨m1,m2⟩:=m;simp at hx;exact⟨m2,by rw[hx]⟩
  have HZ:=za (ZL h1);have HS:=za (zgB hrow hMi a n c vs hv hl dl);have HH:=za h1;have HK:=za h2;have HD:=za h3;have HM:=za hM;have HX:=za hx;have hb:=h1.box;clear h1 h2 h3 hM hrow hMi hx hv;obtain⟨hb_0,hb_1,hb_2,hb_3,hb_f,hb_l,H_hb⟩:=cr4 hb;clear hb;go_enter func116,ntmps116
  go_wp2_with (first
    | (go_at_call 81;refine HZ.out.mono ?_;rintro e w' ⟨rfl,rfl⟩)
    | (go_at_call 175;refine HS.out.mono ?_;rintro e w2 ⟨rfl,v',hr2,hm2⟩))
  go_ret;have hlog:yg Fo w2 Dl q (L.set s (some (x.with vs dl))):=⟨lv,_,by rw[← HM.out];simp[List.map_set],hr2⟩;exact⟨rfl,⟨q,p,sv,Dl,KW HH.out hlog hm2,HK.out.setE HX.out rfl,HD.out⟩,hm2.mono (fun i _ h=>(HD.out i).2 (.inr (.inl h)))⟩
end
section
open Go.RowKit
def xN(Fo:Nat→Prop)(w:World)(p:Nat)(ns:List EvN):Prop := ∃ k0 k1 k2 k3 k4 k5,yY Fo w p k0 k1 k2 k3 k4 k5 ns.length ns
def JN(Fo:Nat→Prop)(w:World)(p:Nat)(ns:List EvN)(x:Ev)(e:Ending)(w':World):Prop :=
 e=.returned (.int .i64 0) ∧ ∃ b v,xN Fo w' p (ns++[(b,x,v)])∧w.heap.size≤b∧xK w v∧Mod (evD p ns) w w'
section
variable{Fo:Nat→Prop}{w w':World}{p:Nat}{k0 k1 k2 k3 k4 k5:Int}{th:Nat}{ns:List EvN}
theorem yY.box'(h:yY Fo w p k0 k1 k2 k3 k4 k5 th ns){W:World}(hm:Mod (fun k=>k=p) w W){l0 l1 l2 l3 l4 l5:Int}{th2:Nat}(hb:W.heap[p]? = some (.cells #[xk (nxt ns 0),xk (nxt ns (ns.length-1)),.int .u64 l0,.int .u64 l1,.int .u64 l2,.int .u64 l3,.int .u64 l4,.int .u64 l5,.int .i64 th2,.bool true] 194 (0,0))):yY Fo W p l0 l1 l2 l3 l4 l5 th2 ns :=
 ⟨hb,fun i n hi=>hm.heap (fun e=>h.np (ym hi) e) (h.node i n hi),fun n hn=>zz (h.vals n hn) hm (fun g hg e=>by
  obtain⟨cur,e2⟩:=yd (h.vals n hn) hg;subst e;rw[h.box]at e2;injection e2 with e2;injection e2 with _ e2;exact absurd e2 (by decide)),h.off,h.nd,h.ok,fun k hk=>hm.lt (h.flt k hk)⟩
theorem zkj{w4:World}{x:Ev}{v u0 u1:Value}{bn i th t0:Nat}{ns2:List EvN}{q:Int}(hi:3≤i∧i≤7)(hm4:yY Fo w4 p k0 k1 k2 k3 k4 k5 t0 ns2)
  (hb:w4.heap[p]? = some (.cells #[u0,u1,.int .u64 k0,.int .u64 k1,.int .u64 k2,.int .u64 k3,.int .u64 k4,.int .u64 k5,.int .i64 th,.bool true] 194 (0,0)))
  (hu0:xk (nxt ns2 0)=u0) (hu1:xk (nxt ns2 (ns2.length-1))=u1) (hl:ns2.length=th+1) (hbn:w.heap.size≤bn) (hf:xK w v) (hmo:Mod (evD p ns) w w4) (hn:ns++[(bn,x,v)]=ns2) :
  JN Fo w p ns x (.returned (.int .i64 0)) ((w4.setCell ⟨p,i,none⟩ (.int .u64 q)).setCell ⟨p,8,none⟩ (.int .i64 ((th:Int)+1))).drew:=by
 have h5:=zX w4 p i _ _ (.int .u64 q) hb;have h6:=zX (w4.setCell ⟨p,i,none⟩ (.int .u64 q)) p 8 _ _ (.int .i64 ((th:Int)+1)) h5;have hm:Mod (fun k=>k=p) w4 ((w4.setCell ⟨p,i,none⟩ (.int .u64 q)).setCell ⟨p,8,none⟩ (.int .i64 ((th:Int)+1))).drew:=(((Mod.refl (fun k=>k=p) w4).setCell (p:=⟨p,i,none⟩) (fun _=>rfl) _).setCell (p:=⟨p,8,none⟩) (fun _=>rfl) _).drew;obtain⟨Y,hY⟩:=zf (((w4.setCell ⟨p,i,none⟩ (.int .u64 q)).setCell ⟨p,8,none⟩ (.int .i64 ((th:Int)+1))).drew);have e7:=(show ∀ X:World,X.drew.heap=X.heap from fun _=>rfl) ((w4.setCell ⟨p,i,none⟩ (.int .u64 q)).setCell ⟨p,8,none⟩ (.int .i64 ((th:Int)+1)));rw[hY]at e7 hm ⊢;rw[← e7]at h6;clear e7 hY h5;subst hu0 hu1;have ht:=hmo.trans (hm.mono (fun k _ e => .inl e));have hi':i=3∨i=4∨i=5∨i=6∨i=7:=by omega
 rcases hi' with rfl | rfl | rfl | rfl | rfl<;>exact⟨rfl,bn,v,⟨_,_,_,_,_,_,by rw[hn];exact hm4.box' hm (h6.trans (by rw[hl];rfl))⟩,hbn,hf,ht⟩
theorem zh6(h:yY Fo w p k0 k1 k2 k3 k4 k5 ns.length ns){x:Ev}(hx:x.Ok)(hth:ns.length<1048576){a:Option Addr}{n c:Nat}(hv:zr w (.slice a n c) 1 (zJ x.e.val)) :
    Calls prog 94 #[lkP p,evV x.kind x.e.key (.slice a n c) x.e.birth x.e.dl x.tm] w (JN Fo w p ns x):=by
  have hn:n≤65536:=by have:=jY hv;rw[ur]at this;have:=hx.e.v1;omega
  have HH:=za h;have HX:=za hx;have hb:=h.box;obtain⟨kd,⟨key,val,dl,birth⟩,tm⟩:=x;dsimp only at hv ⊢;obtain⟨K,hK⟩ : ∃ K:Int,(kd:Int)=K:=⟨_,rfl⟩;have hkk:(kd=1∧K=1)∨(kd=2∧K=2)∨(kd=3∧K=3)∨(kd=4∧K=4)∨(kd=5∧K=5):=by have h1:=hx.kd.1;have h2:=hx.kd.2;dsimp only at h1 h2;omega
  rw[hK];have e1:zb w (w.alloc (.cells #[.int .i64 K,.string key,.slice a n c,.int .u64 birth,.int .u64 dl,.int .u64 tm] 78)):=(Mod.refl _ w).alloc _;have z1:=zk (w:=w) (o := .cells #[.int .i64 K,.string key,.slice a n c,.int .u64 birth,.int .u64 dl,.int .u64 tm] 78 (0,0)) rfl;have HE1:=za e1;have HNo:=za (Km (h.pure e1));have hk1:key.size≤250:=hx.e.k1;have hvB:evB K key.size n birth dl tm=true:=by
    have hlen:=jY hv;rw[ur]at hlen;have h0:=hx.e.k0;have h1:=hx.e.k1;have h2:=hx.e.v1;have h3:=hx.e.b0;have h4:=hx.du;dsimp only at h0 h1 h2 h3 h4;unfold evB Xv vp xo Xl;rw[h4];have e5:((birth:Int)==0)=false:=by simp;omega
    have e6:decide ((65536:Int)<(n:Int))=false:=zU (by omega);rw[e5,e6];rcases hkk with⟨rfl,rfl⟩ | ⟨rfl,rfl⟩ | ⟨rfl,rfl⟩ | ⟨rfl,rfl⟩ | ⟨rfl,rfl⟩<;>simp[h0,h1]
  have HVa:=za (fun W=>zgw K key a n c birth dl tm W (by omega) (by omega));rw[hvB]at HVa;have HOw:=za (fun(W:World) (hW:zb w W)=>zer K key a n c birth dl tm (zJ val) W (hv.frame hW (fun _ _ h=>h)) (by omega));have hb1:=e1.heap (fun h=>h) hb;have hAd:=fun(W:World) (hW:zb w W) (a2:Option Addr) (n2 c2:Nat) (hr:zW W (.slice a2 n2 c2) (zJ val)) (hf:xK w (.slice a2 n2 c2))=>zkJ (h.pure hW) (x:=⟨kd,⟨key,val,dl,birth⟩,tm⟩) HX.out hr (fun g hg hfo=>by have:=hf g hg;have:=h.flt g hfo;omega) (fun g hg hd=>by have:=hf g hg;have:=h.lt hd;omega)
  dsimp only at hAd;rw[hK]at hAd;have HAd:=za hAd;clear hAd;have HTH:=za hth;have hnl:n=val.length:=by have:=jY hv;rw[ur]at this;omega
  have HNL:=za hnl;obtain⟨v0,hv0⟩:=zf (xk (nxt ns 0));obtain⟨v1,hv1⟩:=zf (xk (nxt ns (ns.length-1)));rw[hv0,hv1]at hb1;obtain⟨th,hthe⟩:=zf ns.length;rw[hthe]at hb1 hth;have HTE:=za hthe;have dth:decide ((1048576:Int)≤(th:Int))=false:=zU (by omega);have dthn:decide (1048576≤th)=false:=zU (by omega);clear h hx hv hb hK hv0 hv1 hthe hvB hnl;generalize hX:(⟨kd,⟨key,val,dl,birth⟩,tm⟩:Ev)=X at *;generalize hW1:w.alloc (.cells #[.int .i64 K,.string key,.slice a n c,.int .u64 birth,.int .u64 dl,.int .u64 tm] 78)=W1 at *;have HW1:=za hW1;clear hX hW1;rcases hkk with⟨rfl,rfl⟩ | ⟨rfl,rfl⟩ | ⟨rfl,rfl⟩ | ⟨rfl,rfl⟩ | ⟨rfl,rfl⟩
  all_goals
    go_enter func94,ntmps94;go_upto_region 1 with fail
    rw[HW1.out];obtain⟨b3,hb3⟩:=zf w.heap.size;rw[hb3]at z1 ⊢;have HB3:=za hb3;clear hb3;have Z1:=za z1;have HB1:=za hb1;obtain⟨z1_0,z1_1,z1_2,z1_3,z1_4,z1_5,z1_f,z1_l,H_z1⟩:=cr6 z1;clear z1;obtain⟨hb1_0,hb1_1,hb1_2,hb1_3,hb1_4,hb1_5,hb1_6,hb1_7,hb1_8,hb1_9,hb1_f,hb1_l,H_hb1⟩:=jy hb1;clear hb1;go_upto_region 5 with(first
      | (go_at_call 113;refine HNo.out.mono ?_;rintro e w' ⟨rfl,rfl⟩)
      | (go_at_call 152;refine(HVa.out _).mono ?_;rintro e w2 ⟨rfl,hp2⟩))
    have z2:=hp2.heap (fun h=>h) Z1.out;have hb2:=hp2.heap (fun h=>h) HB1.out;have HP2:=za (HE1.out.trans hp2);clear z1_0 z1_1 z1_2 z1_3 z1_4 z1_5 z1_f z1_l;clear hb1_0 hb1_1 hb1_2 hb1_3 hb1_4 hb1_5 hb1_6 hb1_7 hb1_8 hb1_9 hb1_f hb1_l;clear H_z1 H_hb1 hp2;obtain⟨z2_0,z2_1,z2_2,z2_3,z2_4,z2_5,z2_f,z2_l,H_z2⟩:=cr6 z2;clear z2;obtain⟨hb2_0,hb2_1,hb2_2,hb2_3,hb2_4,hb2_5,hb2_6,hb2_7,hb2_8,hb2_9,hb2_f,hb2_l,H_hb2⟩:=jy hb2;clear hb2;go_upto_region 8 with(first
      | (go_at_call 154;refine(HOw.out _ HP2.out).mono ?_;rintro e w3 ⟨a3,n3,c3,rfl,hr3,hf3,hp3⟩;have hbo3:=qD hr3)
      | (go_at_call 153;refine(HAd.out _ (HP2.out.trans hp3) _ _ _ hbo3 (fun g hg=>by have:=hf3 g hg;have:=HP2.out.size;omega)).mono ?_;rintro e w4 ⟨rfl,bn,hbn,hm4,hmod4⟩))
    have hb4:=hm4.box;have z4:=hmod4.heap (fun h=>by have:=HH.out.lt h;have:=HB3.out;omega) (hp3.heap (fun h=>h) H_z2.out);have sz2:w.heap.size≤w2.heap.size:=HP2.out.size;have sz3:w2.heap.size≤w3.heap.size:=hp3.size;have HM4:=za hm4;have HF3:Hid (xK w (.slice a3 n3 c3)):=za (fun g hg=>by have:=hf3 g hg;omega);have HMO:=za (Mod.trans' (HP2.out.trans hp3) hmod4 (fun _ _ h=>h.elim) (fun _ _ h=>h));have hbn':w.heap.size≤bn:=by omega
    clear z2_0 z2_1 z2_2 z2_3 z2_4 z2_5 z2_f z2_l;clear hb2_0 hb2_1 hb2_2 hb2_3 hb2_4 hb2_5 hb2_6 hb2_7 hb2_8 hb2_9 hb2_f hb2_l;clear H_z2 H_hb2 hr3 hf3 hp3 hbo3 hm4 hmod4;generalize hnn:ns++[(bn,X,Value.slice a3 n3 c3)]=ns2 at *;have hl2:ns2.length=th+1:=by rw[← hnn,zT,HTE.out];rfl
    rw[HTE.out]at hb4;obtain⟨u0,hu0⟩:=zf (xk (nxt ns2 0));obtain⟨u1,hu1⟩:=zf (xk (nxt ns2 (ns2.length-1)));rw[hu0,hu1]at hb4;have HU0:=za hu0;have HU1:=za hu1;have HB4:=za hb4;have HL2:=za hl2;have HNN:=za hnn;clear hu0 hu1 hnn hl2;obtain⟨z4_0,z4_1,z4_2,z4_3,z4_4,z4_5,z4_f,z4_l,H_z4⟩:=cr6 z4;clear z4;obtain⟨hb4_0,hb4_1,hb4_2,hb4_3,hb4_4,hb4_5,hb4_6,hb4_7,hb4_8,hb4_9,hb4_f,hb4_l,H_hb4⟩:=jy hb4;clear hb4
    go_still_tail 13,(by kernel_rfl)
    go_upto_region 9 with fail
    have wth:IntKind.i64.wrap ((th:Int)+1)=(th:Int)+1:=zt _ (by omega)
    first | generalize IntKind.u64.wrap (k1+1)=q | generalize IntKind.u64.wrap (k2+1)=q | generalize IntKind.u64.wrap (k3+1)=q | generalize IntKind.u64.wrap (k4+1)=q | generalize IntKind.u64.wrap (k5+1)=q
    go_wp2;go_ret;exact zkj (by omega) HM4.out HB4.out HU0.out HU1.out HL2.out hbn' HF3.out HMO.out HNN.out
theorem zfU(h:xN Fo w p ns){x:Ev}(hx:x.Ok)(hth:ns.length<1048576){a:Option Addr}{n c:Nat}(hv:zr w (.slice a n c) 1 (zJ x.e.val)) :
  Calls prog 94 #[lkP p,evV x.kind x.e.key (.slice a n c) x.e.birth x.e.dl x.tm] w (JN Fo w p ns x):=by
 obtain⟨k0,k1,k2,k3,k4,k5,h⟩:=h;exact zh6 h hx hth hv
end
theorem zcW:(prog.info? 78).map (fun i=>(i.zero,i.size,i.bytes))=some (some (.agg #[.int .i64 0,.string ⟨#[]⟩,.slice none 0 0,.int .u64 0,.int .u64 0,.int .u64 0]),6,72):=by kernel_rfl
def jU(x:Ev × Value):List Value:=[.int .i64 x.1.kind,.string x.1.e.key,x.2,.int .u64 x.1.e.birth,.int .u64 x.1.e.dl,.int .u64 x.1.tm]
structure jV(w:World)(a:Option Addr)(c:Nat)(es:List (Ev × Value)):Prop where
 row:w.ownsRow 0 78 6 (.slice a es.length c) es.length (es.flatMap jU)
 vals : ∀ x∈es,zW w x.2 (zJ x.1.e.val)
def jG(ns:List EvN):List (Ev × Value):=ns.map (fun n=>n.2)
theorem zb1(ns:List EvN):(jG ns).length=ns.length:=by unfold jG;simp
section
variable{Fo:Nat→Prop}{w w':World}{p:Nat}{ns:List EvN}
theorem zel(o:Option Nat) : ∃ v,xk o=.pointer v:=by cases o<;>exact⟨_,rfl⟩
structure TkI(w wr:World)(p:Nat)(ns:List EvN)(k0 k1 k2 k3 k4 k5:Int)(i:Nat)(a:Option Addr)(c:Nat):Prop where
 box:wr.heap[p]? = some (.cells #[xk (nxt ns i),xk (nxt ns (ns.length-1)),.int .u64 k0,.int .u64 k1,.int .u64 k2,.int .u64 k3,.int .u64 k4,.int .u64 k5,.int .i64 ((ns.length-i:Nat):Int),.bool true] 194 (0,0))
 row:wr.ownsRow 0 78 6 (.slice a i c) i (((jG ns).take i).flatMap jU)
 fr:xK w (.slice a i c)
 mod:Mod (fun k=>k=p) w wr
def zlO(Fo:Nat→Prop)(w:World)(p:Nat)(ns:List EvN)(e:Ending)(w':World):Prop :=
 ∃ a c,e=.returned (.tuple #[.slice a ns.length c,.int .i64 0])∧jV w' a c (jG ns)∧xK w (.slice a ns.length c)∧xN Fo w' p []∧Mod (fun k=>k=p) w w'
theorem zjX(h:xN Fo w p ns)(hlen:ns.length≤1048576):Calls prog 64 #[lkP p,.int .i64 ns.length] w (zlO Fo w p ns):=by
 obtain⟨k0,k1,k2,k3,k4,k5,h⟩:=h;have HNo:=za (Km h);have HH:=za h;clear h;have HLE:=za hlen;obtain⟨n,hn⟩:=zf ns.length;have HN:=za hn;rw[hn]at hlen ⊢;clear hn;obtain⟨i0,hi,iz0,iz1,iz2⟩:=xB zcW;have dn0:decide ((n:Int)<0)=false:=zU (by omega);go_enter func64,ntmps64;go_upto_region 6 with(go_at_call 113;refine HNo.out.mono ?_;rintro e w' ⟨rfl,rfl⟩)
 go_loopw [6] (fun v wr => ∃(i:Nat) (a:Option Addr) (c:Nat),v=.slice a i c∧i≤n∧TkI w wr p ns k0 k1 k2 k3 k4 k5 i a c) (fun v _=>n-(match v with | .slice _ m _=>m | _=>0))
 case atStart =>
  refine⟨0,none,0,rfl,yq _,⟨?_,vV _ _ _ _,(fun g hg=>by cases hg),Mod.refl _ _⟩⟩;have:=HH.out.box;simpa using this
 case round =>
  obtain⟨i,a,c,rfl,hin,hI⟩:=hrel;have HI:=za hI;have hb:=hI.box;clear hI;obtain⟨v1,hv1⟩:=zf (xk (nxt ns (ns.length-1)));rw[hv1]at hb;have HV1:=za hv1;clear hv1;by_cases hlt:i<n
  ·obtain⟨nn,hnn⟩ : ∃ nn,ns[i]? = some nn:=⟨_,zO (by have:=HN.out;omega)⟩;have hnx:nxt ns i=some nn.1:=by unfold nxt;rw[hnn];rfl
   rw[hnx]at hb;have hnd:=HI.out.mod.heap (HH.out.np (ym hnn)) (HH.out.node i nn hnn);have htk:(jG ns).take (i+1)=(jG ns).take i++[nn.2]:=by
    have:(jG ns)[i]? = some nn.2:=by unfold jG;rw[yz,hnn];rfl
    rw[uH,this];rfl
   have hvs:=HH.out.vals nn (ym hnn);have hnp:=HH.out.np (ym hnn);have HTK:=za htk;have HB:=za hb;obtain⟨v2,hv2⟩ : ∃ v,xk (nxt ns (i+1))=.pointer v:=zel _;rw[hv2]at hnd;have HV2:=za hv2;obtain⟨bl,⟨kd,⟨key,val,dl,birth⟩,tm⟩,nv⟩:=nn;obtain⟨va,vn,vc,rfl⟩ : ∃ a n c,nv=.slice a n c:=by obtain⟨va,vc,e,_⟩:=jc hvs;exact⟨_,_,_,e⟩
   dsimp only at hnd hnp;clear hnn hnx htk hvs hv2;dsimp only[xk]at hb;have HND:=za hnd;obtain⟨m,hm⟩:=zf (ns.length-i);rw[hm]at hb HB;have HM:=za hm;clear hm;have hlt':(i:Int)<(n:Int):=by omega
   have wm:IntKind.i64.wrap ((m:Int)-1)=(m:Int)-1:=zt _ (by have:=HM.out;have:=HLE.out;omega);obtain⟨hb_0,hb_1,hb_2,hb_3,hb_4,hb_5,hb_6,hb_7,hb_8,hb_9,hb_f,hb_l,H_hb⟩:=jy hb;clear hb;obtain⟨hnd_0,hnd_1,hnd_2,hnd_3,hnd_4,hnd_5,hnd_6,hnd_f,hnd_l,H_hnd⟩:=cr7 hnd;clear hnd;go_upto_region 8 with(at_builtin;refine uX _ rfl _ _ 43 rfl 78 i0 _ 6 72 underlying43 hi iz0 iz1 iz2 rfl (by decide) (.slice a i c) i _ rfl (zz HI.out.row ((Mod.refl (fun _=>False) wr).alloc _) (fun _ _ h=>h)) _ [.int .i64 kd,.string key,.slice va vn vc,.int .u64 birth,.int .u64 dl,.int .u64 tm] 1 rfl (zr.of_block 1 1 6 (zk rfl) (by rfl) (by simp[Value.oneCell'])) rfl (by unfold maxLen;omega) (by omega) ?_;intro a7 c7 w7 hr7 hg7 hb7)
   have hpl:p<w.heap.size:=zm HH.out.box;have hm7:Mod (fun k=>(Value.slice a i c).ownBlock=some k) wr w7:=((Mod.refl _ wr).alloc _).trans (Mod.of_grown (S:=fun k'=>(Value.slice a i c).ownBlock=some k') hg7 (fun k e _=>e));have hbx7:=hm7.heap (fun e=>by have:=HI.out.fr p e;omega) HB.out;have hnx7:=hm7.heap (fun e=>by have:=HI.out.fr bl e;have:=zm HND.out;have h8:=HH.out.lt (p:=p) (k:=bl);obtain⟨cu,e9⟩:=yd HI.out.row e;rw[HND.out]at e9;injection e9 with e9;injection e9 with _ e9;exact absurd e9 (by decide)) HND.out;have hf7:xK w (.slice a7 (i+1) c7):=fun g hg=>by
    rcases hb7 with e | e
    ·exact HI.out.fr g (e ▸ hg)
    ·rw[e]at hg;cases hg;have:=HI.out.mod.size;simp;omega
   have HB7:=za hbx7;have HF7:=za hf7;have HR7:=za hr7;have HM7:=za hm7;clear hb_0 hb_1 hb_2 hb_3 hb_4 hb_5 hb_6 hb_7 hb_8 hb_9 hb_f hb_l;clear hnd_0 hnd_1 hnd_2 hnd_3 hnd_4 hnd_5 hnd_6 hnd_f hnd_l;clear H_hb H_hnd hb7 hg7 hr7 hm7 hf7;dsimp only[xk]at hbx7;obtain⟨hbx7_0,hbx7_1,hbx7_2,hbx7_3,hbx7_4,hbx7_5,hbx7_6,hbx7_7,hbx7_8,hbx7_9,hbx7_f,hbx7_l,H_hbx7⟩:=jy hbx7;clear hbx7;obtain⟨hnx7_0,hnx7_1,hnx7_2,hnx7_3,hnx7_4,hnx7_5,hnx7_6,hnx7_f,hnx7_l,H_hnx7⟩:=cr7 hnx7;clear hnx7;go_upto_region 9 with fail
   have h8:=zX w7 p 0 _ _ (.pointer v2) HB7.out;have hm8:Mod (fun k=>k=p) w7 (w7.setCell ⟨p,0,none⟩ (.pointer v2)):=(Mod.refl (fun k=>k=p) w7).setCell (p:=⟨p,0,none⟩) (fun _=>rfl) _;obtain⟨X8,hX8⟩:=zf (w7.setCell ⟨p,0,none⟩ (.pointer v2));rw[hX8]at h8 hm8 ⊢;have H8:=za h8;have HM8:=za hm8;clear hbx7_0 hbx7_1 hbx7_2 hbx7_3 hbx7_4 hbx7_5 hbx7_6 hbx7_7 hbx7_8 hbx7_9 hbx7_f hbx7_l;clear hnx7_0 hnx7_1 hnx7_2 hnx7_3 hnx7_4 hnx7_5 hnx7_6 hnx7_f hnx7_l;clear H_hbx7 H_hnx7 hX8 hm8;simp only[List.setIfInBounds_toArray,List.set_cons_succ,List.set_cons_zero,xk]at h8;obtain⟨h8_0,h8_1,h8_2,h8_3,h8_4,h8_5,h8_6,h8_7,h8_8,h8_9,h8_f,h8_l,H_h8⟩:=jy h8;clear h8;go_wp2;go_roundw
   case rel =>
    have h9:=zX X8 p 8 _ _ (.int .i64 ((m:Int)-1)) H8.out;have hm9:Mod (fun k=>k=p) X8 (X8.setCell ⟨p,8,none⟩ (.int .i64 ((m:Int)-1))):=(Mod.refl (fun k=>k=p) X8).setCell (p:=⟨p,8,none⟩) (fun _=>rfl) _;have hm79:=HM8.out.trans hm9;refine⟨i+1,a7,c7,rfl,hlt,⟨?_,?_,HF7.out,?_⟩⟩
    ·rw[h9,HV2.out,HV1.out];have e9:((ns.length-(i+1):Nat):Int)=(m:Int)-1:=by have:=HM.out;have:=HN.out;omega
     rw[e9]
     rfl
    ·rw[HTK.out,ZQ];have h10:=zz HR7.out hm79 (fun g hg e=>by
      obtain⟨cu,e9⟩:=yd HR7.out hg;subst e;rw[HB7.out]at e9;injection e9 with e9;injection e9 with _ e9;exact absurd e9 (by decide))
     simpa[jU]using h10
    ·exact(HI.out.mod.then HM7.out (fun k hk e=>by have:=HI.out.fr k e;omega)).trans hm79
   case measure=>simp;omega
  ·have hin':i=n:=by omega
   subst hin';have hnx:nxt ns i=none:=Ko (by have:=HN.out;omega);rw[hnx]at hb;dsimp only[xk]at hb;have HB:=za hb;have hlt':(i:Int)≤(i:Int):=Int.le_refl _;obtain⟨hb_0,hb_1,hb_2,hb_3,hb_4,hb_5,hb_6,hb_7,hb_8,hb_9,hb_f,hb_l,H_hb⟩:=jy hb;clear hb;go_wp2;have h9:=zX wr p 1 _ _ (.pointer none) HB.out;have hm9:Mod (fun k=>k=p) wr (wr.setCell ⟨p,1,none⟩ (.pointer none)):=(Mod.refl (fun k=>k=p) wr).setCell (p:=⟨p,1,none⟩) (fun _=>rfl) _;go_ret2;refine⟨a,c,by rw[HN.out];rfl,⟨?_,fun x hx => ?_⟩,by rw[HN.out];exact HI.out.fr,⟨k0,k1,k2,k3,k4,k5,⟨?_,(fun j m' hj=>by cases hj),(fun m' hm'=>by cases hm'),(fun m' hm'=>by cases hm'),jR,(fun m' hm'=>by cases hm'),fun k hk=>hm9.lt (HI.out.mod.lt (HH.out.flt k hk))⟩⟩,HI.out.mod.trans hm9⟩
   ·have h10:=HI.out.row;rw[jX (by rw[zb1,HN.out];exact zN _)]at h10;have h11:=zz h10 hm9 (fun g hg e=>by
     obtain⟨cu,e9⟩:=yd h10 hg;subst e;rw[HB.out]at e9;injection e9 with e9;injection e9 with _ e9;exact absurd e9 (by decide))
    rw[zb1,HN.out];exact h11
   ·obtain⟨m',hm',rfl⟩:=zI.1 hx;exact zz (HH.out.vals m' hm') (HI.out.mod.trans hm9) (fun g hg e=>by
     obtain⟨cu,e9⟩:=yd (HH.out.vals m' hm') hg;subst e;rw[HH.out.box]at e9;injection e9 with e9;injection e9 with _ e9;exact absurd e9 (by decide))
   ·rw[h9];have e9:((ns.length-i:Nat):Int)=0:=by have:=HN.out;omega
    rw[e9]
    rfl
end
def Zj(ns:List EvN):List Ev:=ns.map (fun n=>n.2.1)
section
variable{Fo Fo' S:Nat→Prop}{w w':World}
theorem zV.frameR{D:Nat→Prop}{p:Nat}{sv:Value}{M:List (Option Ent × Value)}(h:zV Fo w D p sv M)(hm:Mod S w w')(hD : ∀ k,D k → ¬ S k)(hS : ∀ k,k<w.heap.size→S k→Fo k)(h1 : ∀ k,Fo' k→Fo k∨w.heap.size≤k)(h2 : ∀ k,Fo' k→k<w'.heap.size):zV Fo' w' D p sv M:=by
 have h':=h.frameF hm hD (fun k hk hs => .inl (hS k hk hs));refine⟨h'.box,h'.row,h'.vals,h'.dd,h'.ok,fun e v g hv hg hf => ?_,h2⟩;rcases h1 g hf with hx | hx
 ·exact h.off e v g hv hg hx
 ·have:=xV (h.vals e v hv) hg;omega
theorem yg.frameR{D:Nat→Prop}{p:Nat}{L:List (Option Ent)}(h:yg Fo w D p L)(hm:Mod S w w')(hD : ∀ k,D k → ¬ S k)(hS : ∀ k,k<w.heap.size→S k→Fo k)(h1 : ∀ k,Fo' k→Fo k∨w.heap.size≤k)(h2 : ∀ k,Fo' k→k<w'.heap.size):yg Fo' w' D p L:=by
 obtain⟨sv,M,e,h⟩:=h;exact⟨sv,M,e,h.frameR hm hD hS h1 h2⟩
theorem ya.frameR{d q p:Nat}{sv:Value}{Dl:Nat→Prop}{seed:Nat}{same:Bool}{L:List (Option Ent)}{Gs:List Grp}(h:ya Fo w d q p sv Dl seed same L Gs)(hm:Mod S w w')(hD : ∀ k,jO d Dl p sv k → ¬ S k)(hS : ∀ k,k<w.heap.size→S k→Fo k)(h1 : ∀ k,Fo' k→Fo k∨w.heap.size≤k)(h2 : ∀ k,Fo' k→k<w'.heap.size):ya Fo' w' d q p sv Dl seed same L Gs:=by
 have h':=h.frameF hm hD (fun k hk hs => .inl (hS k hk hs));exact⟨h'.box,h.log.frameR hm (fun k hk=>hD k (.inr (.inl hk))) hS h1 h2,h'.ix,h'.sd⟩
theorem yc.frameR{D:Nat→Prop}{d seed:Nat}{same:Bool}{L:List (Option Ent)}{Gs:List Grp}(h:yc Fo w D d seed same L Gs)(hm:Mod S w w')(hD : ∀ k,D k → ¬ S k)(hS : ∀ k,k<w.heap.size→S k→Fo k)(h1 : ∀ k,Fo' k→Fo k∨w.heap.size≤k)(h2 : ∀ k,Fo' k→k<w'.heap.size):yc Fo' w' D d seed same L Gs:=by
 obtain⟨q,p,sv,Dl,h3,h4,h5⟩:=h;exact⟨q,p,sv,Dl,h3.frameR hm (fun k hk=>hD k ((h5 k).2 hk)) hS h1 h2,h4,h5⟩
theorem zV.add{D:Nat→Prop}{p:Nat}{sv:Value}{M:List (Option Ent × Value)}{T:Nat→Prop}(h:zV Fo w D p sv M)(hT : ∀ k,T k → ∃ ob,w.heap[k]? = some ob ∧ ∀ cs fz,ob ≠ .cells cs 5 fz):zV (fun k=>Fo k∨T k) w D p sv M:=by
 refine⟨h.box,h.row,h.vals,h.dd,h.ok,fun e v g hv hg hf => ?_,fun k hk => ?_⟩
 ·rcases hf with hf | hf
  ·exact h.off e v g hv hg hf
  ·obtain⟨ob,h1,h2⟩:=hT g hf;obtain⟨cur,h3⟩:=yd (h.vals e v hv) hg;rw[h1]at h3;injection h3 with h3
   exact h2 _ _ h3
 ·rcases hk with hk | hk
  ·exact h.flt k hk
  ·obtain⟨ob,h1,_⟩:=hT k hk;exact(kr.1 h1).1
theorem yc.add{D T:Nat→Prop}{d seed:Nat}{same:Bool}{L:List (Option Ent)}{Gs:List Grp}(h:yc Fo w D d seed same L Gs)(hT : ∀ k,T k → ∃ ob,w.heap[k]? = some ob ∧ ∀ cs fz,ob ≠ .cells cs 5 fz):yc (fun k=>Fo k∨T k) w D d seed same L Gs:=by
 obtain⟨q,p,sv,Dl,h3,h4,h5⟩:=h;obtain⟨lv,M,e,h6⟩:=h3.log;exact⟨q,p,sv,Dl,⟨h3.box,⟨lv,M,e,h6.add hT⟩,h3.ix,h3.sd⟩,h4,h5⟩
theorem yc.less{D:Nat→Prop}{d seed:Nat}{same:Bool}{L:List (Option Ent)}{Gs:List Grp}(h:yc Fo w D d seed same L Gs)(h1 : ∀ k,Fo' k→Fo k):yc Fo' w D d seed same L Gs:=h.refo (Mod.refl _ w) (fun k hk => .inl (h1 k hk)) (fun k hk=>by
 obtain⟨q,p,sv,Dl,h3,h4,h5⟩:=h;obtain⟨lv,M,e,h6⟩:=h3.log;exact h6.flt k (h1 k hk))
theorem yc.holds{D:Nat→Prop}{d seed:Nat}{same:Bool}{L:List (Option Ent)}{Gs:List Grp}(h:yc Fo w D d seed same L Gs){k:Nat}(hk:D k) : ∃ ob,w.heap[k]? = some ob ∧ ∀ cs fz,ob ≠ .cells cs 5 fz:=by
 have hl:=h.lt hk;refine⟨_,qN hl,fun cs fz e => ?_⟩;have h1:=h.types hk (cs:=cs) (T:=5) (fz:=fz) (by rw[qN hl,e]);rcases h1 with h1 | h1 | h1 | h1 | h1<;>exact absurd h1 (by decide)
theorem yY.frameR{p:Nat}{k0 k1 k2 k3 k4 k5:Int}{th:Nat}{ns:List EvN}(h:yY Fo w p k0 k1 k2 k3 k4 k5 th ns)(hm:Mod S w w')(hD : ∀ k,evD p ns k → ¬ S k)(hS : ∀ k,k<w.heap.size→S k→Fo k)(h1 : ∀ k,Fo' k→Fo k∨w.heap.size≤k)(h2 : ∀ k,Fo' k→k<w'.heap.size):yY Fo' w' p k0 k1 k2 k3 k4 k5 th ns:=by
 have h':=h.frameF hm hD (fun k hk hs => .inl (hS k hk hs));refine⟨h'.box,h'.node,h'.vals,fun n hn g hg hf => ?_,h'.nd,h'.ok,h2⟩;rcases h1 g hf with hx | hx
 ·exact h.off n hn g hg hx
 ·have:=xV (h.vals n hn) hg;omega
theorem yY.add{T:Nat→Prop}{p:Nat}{k0 k1 k2 k3 k4 k5:Int}{th:Nat}{ns:List EvN}(h:yY Fo w p k0 k1 k2 k3 k4 k5 th ns)(hT : ∀ k,T k → ∃ ob,w.heap[k]? = some ob ∧ ∀ cs fz,ob ≠ .cells cs 5 fz):yY (fun k=>Fo k∨T k) w p k0 k1 k2 k3 k4 k5 th ns:=by
 refine⟨h.box,h.node,h.vals,fun n hn g hg hf => ?_,h.nd,h.ok,fun k hk => ?_⟩
 ·rcases hf with hf | hf
  ·exact h.off n hn g hg hf
  ·obtain⟨ob,h1,h2⟩:=hT g hf;obtain⟨cur,h3⟩:=yd (h.vals n hn) hg;rw[h1]at h3;injection h3 with h3
   exact h2 _ _ h3
 ·rcases hk with hk | hk
  ·exact h.flt k hk
  ·obtain⟨ob,h1,_⟩:=hT k hk;exact(kr.1 h1).1
theorem xN.frameR{p:Nat}{ns:List EvN}(h:xN Fo w p ns)(hm:Mod S w w')(hD : ∀ k,evD p ns k → ¬ S k)(hS : ∀ k,k<w.heap.size→S k→Fo k)(h1 : ∀ k,Fo' k→Fo k∨w.heap.size≤k)(h2 : ∀ k,Fo' k→k<w'.heap.size):xN Fo' w' p ns:=by
 obtain⟨k0,k1,k2,k3,k4,k5,h⟩:=h;exact⟨k0,k1,k2,k3,k4,k5,h.frameR hm hD hS h1 h2⟩
theorem xN.add{T:Nat→Prop}{p:Nat}{ns:List EvN}(h:xN Fo w p ns)(hT : ∀ k,T k → ∃ ob,w.heap[k]? = some ob ∧ ∀ cs fz,ob ≠ .cells cs 5 fz):xN (fun k=>Fo k∨T k) w p ns:=by
 obtain⟨k0,k1,k2,k3,k4,k5,h⟩:=h;exact⟨k0,k1,k2,k3,k4,k5,h.add hT⟩
theorem xN.less{p:Nat}{ns:List EvN}(h:xN Fo w p ns)(h1 : ∀ k,Fo' k→Fo k):xN Fo' w p ns:=by
 obtain⟨k0,k1,k2,k3,k4,k5,h⟩:=h;exact⟨k0,k1,k2,k3,k4,k5,h.refo (Mod.refl _ w) (fun k hk => .inl (h1 k hk)) (fun k hk=>h.flt k (h1 k hk))⟩
theorem xN.lt{p:Nat}{ns:List EvN}(h:xN Fo w p ns){k:Nat}(hk:evD p ns k):k<w.heap.size:=by
 obtain⟨k0,k1,k2,k3,k4,k5,h⟩:=h;exact h.lt hk
theorem xN.flt{p:Nat}{ns:List EvN}(h:xN Fo w p ns){k:Nat}(hk:Fo k):k<w.heap.size:=by
 obtain⟨k0,k1,k2,k3,k4,k5,h⟩:=h;exact h.flt k hk
theorem xN.holds{p:Nat}{ns:List EvN}(h:xN Fo w p ns){k:Nat}(hk:evD p ns k) : ∃ ob,w.heap[k]? = some ob ∧ ∀ cs fz,ob ≠ .cells cs 5 fz:=by
 obtain⟨k0,k1,k2,k3,k4,k5,h⟩:=h;rcases hk with rfl | ⟨n,hn,rfl⟩
 ·exact⟨_,h.box,fun cs fz e=>by injection e with _ e;exact absurd e (by decide)⟩
 ·obtain⟨i,hi⟩:=uk hn;exact⟨_,h.node i n hi,fun cs fz e=>by injection e with _ e;exact absurd e (by decide)⟩
end
end
section
open Go.RowKit Go.Maps Go.Shelf
attribute [local go_sem] Oper.semAt_some
theorem Xg:(prog.info? 247).map (fun i=>(i.zero,i.size,i.bytes))=some (some (.agg #[.int .u32 0,.int .i64 0]),2,16):=by kernel_rfl
def wtC(x:Wt):List Value:=[.int .u32 x.slot,.int .i64 x.cost]
abbrev Z5(w:World)(a:Option Addr)(c:Nat)(xs:List Wt):Prop:=w.ownsRow 0 247 2 (.slice a xs.length c) xs.length (xs.flatMap wtC)
section
variable{w w':World}{D S:Nat→Prop}{o l0 l1 bm:Nat}{lim:Int}{D0 D1:Nat→Prop}{Dm:DataW Unit}{A B:List Wt}
theorem zdC(h:yG w D o l0 l1 bm lim D0 D1 Dm A B){g:Nat}(hg:g≤1):Calls prog 166 #[lkP o,.int .i64 g] w fun e w'=>e=.returned (.bool true)∧w=w':=by
 have HC:=za (Jl h (s:=0) (by omega));clear h;obtain rfl | rfl:g=0∨g=1:=by omega
 all_goals
  go_enter func166,ntmps166
  go_wp2_with (go_at_call 83;refine HC.out.mono ?_;rintro e w' ⟨rfl,rfl⟩)
  go_ret;exact⟨rfl,rfl⟩
structure LsI(w:World)(o b2 b5 N:Nat)(L:List Wt)(pre:List Nat)(W:World):Prop where
 pu:zb w W
 r2:W.heap[b2]? = some (.cells #[lkP o] 93 (0,0))
 row : ∃ a c,W.heap[b5]? = some (.cells #[.slice a pre.length c] 202 (0,0))∧W.ownsRow 0 247 2 (.slice a pre.length c) pre.length ((L.take pre.length).flatMap wtC) ∧ ∀ g,(Value.slice a pre.length c).ownBlock=some g→N≤g
theorem LsI.quiet{o b2 b5 N0:Nat}{L:List Wt}{pre:List Nat}{A B:World}(h:LsI w o b2 b5 N0 L pre A){N:Nat}(hN:w.heap.size≤N)(hq:zB N A B):LsI w o b2 b5 N0 L pre B:=by
 obtain⟨a,c,h1,h2,h3⟩:=h.row;exact⟨hq.mod h.pu hN,hq.cells h.r2,a,c,hq.cells h1,hq.owns h2,h3⟩
def ZT(w:World)(L:List Wt)(e:Ending)(w':World):Prop := ∃ a c,e=.returned (.slice a L.length c)∧Z5 w' a c L∧xq w (.slice a L.length c)∧zb w w'
def LsS(o bm b2 x cc:Nat)(X:World):Prop:=X.cell? ⟨b2,0,none⟩=some (lkP o)∧X.cell? ⟨o,4,none⟩=some (.map (some bm))∧(Instr.lookup 153 (.map (some bm)) (.int .u32 x) false).run prog X=.ok (.int .i64 cc) X
theorem zch{G:Int}{L:List Wt}{lq:Nat}{Dq:Nat→Prop}(h:yG w D o l0 l1 bm lim D0 D1 Dm A B)(hG:G=0∧lq=l0∨G=1∧lq=l1)(hq : ∀ W,zb w W→y5 W Dq lq (zA L))(hL : ∀ x∈L,x∈A++B)(hLl:L.length≤(A++B).length):Calls prog 109 #[lkP o,.int .i64 G] w (ZT w L):=by
 have hal:zb w ((w.alloc (.cells #[lkP o] 93)).alloc (.cells #[.slice none 0 0] 202)):=((Mod.refl _ w).alloc _).alloc _;have hal1:zb w (w.alloc (.cells #[lkP o] 93)):=(Mod.refl _ w).alloc _;have hb2:=zK (o := .cells #[.slice none 0 0] 202) (zk (w:=w) (o := .cells #[lkP o] 93 (0,0)) rfl);have hb5:=zk (w:=w.alloc (.cells #[lkP o] 93)) (o := .cells #[.slice none 0 0] 202 (0,0)) (n:=w.heap.size+1) (by simp);have HHs:Hid (Calls prog 166 #[lkP o,.int .i64 G] (w.alloc (.cells #[lkP o] 93)) fun e w'=>e=.returned (.bool true)∧(w.alloc (.cells #[lkP o] 93))=w'):=za (by
  rcases hG with⟨e,_⟩ | ⟨e,_⟩<;>rw[e]
  ·exact zdC (h.pure hal1) (g:=0) (by omega)
  ·exact zdC (h.pure hal1) (g:=1) (by omega))
 have HH:=za (h.pure hal);have HAll:=za (zio (hq _ hal));have hlen:L.length≤4194304:=by have:=h.law.len;omega
 have hsl:(zA L).length=L.length:=by unfold zA;simp
 have hob:=(h.pure hal).box;have HAL:=za hal;have HLT:=za (fun k (hk:D k)=>h.lt hk);have ho1:o<w.heap.size:=zm h.box;have hb1:bm<w.heap.size:=h.costs.own.lt;have HL9:=za hL;clear h hal hal1 hq hL hLl;obtain⟨i0,hi,iz0,iz1,iz2⟩:=xB Xg;rcases hG with⟨rfl,rfl⟩ | ⟨rfl,rfl⟩
 all_goals
  (refine(yB (n:=0)).1 (callsIn_of_wp_marks func109 rfl trivial (kH.2 ?_) rfl);simp only[ntmps109,List.size_toArray,List.length_cons,List.length_nil,Nat.reduceAdd,Nat.reduceSub,Array.replicate_succ,Array.replicate_zero,List.push_toArray,List.append_toArray,List.nil_append,List.cons_append])
  go_upto_region 4 with(go_at_call 166;refine HHs.out.mono ?_;rintro e w' ⟨rfl,rfl⟩)
  generalize(w.alloc (.cells #[lkP o] 93)).alloc (.cells #[.slice none 0 0] 202)=W1 at *;obtain⟨b2,hbe⟩:=zf w.heap.size;rw[hbe]at hb2 hb5 ⊢;have HBE:=za hbe;clear hbe;have ho2:o<b2:=by have:=HBE.out;omega
  have hb22:bm<b2:=by have:=HBE.out;omega
  have HB2:=za hb2;have HB5:=za hb5;have HCo:=za (fun(x:Wt) (hx:x∈L) (X:World) (hX:Mod (fun k=>b2<k) W1 X)=>(HH.out.costs.mod hX (fun e=>by omega)).look1 (x:=x) (HL9.out x hx) (by have:=(HH.out.law.rng x (HL9.out x hx)).1;omega));have HOB:=za hob;have W1s:b2+1<W1.heap.size:=zm hb5;generalize zw A=sa at *;generalize zw B=sb at *;obtain⟨hob_0,hob_1,hob_2,hob_3,hob_4,hob_5,hob_f,hob_l,H_hob⟩:=cr6 hob;clear hob;obtain⟨hb2_0,hb2_f,hb2_l,H_hb2⟩:=cr1 hb2;clear hb2
  go_wp2_with (go_at_call 167;refine HAll.out.mono ?_;rintro e w3 ⟨B3,a3,c3,rfl,hit,hp3,hB3,hf3⟩)
  have hItlt : ∀ k,qy B3 a3 (zA L).length c3 k→k<w3.heap.size:=by
   rintro k (rfl | h2)
   ·exact zm hit.box
   ·exact xV hit.row h2
  have hItge : ∀ k,qy B3 a3 (zA L).length c3 k→W1.heap.size≤k:=by
   rintro k (rfl | h2)
   ·exact hB3
   ·exact hf3 k h2
  have hI0:LsI w o b2 (b2+1) w3.heap.size L [] w3:=⟨HAL.out.trans hp3,hp3.heap (fun h=>h) HB2.out,none,0,hp3.heap (fun h=>h) HB5.out,vV _ _ _ _,fun g hg=>by cases hg⟩;have HI0:=za hI0;have HIT:=za hit;have HGE:=za hItge;have HIL:=za hItlt;have HP3:=za hp3;have s13:W1.heap.size≤w3.heap.size:=hp3.size;clear hob_0 hob_1 hob_2 hob_3 hob_4 hob_5 hob_f hob_l;clear hb2_0 hb2_f hb2_l;clear H_hob H_hb2 hI0 hit hItge hp3 hB3 hf3 hb5;generalize hItd:qy B3 a3 (zA L).length c3=It at *;refine kH.1 (XE (gf:=264) (lb:=#[.pointer (some ⟨B3,0,none⟩)]) rfl (enters_of func264 (by kernel_rfl) rfl) (It:=It) (hItd ▸ zan HIT.out (by rw[hsl];exact hlen)) hItlt (fun _=>rfl)
   (fun pre W=>LsI w o b2 (b2+1) w3.heap.size L pre W∧Mod (fun k=>b2<k) W1 W∧w3.heap.size≤W.heap.size) (fun _ _ _=>False) ?hI ?hIx ⟨HI0.out,Mod.of_pure HP3.out,zN _⟩ ?round ?done ?stop)
  case hI=>exact fun pre A B ⟨h,hm,hz⟩ hq=>⟨h.quiet (by have:=HBE.out;omega) hq,Mod.trans' hm hq (fun i _ h=>h) (fun i hi h=>by have:=h.1;omega),zF hz hq.size⟩
  case hIx=>exact fun _ _ _ _ h _=>h
  case stop=>exact fun _ _ _ _ _ h _=>h.elim
  case done =>
   rintro lb xs W hlb hS ⟨hI,hmW,_⟩ hK;have hS':xs=zA L:=hS;obtain⟨a2,c2,h1,h2,h3⟩:=hI.row;have hxl:xs.length=L.length:=by rw[hS',hsl]
   rw[hxl]at h1 h2 h3;rw[List.take_length]at h2;have HI:=za hI;have H2:=za h2;have H3:=za h3;have hq:zB w3.heap.size _ _:=zB.putObj (.deferred none) hlb hK rfl;clear hI hS h2 h3 hItlt hItd hxl hS' hmW;obtain⟨n,hn⟩:=zf L.length;rw[hn]at h1;have HN:=za hn;clear hn;obtain⟨h1_0,h1_f,h1_l,H_h1⟩:=cr1 h1;clear h1;go_wp2;exact Z9 (v := .slice a2 n c2) hK (by simp[results,results109,go_sem]) ⟨a2,c2,by rw[HN.out],hq.owns H2.out,fun g hg=>by have:=H3.out g hg;have:=HBE.out;omega,hq.mod HI.out.pu (by have:=HBE.out;omega)⟩
  case round =>
   rintro lb pre x W K ⟨hI,hmW,hzW⟩ ⟨post,hpost⟩ hK;dsimp only[V7];have hpl:pre.length<L.length:=by have h:=congrArg List.length hpost;rw[hsl]at h;simp at h;omega
   obtain⟨y,hy⟩ : ∃ y,L[pre.length]? = some y:=⟨_,zO hpl⟩;have hyx:y.slot=x:=by
    have h1:(zA L)[pre.length]? = some y.slot:=by unfold zA;rw[yz,hy];rfl
    rw[hpost]at h1;simpa using h1.symm
   have hym:=ym hy;have htk:L.take (pre.length+1)=L.take pre.length++[y]:=by rw[uH,hy];rfl
   have HTK:=za htk;have HYM:=za hym;have HCI:=za hI;have HK:=za hK;have HMW:=za hmW;clear hI hK hItlt hpost hItd hmW htk hym hy;subst hyx;gi_wp2;refine HK.out _ _ (Mod.refl _ _) (fun l' W2 hl2 hr2 hq2 => ?_);have hI2:=HCI.out.quiet (by have:=HBE.out;omega) hq2;have HSZ:Hid (w3.heap.size≤W2.heap.size):=za (zF hzW hq2.size);have hm2:Mod (fun k=>b2<k) W1 W2:=Mod.trans' HMW.out hq2 (fun i _ h=>h) (fun i hi h=>by have:=h.1;omega);obtain⟨a2,c2,h1,h2,h3⟩:=hI2.row;have HI2:=za hI2;have HR2:=za h2;have HF2:=za h3;have HM2:=za hm2;have hbx:=hI2.r2;have hox:=hm2.heap (by omega) HOB.out;have hS0:LsS o bm b2 y.slot y.cost W2.drew:=⟨zi W2 b2 0 _ _ (0,0) hbx,zi W2 o 4 _ _ (0,0) hox,HCo.out y HYM.out W2.drew hm2.drew⟩;have HS:=za (fun(X:World) (hX:Mod (fun k=>b2<k) W2 X)=>(⟨zi X b2 0 _ _ (0,0) (hX.heap (by omega) hbx),zi X o 4 _ _ (0,0) (hX.heap (by omega) hox),HCo.out y HYM.out X (hm2.trans hX)⟩:LsS o bm b2 y.slot y.cost X));clear hI2 h2 h3 HK HCI hm2 hbx hox;obtain⟨j,hj⟩:=zf pre.length;rw[hj]at h1 HF2 hpl HR2;have HJ:=za hj;clear hj;obtain⟨sy,hsy⟩:=zf y.slot;obtain⟨cy,hcy⟩:=zf y.cost;rw[hsy,hcy]at hS0 HS;rw[hsy];have HSY:=za hsy;have HCY:=za hcy;clear hsy hcy;have H1:=za h1;gi_upto_region 6 with fail
   obtain⟨h1_0,h1_f,h1_l,H_h1⟩:=cr1 h1;clear h1;refine zcR (S:=LsS o bm b2 sy cy) (by kernel_rfl) (by kernel_rfl) ?hL hS0 (fun h_ => ?_)
   case hL=>rintro⟨a,w,h⟩;exact h
   refine hTk 1 ?_;refine hLd 2 ?_;refine hTk 3 ?_;refine hTk 4 ?_;refine hLd 5 ?_;refine hTk 6 ?_;refine hLd 7 ?_;refine hTk 8 ?_;refine uY (rs:=[0,9]) (by kernel_rfl) (by simp) ?_;refine ue rfl (fun K1 hK1 => ?_) (ue rfl (fun K1 hK1 => ?_) kw)
   focus
    go_simp;refine hK1.out _ _ h_ (fun h_ => ?_);clear hK1 K1;refine clA ?_
    (refine hSt 9 (fun K hK => ?_);go_simp;refine hK.out _ _ ?_ (fun h_ => ?_);(· exact HS.out _ (((Mod.refl _ W2).drew).alloc _));clear hK K;refine clA ?_)
   rotate_left 1
   focus
    go_simp;refine hK1.out _ _ (HS.out _ (((Mod.refl _ W2).drew).alloc _)) (fun h_ => ?_);clear hK1 K1;refine clA ?_
    (refine hSt 0 (fun K hK => ?_);go_simp;refine hK.out _ _ ?_ (fun h_ => ?_);(· exact h_);clear hK K;refine clA ?_)
   all_goals
    have hAl:Mod (fun k=>b2<k) W2 (W2.drew.alloc (.cells #[.int .u32 sy,.int .i64 cy] 247)):=((Mod.refl _ W2).drew).alloc _;have hK9:(W2.drew.alloc (.cells #[.int .u32 sy,.int .i64 cy] 247)).heap[b2+1]? = some (.cells #[.slice a2 j c2] 202 (0,0)):=zK (show W2.drew.heap[b2+1]? = _ from H1.out);refine uY (rs:=[10]) (by kernel_rfl) (by simp) ?_;refine ue rfl (fun K2 hK2 => ?_) kw;refine YI _ (by rfl) _ _ 202 (by rfl) 247 i0 _ 2 16 underlying202 hi iz0 iz1 iz2 rfl (by decide) (.slice a2 j c2) j _ (by rfl) (zz HR2.out (((Mod.refl (fun _=>False) W2).drew).alloc _) (fun _ _ h=>h)) _ [.int .u32 sy,.int .i64 cy] 1 (by rfl) (zr.of_block 1 1 2 (zk (by simp)) (by rfl) (by simp[Value.oneCell'])) (by rfl) (by unfold maxLen;omega) (by omega) ?_;intro a7 c7 w5 hr7 hg7 hb7;have hm5:Mod (fun k=>b2<k) W2 w5:=hAl.trans (Mod.of_grown hg7 (fun k e _=>by have:=HF2.out k e;omega));have h7b:=(Mod.of_grown (S:=fun k=>(Value.slice a2 j c2).ownBlock=some k) hg7 (fun k e _=>e)).heap (fun e=>by have:=HF2.out _ e;omega) hK9;have h75:=zi w5 _ 0 _ _ _ h7b;have h7f:=fun i=>yS w5 _ i _ _ h7b;have h7l:=zm h7b
    refine hK2.out _ _ (HS.out _ hm5) (fun h_ => ?_);clear hK2 K2;refine clA ?_
    (refine hSt 11 (fun K hK => ?_);go_simp;refine hK.out _ _ ?_ (fun h_ => ?_);(· exact HS.out _ (hm5.setCell (p:=⟨b2+1,0,none⟩) (fun _=>by show b2<b2+1;omega) _));clear hK K;refine clA ?_)
    refine hDn ?_;clear h_;have hM:Mod (fun k=>(Value.slice a2 j c2).ownBlock=some k∨k=b2+1) W2 (w5.setCell ⟨b2+1,0,none⟩ (.slice a7 (j+1) c7)) :=
     ((((Mod.refl _ W2).drew).alloc (.cells #[.int .u32 sy,.int .i64 cy] 247)).then (Mod.of_grown (S:=fun k=>(Value.slice a2 j c2).ownBlock=some k) hg7 (fun k e _=>e)) (fun _ _ h => .inl h)).setCell (fun _ => .inr rfl) _
    have hS2:b2+1<W2.heap.size:=zm H1.out;have hS3:w3.heap.size≤W2.heap.size:=HSZ.out;have h7 : ∀ g,(Value.slice a7 (j+1) c7).ownBlock=some g→w3.heap.size≤g:=fun g hg=>by
     rcases hb7 with e | e
     ·exact HF2.out g (e ▸ hg)
     ·rw[e]at hg;have hg2:(W2.drew.alloc (.cells #[.int .u32 sy,.int .i64 cy] 247)).heap.size=g:=by injection hg
      simp at hg2;omega
    refine⟨xl.of_mod hM (fun k _ h o ho => ?_),xi.of_mod hM (fun k hk h => ?_),⟨⟨HI2.out.pu.then hM (fun k hk h => ?_),?_,a7,c7,?_,?_,?_⟩,HM2.out.then hM (fun k hk h => ?_),zF hS3 hM.size⟩⟩
    ·rcases h with h | rfl
     ·obtain⟨cur,e⟩:=yd HR2.out h;rw[e]at ho;cases ho;rfl
     ·rw[H1.out]at ho;cases ho;rfl
    ·have h8:=HGE.out k hk;rcases h with h | h
     ·have:=HF2.out k h;have:=HIL.out k hk;omega
     ·omega
    ·have:=HBE.out;rcases h with h | h
     ·have:=HF2.out k h;omega
     ·omega
    ·exact hM.heap (fun h=>by rcases h with h | h;exact absurd (HF2.out _ h) (by omega);omega) HI2.out.r2
    ·rw[zT,HJ.out];simpa using zX w5 (b2+1) 0 _ _ (.slice a7 (j+1) c7) h7b
    ·rw[zT,HJ.out];rw[HJ.out]at HTK;rw[show j + [sy].length=j+1 from rfl,HTK.out,ZQ];have h9:=zz hr7 ((Mod.refl (fun k=>k=b2+1) w5).setCell (p:=⟨b2+1,0,none⟩) (fun _=>rfl) (.slice a7 (j+1) c7)) (fun g hg e=>by have:=h7 g hg;omega);simpa[wtC,HSY.out,HCY.out]using h9
    ·rw[zT,HJ.out];exact h7
    ·rcases h with h | h
     ·have:=HF2.out k h;omega
     ·omega
theorem zlq(h:yG w D o l0 l1 bm lim D0 D1 Dm A B):Calls prog 109 #[lkP o,.int .i64 0] w (ZT w A):=zch h (.inl ⟨rfl,rfl⟩) (fun _ hW=>(h.pure hW).q0) (fun _ hx=>xQ _ hx) (by rw[zT];omega)
theorem zgp(h:yG w D o l0 l1 bm lim D0 D1 Dm A B):Calls prog 109 #[lkP o,.int .i64 1] w (ZT w B):=zch h (.inr ⟨rfl,rfl⟩) (fun _ hW=>(h.pure hW).q1) (fun _ hx=>xF _ hx) (by rw[zT];omega)
end
end
section
open Go.RowKit Go.Maps Go.Shelf
attribute [local go_sem] Oper.semAt_some
section
variable{w w':World}{D S:Nat→Prop}{o l0 l1 bm:Nat}{lim:Int}{D0 D1:Nat→Prop}{Dm:DataW Unit}{A B:List Wt}
theorem zjT{m:Int}(h1 : -1≤m)(h2:m≤1099511627776)(w:World):Calls prog 54 #[.int .i64 m] w fun e w' => ∃ o l0 l1 bm D D0 D1 Dm,e=.returned (.tuple #[lkP o,.int .i64 0])∧yG w' D o l0 l1 bm m D0 D1 Dm [] []∧zb w w' ∧ ∀ k,D k→w.heap.size≤k:=by
  have d1 : ¬ m < -1:=by omega
  have d2 : ¬ (1099511627776:Int)<m:=by omega
  have HN:=za (fun W=>zj7 W);have hmm := @run_makeMap prog;have T1:True:=trivial;go_enter func54,ntmps54
  go_wp2_with (first
    | (go_at_call 99;clear T1;refine(HN.out _).mono ?_;rintro e w1 ⟨l0,D0,rfl,q0,hp1,hf1⟩)
    | (go_at_call 99;refine(HN.out _).mono ?_;rintro e w2 ⟨l1,D1,rfl,q1,hp2,hf2⟩))
  have a1:zb w2 (w2.alloc (.map #[] 0)):=(Mod.refl _ w2).alloc _;have hs1:(w2.alloc (.map #[] 0)).heap.size=w2.heap.size+1:=by simp
  have t1:=xA.new w2;have a3:zb (w2.alloc (.map #[] 0)) ((w2.alloc (.map #[] 0)).alloc (.cells #[lkP l0,lkP l1,.int .i64 0,.int .i64 0,.map (some w2.heap.size),.int .i64 m] 155)):=(Mod.refl _ _).alloc _;have s1:=hp1.size;have s2:=hp2.size;have lt0:=fun k (hk:D0 k)=>q0.lt hk
  have lt1:=fun k (hk:D1 k)=>q1.lt hk
  have hfin:yG ((w2.alloc (.map #[] 0)).alloc (.cells #[lkP l0,lkP l1,.int .i64 0,.int .i64 0,.map (some w2.heap.size),.int .i64 m] 155)) (fun k=>k=w2.heap.size+1∨k=w2.heap.size∨D0 k∨D1 k) (w2.heap.size+1) l0 l1 w2.heap.size m D0 D1 (.map []) [] [] :=
    ⟨zk hs1.symm,((q0.pure hp2).pure a1).pure a3,(q1.pure a1).pure a3,t1.mod a3 (fun h=>h),⟨by omega,fun e=>by have:=lt0 _ e;omega,fun e=>by have:=lt1 _ e;omega,fun e=>by have:=lt0 _ e;omega,fun e=>by have:=lt1 _ e;omega,fun k hk hk2=>by have:=lt0 _ hk;have:=hf2 k hk2;omega⟩,⟨jR,fun x hx=>by cases hx⟩,fun k=>xZ⟩
  have hpp:=((hp1.trans hp2).trans a1).trans a3;go_ret2;refine⟨w2.heap.size+1,l0,l1,w2.heap.size,_,D0,D1,_,rfl,hfin,hpp,fun k hk => ?_⟩;rcases hk with rfl | rfl | e | e
  · omega
  · omega
  · exact hf1 k e
  · have:=hf2 k e;omega
theorem y5.isCells{p:Nat}{xs:List Nat}(h:y5 w D p xs){k:Nat}(hk:D k) : ∃ ob,w.heap[k]? = some ob∧ob.isCells=true:=by
 obtain⟨q,N,Dl,h1,h2,h3⟩:=h;rcases(h3 k).1 hk with rfl | e
 ·exact⟨_,h1,rfl⟩
 ·obtain⟨gF,gL,cF,cL,F,g1,g2⟩:=h2;rcases(g2 k).1 e with rfl | rfl | rfl
  ·exact⟨_,g1.box,rfl⟩
  ·exact⟨_,g1.fld,rfl⟩
  ·exact⟨_,g1.len,rfl⟩
theorem yG.quiet(h:yG w D o l0 l1 bm lim D0 D1 Dm A B){N:Nat}(hN:bm<N)(hq:zB N w w'):yG w' D o l0 l1 bm lim D0 D1 Dm A B:=by
 refine h.frame hq (fun k hk hs => ?_);obtain⟨h1,ob,h2,h3⟩:=hs;rcases(h.dd k).1 hk with rfl | rfl | e | e
 ·rw[h.box]at h2;cases h2;cases h3
 ·omega
 ·obtain⟨o2,e1,e2⟩:=h.q0.isCells e;rw[e1]at h2;cases h2;rw[e2]at h3;cases h3
 ·obtain⟨o2,e1,e2⟩:=h.q1.isCells e;rw[e1]at h2;cases h2;rw[e2]at h3;cases h3
structure RnS(Wb:World)(lim:Int)(b6 b8 o2 m0 m1 bm2 g:Nat)(It:Nat→Prop)(mk:List Nat)(A2 B2:List Wt)(W:World):Prop where
 dm : ∀ l∈mk,W.heap[l]? = some (.deferred (some []))
 pu:zb Wb W
 z6:W.heap[b6]? = some (.cells #[lkP o2] 93 (0,0))
 z8:W.heap[b8]? = some (.cells #[.int .i64 g] 3 (0,0))
 out : ∃ E E0 E1 Em,yG W E o2 m0 m1 bm2 lim E0 E1 Em A2 B2 ∧ ∀ k,E k→Wb.heap.size≤k∧k≠b6∧k≠b8 ∧ ¬ It k
theorem RnS.quiet{Wb:World}{lim:Int}{b6 b8 o2 m0 m1 bm2 g:Nat}{It:Nat→Prop}{mk:List Nat}{A2 B2:List Wt}{X Y:World}(h:RnS Wb lim b6 b8 o2 m0 m1 bm2 g It mk A2 B2 X){N:Nat}(hN:Wb.heap.size≤N)(hbm:bm2<N)(hmk : ∀ l∈mk,l<N)(hq:zB N X Y):RnS Wb lim b6 b8 o2 m0 m1 bm2 g It mk A2 B2 Y:=by
 obtain⟨E,E0,E1,Em,h1,h2⟩:=h.out;exact⟨fun l hl=>Mod.heap hq (fun hh=>by have h1:=hmk l hl;have h2:=hh.1;omega) (h.dm l hl),hq.mod h.pu hN,hq.cells h.z6,hq.cells h.z8,E,E0,E1,Em,h1.quiet hbm hq,h2⟩
end
end
end Go.Proofs.YtifbnponicgplaaGreatDoor
