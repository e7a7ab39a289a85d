/- Lemmas and contracts of functions. No condition. -/
import Derived.Test.YtpplkcnknabofaaGreatDoorJPfCacheNone11
import Derived.Test.YtpplkcnknabofaaGreatDoorJPfCacheNone33
namespace Go.Proofs.YtpplkcnknabofaaGreatDoor
open _root_.Go.Proofs.Tryz
set_option maxRecDepth 100000
set_option maxHeartbeats 20000000
set_option linter.all false
section
open Go.RowKit
def xM(Fo:Nat→Prop)(w:World)(p:Nat)(ns:List EvN):Prop := ∃ k0 k1 k2 k3 k4 k5,xa Fo w p k0 k1 k2 k3 k4 k5 ns.length ns
def Qm(Fo:Nat→Prop)(w:World)(p:Nat)(ns:List EvN)(x:Ev)(e:Ending)(w':World):Prop :=
 e=.returned (.int .i64 0) ∧ ∃ b v,xM Fo w' p (ns++[(b,x,v)])∧w.heap.size≤b∧xi w v∧Mod (evD p ns) w w'
section
variable{Fo:Nat→Prop}{w w':World}{p:Nat}{k0 k1 k2 k3 k4 k5:Int}{th:Nat}{ns:List EvN}
theorem xa.box'(h:xa Fo w p k0 k1 k2 k3 k4 k5 th ns){W:World}(hm:Mod (fun k=>k=p) w W){l0 l1 l2 l3 l4 l5:Int}{th2:Nat}(hb:W.heap[p]? = some (.cells #[xt (nxt ns 0),xt (nxt ns (ns.length-1)),.int .u64 l0,.int .u64 l1,.int .u64 l2,.int .u64 l3,.int .u64 l4,.int .u64 l5,.int .i64 th2,.bool true] 245 (0,0))):xa Fo W p l0 l1 l2 l3 l4 l5 th2 ns :=
 ⟨hb,fun i n hi=>hm.heap (fun e=>h.np (yd hi) e) (h.node i n hi),fun n hn=>zy (h.vals n hn) hm (fun g hg e=>by
  obtain⟨cur,e2⟩:=yg (h.vals n hn) hg;subst e;rw[h.box]at e2;injection e2 with e2;injection e2 with _ e2;exact absurd e2 (by decide)),h.off,h.nd,h.ok,fun k hk=>hm.lt (h.flt k hk)⟩
theorem zgI{w4:World}{x:Ev}{v u0 u1:Value}{bn i th t0:Nat}{ns2:List EvN}{q:Int}(hi:3≤i∧i≤7)(hm4:xa Fo w4 p k0 k1 k2 k3 k4 k5 t0 ns2)
  (hb:w4.heap[p]? = some (.cells #[u0,u1,.int .u64 k0,.int .u64 k1,.int .u64 k2,.int .u64 k3,.int .u64 k4,.int .u64 k5,.int .i64 th,.bool true] 245 (0,0)))
  (hu0:xt (nxt ns2 0)=u0) (hu1:xt (nxt ns2 (ns2.length-1))=u1) (hl:ns2.length=th+1) (hbn:w.heap.size≤bn) (hf:xi w v) (hmo:Mod (evD p ns) w w4) (hn:ns++[(bn,x,v)]=ns2) :
  Qm Fo w p ns x (.returned (.int .i64 0)) ((w4.setCell ⟨p,i,none⟩ (.int .u64 q)).setCell ⟨p,8,none⟩ (.int .i64 ((th:Int)+1))).drew:=by
 have h5:=zP w4 p i _ _ (.int .u64 q) hb;have h6:=zP (w4.setCell ⟨p,i,none⟩ (.int .u64 q)) p 8 _ _ (.int .i64 ((th:Int)+1)) h5;have hm:Mod (fun k=>k=p) w4 ((w4.setCell ⟨p,i,none⟩ (.int .u64 q)).setCell ⟨p,8,none⟩ (.int .i64 ((th:Int)+1))).drew:=(((Mod.refl (fun k=>k=p) w4).setCell (p:=⟨p,i,none⟩) (fun _=>rfl) _).setCell (p:=⟨p,8,none⟩) (fun _=>rfl) _).drew;obtain⟨Y,hY⟩:=zc (((w4.setCell ⟨p,i,none⟩ (.int .u64 q)).setCell ⟨p,8,none⟩ (.int .i64 ((th:Int)+1))).drew);have e7:=(show ∀ X:World,X.drew.heap=X.heap from fun _=>rfl) ((w4.setCell ⟨p,i,none⟩ (.int .u64 q)).setCell ⟨p,8,none⟩ (.int .i64 ((th:Int)+1)));rw[hY]at e7 hm ⊢;rw[← e7]at h6;clear e7 hY h5;subst hu0 hu1;have ht:=hmo.trans (hm.mono (fun k _ e => .inl e));have hi':i=3∨i=4∨i=5∨i=6∨i=7:=by omega
 rcases hi' with rfl | rfl | rfl | rfl | rfl<;>exact⟨rfl,bn,v,⟨_,_,_,_,_,_,by rw[hn];exact hm4.box' hm (h6.trans (by rw[hl];rfl))⟩,hbn,hf,ht⟩
theorem zk8(h:xa Fo w p k0 k1 k2 k3 k4 k5 ns.length ns){x:Ev}(hx:x.Ok)(hth:ns.length<1048576){a:Option Addr}{n c:Nat}(hv:zn w (.slice a n c) 1 (zJ x.e.val)) :
    Calls prog 127 #[lkP p,evV x.kind x.e.key (.slice a n c) x.e.birth x.e.dl x.tm] w (Qm Fo w p ns x):=by
  have hn:n≤65536:=by have:=jo hv;rw[uP]at this;have:=hx.e.v1;omega
  have HH:=za h;have HX:=za hx;have hb:=h.box;obtain⟨kd,⟨key,val,dl,birth⟩,tm⟩:=x;dsimp only at hv ⊢;obtain⟨K,hK⟩ : ∃ K:Int,(kd:Int)=K:=⟨_,rfl⟩;have hkk:(kd=1∧K=1)∨(kd=2∧K=2)∨(kd=3∧K=3)∨(kd=4∧K=4)∨(kd=5∧K=5):=by have h1:=hx.kd.1;have h2:=hx.kd.2;dsimp only at h1 h2;omega
  rw[hK];have e1:zb w (w.alloc (.cells #[.int .i64 K,.string key,.slice a n c,.int .u64 birth,.int .u64 dl,.int .u64 tm] 148)):=(Mod.refl _ w).alloc _;have z1:=zi (w:=w) (o := .cells #[.int .i64 K,.string key,.slice a n c,.int .u64 birth,.int .u64 dl,.int .u64 tm] 148 (0,0)) rfl;have HE1:=za e1;have HNo:=za (Jg (h.pure e1));have hk1:key.size≤250:=hx.e.k1;have hvB:evB K key.size n birth dl tm=true:=by
    have hlen:=jo hv;rw[uP]at hlen;have h0:=hx.e.k0;have h1:=hx.e.k1;have h2:=hx.e.v1;have h3:=hx.e.b0;have h4:=hx.du;dsimp only at h0 h1 h2 h3 h4;unfold evB XB vi xL Xq;rw[h4];have e5:((birth:Int)==0)=false:=by simp;omega
    have e6:decide ((65536:Int)<(n:Int))=false:=zQ (by omega);rw[e5,e6];rcases hkk with⟨rfl,rfl⟩ | ⟨rfl,rfl⟩ | ⟨rfl,rfl⟩ | ⟨rfl,rfl⟩ | ⟨rfl,rfl⟩<;>simp[h0,h1]
  have HVa:=za (fun W=>zhc K key a n c birth dl tm W (by omega) (by omega));rw[hvB]at HVa;have HOw:=za (fun(W:World) (hW:zb w W)=>zl2 K key a n c birth dl tm (zJ val) W (hv.frame hW (fun _ _ h=>h)) (by omega));have hb1:=e1.heap (fun h=>h) hb;have hAd:=fun(W:World) (hW:zb w W) (a2:Option Addr) (n2 c2:Nat) (hr:yv W (.slice a2 n2 c2) (zJ val)) (hf:xi w (.slice a2 n2 c2))=>zdS (h.pure hW) (x:=⟨kd,⟨key,val,dl,birth⟩,tm⟩) HX.out hr (fun g hg hfo=>by have:=hf g hg;have:=h.flt g hfo;omega) (fun g hg hd=>by have:=hf g hg;have:=h.lt hd;omega)
  dsimp only at hAd;rw[hK]at hAd;have HAd:=za hAd;clear hAd;have HTH:=za hth;have hnl:n=val.length:=by have:=jo hv;rw[uP]at this;omega
  have HNL:=za hnl;obtain⟨v0,hv0⟩:=zc (xt (nxt ns 0));obtain⟨v1,hv1⟩:=zc (xt (nxt ns (ns.length-1)));rw[hv0,hv1]at hb1;obtain⟨th,hthe⟩:=zc ns.length;rw[hthe]at hb1 hth;have HTE:=za hthe;have dth:decide ((1048576:Int)≤(th:Int))=false:=zQ (by omega);have dthn:decide (1048576≤th)=false:=zQ (by omega);clear h hx hv hb hK hv0 hv1 hthe hvB hnl;generalize hX:(⟨kd,⟨key,val,dl,birth⟩,tm⟩:Ev)=X at *;generalize hW1:w.alloc (.cells #[.int .i64 K,.string key,.slice a n c,.int .u64 birth,.int .u64 dl,.int .u64 tm] 148)=W1 at *;have HW1:=za hW1;clear hX hW1;rcases hkk with⟨rfl,rfl⟩ | ⟨rfl,rfl⟩ | ⟨rfl,rfl⟩ | ⟨rfl,rfl⟩ | ⟨rfl,rfl⟩
  all_goals
    go_enter func127,ntmps127;go_upto_region 1 with fail
    rw[HW1.out];obtain⟨b3,hb3⟩:=zc w.heap.size;rw[hb3]at z1 ⊢;have HB3:=za hb3;clear hb3;have Z1:=za z1;have HB1:=za hb1;obtain⟨z1_0,z1_1,z1_2,z1_3,z1_4,z1_5,z1_f,z1_l,H_z1⟩:=cr6 z1;clear z1;obtain⟨hb1_0,hb1_1,hb1_2,hb1_3,hb1_4,hb1_5,hb1_6,hb1_7,hb1_8,hb1_9,hb1_f,hb1_l,H_hb1⟩:=je hb1;clear hb1;go_upto_region 5 with(first
      | (go_at_call 177;refine HNo.out.mono ?_;rintro e w' ⟨rfl,rfl⟩)
      | (go_at_call 207;refine(HVa.out _).mono ?_;rintro e w2 ⟨rfl,hp2⟩))
    have z2:=hp2.heap (fun h=>h) Z1.out;have hb2:=hp2.heap (fun h=>h) HB1.out;have HP2:=za (HE1.out.trans hp2);clear z1_0 z1_1 z1_2 z1_3 z1_4 z1_5 z1_f z1_l;clear hb1_0 hb1_1 hb1_2 hb1_3 hb1_4 hb1_5 hb1_6 hb1_7 hb1_8 hb1_9 hb1_f hb1_l;clear H_z1 H_hb1 hp2;obtain⟨z2_0,z2_1,z2_2,z2_3,z2_4,z2_5,z2_f,z2_l,H_z2⟩:=cr6 z2;clear z2;obtain⟨hb2_0,hb2_1,hb2_2,hb2_3,hb2_4,hb2_5,hb2_6,hb2_7,hb2_8,hb2_9,hb2_f,hb2_l,H_hb2⟩:=je hb2;clear hb2;go_upto_region 8 with(first
      | (go_at_call 196;refine(HOw.out _ HP2.out).mono ?_;rintro e w3 ⟨a3,n3,c3,rfl,hr3,hf3,hp3⟩;have hbo3:=ZJ hr3)
      | (go_at_call 218;refine(HAd.out _ (HP2.out.trans hp3) _ _ _ hbo3 (fun g hg=>by have:=hf3 g hg;have:=HP2.out.size;omega)).mono ?_;rintro e w4 ⟨rfl,bn,hbn,hm4,hmod4⟩))
    have hb4:=hm4.box;have z4:=hmod4.heap (fun h=>by have:=HH.out.lt h;have:=HB3.out;omega) (hp3.heap (fun h=>h) H_z2.out);have sz2:w.heap.size≤w2.heap.size:=HP2.out.size;have sz3:w2.heap.size≤w3.heap.size:=hp3.size;have HM4:=za hm4;have HF3:Hid (xi w (.slice a3 n3 c3)):=za (fun g hg=>by have:=hf3 g hg;omega);have HMO:=za (Mod.trans' (HP2.out.trans hp3) hmod4 (fun _ _ h=>h.elim) (fun _ _ h=>h));have hbn':w.heap.size≤bn:=by omega
    clear z2_0 z2_1 z2_2 z2_3 z2_4 z2_5 z2_f z2_l;clear hb2_0 hb2_1 hb2_2 hb2_3 hb2_4 hb2_5 hb2_6 hb2_7 hb2_8 hb2_9 hb2_f hb2_l;clear H_z2 H_hb2 hr3 hf3 hp3 hbo3 hm4 hmod4;generalize hnn:ns++[(bn,X,Value.slice a3 n3 c3)]=ns2 at *;have hl2:ns2.length=th+1:=by rw[← hnn,zR,HTE.out];rfl
    rw[HTE.out]at hb4;obtain⟨u0,hu0⟩:=zc (xt (nxt ns2 0));obtain⟨u1,hu1⟩:=zc (xt (nxt ns2 (ns2.length-1)));rw[hu0,hu1]at hb4;have HU0:=za hu0;have HU1:=za hu1;have HB4:=za hb4;have HL2:=za hl2;have HNN:=za hnn;clear hu0 hu1 hnn hl2;obtain⟨z4_0,z4_1,z4_2,z4_3,z4_4,z4_5,z4_f,z4_l,H_z4⟩:=cr6 z4;clear z4;obtain⟨hb4_0,hb4_1,hb4_2,hb4_3,hb4_4,hb4_5,hb4_6,hb4_7,hb4_8,hb4_9,hb4_f,hb4_l,H_hb4⟩:=je hb4;clear hb4
    go_still_tail 13,(by kernel_rfl)
    go_upto_region 9 with fail
    have wth:IntKind.i64.wrap ((th:Int)+1)=(th:Int)+1:=zt _ (by omega)
    first | generalize IntKind.u64.wrap (k1+1)=q | generalize IntKind.u64.wrap (k2+1)=q | generalize IntKind.u64.wrap (k3+1)=q | generalize IntKind.u64.wrap (k4+1)=q | generalize IntKind.u64.wrap (k5+1)=q
    go_wp2;go_ret;exact zgI (by omega) HM4.out HB4.out HU0.out HU1.out HL2.out hbn' HF3.out HMO.out HNN.out
theorem zgA(h:xM Fo w p ns){x:Ev}(hx:x.Ok)(hth:ns.length<1048576){a:Option Addr}{n c:Nat}(hv:zn w (.slice a n c) 1 (zJ x.e.val)) :
  Calls prog 127 #[lkP p,evV x.kind x.e.key (.slice a n c) x.e.birth x.e.dl x.tm] w (Qm Fo w p ns x):=by
 obtain⟨k0,k1,k2,k3,k4,k5,h⟩:=h;exact zk8 h hx hth hv
end
theorem zin:(prog.info? 148).map (fun i=>(i.zero,i.size,i.bytes))=some (some (.agg #[.int .i64 0,.string ⟨#[]⟩,.slice none 0 0,.int .u64 0,.int .u64 0,.int .u64 0]),6,72):=by kernel_rfl
def Vg(x:Ev × Value):List Value:=[.int .i64 x.1.kind,.string x.1.e.key,x.2,.int .u64 x.1.e.birth,.int .u64 x.1.e.dl,.int .u64 x.1.tm]
structure Vo(w:World)(a:Option Addr)(c:Nat)(es:List (Ev × Value)):Prop where
 row:w.ownsRow 0 148 6 (.slice a es.length c) es.length (es.flatMap Vg)
 vals : ∀ x∈es,yv w x.2 (zJ x.1.e.val)
def ju(ns:List EvN):List (Ev × Value):=ns.map (fun n=>n.2)
theorem zav(ns:List EvN):(ju ns).length=ns.length:=by unfold ju;simp
section
variable{Fo:Nat→Prop}{w w':World}{p:Nat}{ns:List EvN}
theorem zjT(o:Option Nat) : ∃ v,xt o=.pointer v:=by cases o<;>exact⟨_,rfl⟩
structure TkI(w wr:World)(p:Nat)(ns:List EvN)(k0 k1 k2 k3 k4 k5:Int)(i:Nat)(a:Option Addr)(c:Nat):Prop where
 box:wr.heap[p]? = some (.cells #[xt (nxt ns i),xt (nxt ns (ns.length-1)),.int .u64 k0,.int .u64 k1,.int .u64 k2,.int .u64 k3,.int .u64 k4,.int .u64 k5,.int .i64 ((ns.length-i:Nat):Int),.bool true] 245 (0,0))
 row:wr.ownsRow 0 148 6 (.slice a i c) i (((ju ns).take i).flatMap Vg)
 fr:xi w (.slice a i c)
 mod:Mod (fun k=>k=p) w wr
def zkK(Fo:Nat→Prop)(w:World)(p:Nat)(ns:List EvN)(e:Ending)(w':World):Prop :=
 ∃ a c,e=.returned (.tuple #[.slice a ns.length c,.int .i64 0])∧Vo w' a c (ju ns)∧xi w (.slice a ns.length c)∧xM Fo w' p []∧Mod (fun k=>k=p) w w'
theorem zhw(h:xM Fo w p ns)(hlen:ns.length≤1048576):Calls prog 91 #[lkP p,.int .i64 ns.length] w (zkK Fo w p ns):=by
 obtain⟨k0,k1,k2,k3,k4,k5,h⟩:=h;have HNo:=za (Jg h);have HH:=za h;clear h;have HLE:=za hlen;obtain⟨n,hn⟩:=zc ns.length;have HN:=za hn;rw[hn]at hlen ⊢;clear hn;obtain⟨i0,hi,iz0,iz1,iz2⟩:=xn zin;have dn0:decide ((n:Int)<0)=false:=zQ (by omega);go_enter func91,ntmps91;go_upto_region 6 with(go_at_call 177;refine HNo.out.mono ?_;rintro e w' ⟨rfl,rfl⟩)
 go_loopw [6] (fun v wr => ∃(i:Nat) (a:Option Addr) (c:Nat),v=.slice a i c∧i≤n∧TkI w wr p ns k0 k1 k2 k3 k4 k5 i a c) (fun v _=>n-(match v with | .slice _ m _=>m | _=>0))
 case atStart =>
  refine⟨0,none,0,rfl,yh _,⟨?_,vj _ _ _ _,(fun g hg=>by cases hg),Mod.refl _ _⟩⟩;have:=HH.out.box;simpa using this
 case round =>
  obtain⟨i,a,c,rfl,hin,hI⟩:=hrel;have HI:=za hI;have hb:=hI.box;clear hI;obtain⟨v1,hv1⟩:=zc (xt (nxt ns (ns.length-1)));rw[hv1]at hb;have HV1:=za hv1;clear hv1;by_cases hlt:i<n
  ·obtain⟨nn,hnn⟩ : ∃ nn,ns[i]? = some nn:=⟨_,zN (by have:=HN.out;omega)⟩;have hnx:nxt ns i=some nn.1:=by unfold nxt;rw[hnn];rfl
   rw[hnx]at hb;have hnd:=HI.out.mod.heap (HH.out.np (yd hnn)) (HH.out.node i nn hnn);have htk:(ju ns).take (i+1)=(ju ns).take i++[nn.2]:=by
    have:(ju ns)[i]? = some nn.2:=by unfold ju;rw[yw,hnn];rfl
    rw[ua,this];rfl
   have hvs:=HH.out.vals nn (yd hnn);have hnp:=HH.out.np (yd hnn);have HTK:=za htk;have HB:=za hb;obtain⟨v2,hv2⟩ : ∃ v,xt (nxt ns (i+1))=.pointer v:=zjT _;rw[hv2]at hnd;have HV2:=za hv2;obtain⟨bl,⟨kd,⟨key,val,dl,birth⟩,tm⟩,nv⟩:=nn;obtain⟨va,vn,vc,rfl⟩ : ∃ a n c,nv=.slice a n c:=by obtain⟨va,vc,e,_⟩:=uN hvs;exact⟨_,_,_,e⟩
   dsimp only at hnd hnp;clear hnn hnx htk hvs hv2;dsimp only[xt]at hb;have HND:=za hnd;obtain⟨m,hm⟩:=zc (ns.length-i);rw[hm]at hb HB;have HM:=za hm;clear hm;have hlt':(i:Int)<(n:Int):=by omega
   have wm:IntKind.i64.wrap ((m:Int)-1)=(m:Int)-1:=zt _ (by have:=HM.out;have:=HLE.out;omega);obtain⟨hb_0,hb_1,hb_2,hb_3,hb_4,hb_5,hb_6,hb_7,hb_8,hb_9,hb_f,hb_l,H_hb⟩:=je hb;clear hb;obtain⟨hnd_0,hnd_1,hnd_2,hnd_3,hnd_4,hnd_5,hnd_6,hnd_f,hnd_l,H_hnd⟩:=cr7 hnd;clear hnd;go_upto_region 8 with(at_builtin;refine ul _ rfl _ _ 51 rfl 148 i0 _ 6 72 underlying51 hi iz0 iz1 iz2 rfl (by decide) (.slice a i c) i _ rfl (zy HI.out.row ((Mod.refl (fun _=>False) wr).alloc _) (fun _ _ h=>h)) _ [.int .i64 kd,.string key,.slice va vn vc,.int .u64 birth,.int .u64 dl,.int .u64 tm] 1 rfl (zn.of_block 1 1 6 (zi rfl) (by rfl) (by simp[Value.oneCell'])) rfl (by unfold maxLen;omega) (by omega) ?_;intro a7 c7 w7 hr7 hg7 hb7)
   have hpl:p<w.heap.size:=zl HH.out.box;have hm7:Mod (fun k=>(Value.slice a i c).ownBlock=some k) wr w7:=((Mod.refl _ wr).alloc _).trans (Mod.of_grown (S:=fun k'=>(Value.slice a i c).ownBlock=some k') hg7 (fun k e _=>e));have hbx7:=hm7.heap (fun e=>by have:=HI.out.fr p e;omega) HB.out;have hnx7:=hm7.heap (fun e=>by have:=HI.out.fr bl e;have:=zl HND.out;have h8:=HH.out.lt (p:=p) (k:=bl);obtain⟨cu,e9⟩:=yg HI.out.row e;rw[HND.out]at e9;injection e9 with e9;injection e9 with _ e9;exact absurd e9 (by decide)) HND.out;have hf7:xi w (.slice a7 (i+1) c7):=fun g hg=>by
    rcases hb7 with e | e
    ·exact HI.out.fr g (e ▸ hg)
    ·rw[e]at hg;cases hg;have:=HI.out.mod.size;simp;omega
   have HB7:=za hbx7;have HF7:=za hf7;have HR7:=za hr7;have HM7:=za hm7;clear hb_0 hb_1 hb_2 hb_3 hb_4 hb_5 hb_6 hb_7 hb_8 hb_9 hb_f hb_l;clear hnd_0 hnd_1 hnd_2 hnd_3 hnd_4 hnd_5 hnd_6 hnd_f hnd_l;clear H_hb H_hnd hb7 hg7 hr7 hm7 hf7;dsimp only[xt]at hbx7;obtain⟨hbx7_0,hbx7_1,hbx7_2,hbx7_3,hbx7_4,hbx7_5,hbx7_6,hbx7_7,hbx7_8,hbx7_9,hbx7_f,hbx7_l,H_hbx7⟩:=je hbx7;clear hbx7;obtain⟨hnx7_0,hnx7_1,hnx7_2,hnx7_3,hnx7_4,hnx7_5,hnx7_6,hnx7_f,hnx7_l,H_hnx7⟩:=cr7 hnx7;clear hnx7;go_upto_region 9 with fail
   have h8:=zP w7 p 0 _ _ (.pointer v2) HB7.out;have hm8:Mod (fun k=>k=p) w7 (w7.setCell ⟨p,0,none⟩ (.pointer v2)):=(Mod.refl (fun k=>k=p) w7).setCell (p:=⟨p,0,none⟩) (fun _=>rfl) _;obtain⟨X8,hX8⟩:=zc (w7.setCell ⟨p,0,none⟩ (.pointer v2));rw[hX8]at h8 hm8 ⊢;have H8:=za h8;have HM8:=za hm8;clear hbx7_0 hbx7_1 hbx7_2 hbx7_3 hbx7_4 hbx7_5 hbx7_6 hbx7_7 hbx7_8 hbx7_9 hbx7_f hbx7_l;clear hnx7_0 hnx7_1 hnx7_2 hnx7_3 hnx7_4 hnx7_5 hnx7_6 hnx7_f hnx7_l;clear H_hbx7 H_hnx7 hX8 hm8;simp only[List.setIfInBounds_toArray,List.set_cons_succ,List.set_cons_zero,xt]at h8;obtain⟨h8_0,h8_1,h8_2,h8_3,h8_4,h8_5,h8_6,h8_7,h8_8,h8_9,h8_f,h8_l,H_h8⟩:=je h8;clear h8;go_wp2;go_roundw
   case rel =>
    have h9:=zP X8 p 8 _ _ (.int .i64 ((m:Int)-1)) H8.out;have hm9:Mod (fun k=>k=p) X8 (X8.setCell ⟨p,8,none⟩ (.int .i64 ((m:Int)-1))):=(Mod.refl (fun k=>k=p) X8).setCell (p:=⟨p,8,none⟩) (fun _=>rfl) _;have hm79:=HM8.out.trans hm9;refine⟨i+1,a7,c7,rfl,hlt,⟨?_,?_,HF7.out,?_⟩⟩
    ·rw[h9,HV2.out,HV1.out];have e9:((ns.length-(i+1):Nat):Int)=(m:Int)-1:=by have:=HM.out;have:=HN.out;omega
     rw[e9]
     rfl
    ·rw[HTK.out,ZW];have h10:=zy HR7.out hm79 (fun g hg e=>by
      obtain⟨cu,e9⟩:=yg HR7.out hg;subst e;rw[HB7.out]at e9;injection e9 with e9;injection e9 with _ e9;exact absurd e9 (by decide))
     simpa[Vg]using h10
    ·exact(HI.out.mod.then HM7.out (fun k hk e=>by have:=HI.out.fr k e;omega)).trans hm79
   case measure=>simp;omega
  ·have hin':i=n:=by omega
   subst hin';have hnx:nxt ns i=none:=JG (by have:=HN.out;omega);rw[hnx]at hb;dsimp only[xt]at hb;have HB:=za hb;have hlt':(i:Int)≤(i:Int):=Int.le_refl _;obtain⟨hb_0,hb_1,hb_2,hb_3,hb_4,hb_5,hb_6,hb_7,hb_8,hb_9,hb_f,hb_l,H_hb⟩:=je hb;clear hb;go_wp2;have h9:=zP wr p 1 _ _ (.pointer none) HB.out;have hm9:Mod (fun k=>k=p) wr (wr.setCell ⟨p,1,none⟩ (.pointer none)):=(Mod.refl (fun k=>k=p) wr).setCell (p:=⟨p,1,none⟩) (fun _=>rfl) _;go_ret2;refine⟨a,c,by rw[HN.out];rfl,⟨?_,fun x hx => ?_⟩,by rw[HN.out];exact HI.out.fr,⟨k0,k1,k2,k3,k4,k5,⟨?_,(fun j m' hj=>by cases hj),(fun m' hm'=>by cases hm'),(fun m' hm'=>by cases hm'),jv,(fun m' hm'=>by cases hm'),fun k hk=>hm9.lt (HI.out.mod.lt (HH.out.flt k hk))⟩⟩,HI.out.mod.trans hm9⟩
   ·have h10:=HI.out.row;rw[kM (by rw[zav,HN.out];exact zG _)]at h10;have h11:=zy h10 hm9 (fun g hg e=>by
     obtain⟨cu,e9⟩:=yg h10 hg;subst e;rw[HB.out]at e9;injection e9 with e9;injection e9 with _ e9;exact absurd e9 (by decide))
    rw[zav,HN.out];exact h11
   ·obtain⟨m',hm',rfl⟩:=zI.1 hx;exact zy (HH.out.vals m' hm') (HI.out.mod.trans hm9) (fun g hg e=>by
     obtain⟨cu,e9⟩:=yg (HH.out.vals m' hm') hg;subst e;rw[HH.out.box]at e9;injection e9 with e9;injection e9 with _ e9;exact absurd e9 (by decide))
   ·rw[h9];have e9:((ns.length-i:Nat):Int)=0:=by have:=HN.out;omega
    rw[e9]
    rfl
end
def qY(ns:List EvN):List Ev:=ns.map (fun n=>n.2.1)
section
variable{Fo Fo' S:Nat→Prop}{w w':World}
theorem zS.frameR{D:Nat→Prop}{p:Nat}{sv:Value}{M:List (Option Ent × Value)}(h:zS Fo w D p sv M)(hm:Mod S w w')(hD : ∀ k,D k → ¬ S k)(hS : ∀ k,k<w.heap.size→S k→Fo k)(h1 : ∀ k,Fo' k→Fo k∨w.heap.size≤k)(h2 : ∀ k,Fo' k→k<w'.heap.size):zS Fo' w' D p sv M:=by
 have h':=h.frameF hm hD (fun k hk hs => .inl (hS k hk hs));refine⟨h'.box,h'.row,h'.vals,h'.dd,h'.ok,fun e v g hv hg hf => ?_,h2⟩;rcases h1 g hf with hx | hx
 ·exact h.off e v g hv hg hx
 ·have:=vh (h.vals e v hv) hg;omega
theorem zY.frameR{D:Nat→Prop}{p:Nat}{L:List (Option Ent)}(h:zY Fo w D p L)(hm:Mod S w w')(hD : ∀ k,D k → ¬ S k)(hS : ∀ k,k<w.heap.size→S k→Fo k)(h1 : ∀ k,Fo' k→Fo k∨w.heap.size≤k)(h2 : ∀ k,Fo' k→k<w'.heap.size):zY Fo' w' D p L:=by
 obtain⟨sv,M,e,h⟩:=h;exact⟨sv,M,e,h.frameR hm hD hS h1 h2⟩
theorem zZ.frameR{d q p:Nat}{sv:Value}{Dl:Nat→Prop}{seed:Nat}{same:Bool}{L:List (Option Ent)}{Gs:List Grp}(h:zZ Fo w d q p sv Dl seed same L Gs)(hm:Mod S w w')(hD : ∀ k,jJ d Dl p sv k → ¬ S k)(hS : ∀ k,k<w.heap.size→S k→Fo k)(h1 : ∀ k,Fo' k→Fo k∨w.heap.size≤k)(h2 : ∀ k,Fo' k→k<w'.heap.size):zZ Fo' w' d q p sv Dl seed same L Gs:=by
 have h':=h.frameF hm hD (fun k hk hs => .inl (hS k hk hs));exact⟨h'.box,h.log.frameR hm (fun k hk=>hD k (.inr (.inl hk))) hS h1 h2,h'.ix,h'.sd⟩
theorem zW.frameR{D:Nat→Prop}{d seed:Nat}{same:Bool}{L:List (Option Ent)}{Gs:List Grp}(h:zW Fo w D d seed same L Gs)(hm:Mod S w w')(hD : ∀ k,D k → ¬ S k)(hS : ∀ k,k<w.heap.size→S k→Fo k)(h1 : ∀ k,Fo' k→Fo k∨w.heap.size≤k)(h2 : ∀ k,Fo' k→k<w'.heap.size):zW Fo' w' D d seed same L Gs:=by
 obtain⟨q,p,sv,Dl,h3,h4,h5⟩:=h;exact⟨q,p,sv,Dl,h3.frameR hm (fun k hk=>hD k ((h5 k).2 hk)) hS h1 h2,h4,h5⟩
theorem zS.add{D:Nat→Prop}{p:Nat}{sv:Value}{M:List (Option Ent × Value)}{T:Nat→Prop}(h:zS Fo w D p sv M)(hT : ∀ k,T k → ∃ ob,w.heap[k]? = some ob ∧ ∀ cs fz,ob ≠ .cells cs 5 fz):zS (fun k=>Fo k∨T k) w D p sv M:=by
 refine⟨h.box,h.row,h.vals,h.dd,h.ok,fun e v g hv hg hf => ?_,fun k hk => ?_⟩
 ·rcases hf with hf | hf
  ·exact h.off e v g hv hg hf
  ·obtain⟨ob,h1,h2⟩:=hT g hf;obtain⟨cur,h3⟩:=yg (h.vals e v hv) hg;rw[h1]at h3;injection h3 with h3
   exact h2 _ _ h3
 ·rcases hk with hk | hk
  ·exact h.flt k hk
  ·obtain⟨ob,h1,_⟩:=hT k hk;exact(uY.1 h1).1
theorem zW.add{D T:Nat→Prop}{d seed:Nat}{same:Bool}{L:List (Option Ent)}{Gs:List Grp}(h:zW Fo w D d seed same L Gs)(hT : ∀ k,T k → ∃ ob,w.heap[k]? = some ob ∧ ∀ cs fz,ob ≠ .cells cs 5 fz):zW (fun k=>Fo k∨T k) w D d seed same L Gs:=by
 obtain⟨q,p,sv,Dl,h3,h4,h5⟩:=h;obtain⟨lv,M,e,h6⟩:=h3.log;exact⟨q,p,sv,Dl,⟨h3.box,⟨lv,M,e,h6.add hT⟩,h3.ix,h3.sd⟩,h4,h5⟩
theorem zW.less{D:Nat→Prop}{d seed:Nat}{same:Bool}{L:List (Option Ent)}{Gs:List Grp}(h:zW Fo w D d seed same L Gs)(h1 : ∀ k,Fo' k→Fo k):zW Fo' w D d seed same L Gs:=h.refo (Mod.refl _ w) (fun k hk => .inl (h1 k hk)) (fun k hk=>by
 obtain⟨q,p,sv,Dl,h3,h4,h5⟩:=h;obtain⟨lv,M,e,h6⟩:=h3.log;exact h6.flt k (h1 k hk))
theorem zW.holds{D:Nat→Prop}{d seed:Nat}{same:Bool}{L:List (Option Ent)}{Gs:List Grp}(h:zW Fo w D d seed same L Gs){k:Nat}(hk:D k) : ∃ ob,w.heap[k]? = some ob ∧ ∀ cs fz,ob ≠ .cells cs 5 fz:=by
 have hl:=h.lt hk;refine⟨_,qn hl,fun cs fz e => ?_⟩;have h1:=h.types hk (cs:=cs) (T:=5) (fz:=fz) (by rw[qn hl,e]);rcases h1 with h1 | h1 | h1 | h1 | h1<;>exact absurd h1 (by decide)
theorem xa.frameR{p:Nat}{k0 k1 k2 k3 k4 k5:Int}{th:Nat}{ns:List EvN}(h:xa Fo w p k0 k1 k2 k3 k4 k5 th ns)(hm:Mod S w w')(hD : ∀ k,evD p ns k → ¬ S k)(hS : ∀ k,k<w.heap.size→S k→Fo k)(h1 : ∀ k,Fo' k→Fo k∨w.heap.size≤k)(h2 : ∀ k,Fo' k→k<w'.heap.size):xa Fo' w' p k0 k1 k2 k3 k4 k5 th ns:=by
 have h':=h.frameF hm hD (fun k hk hs => .inl (hS k hk hs));refine⟨h'.box,h'.node,h'.vals,fun n hn g hg hf => ?_,h'.nd,h'.ok,h2⟩;rcases h1 g hf with hx | hx
 ·exact h.off n hn g hg hx
 ·have:=vh (h.vals n hn) hg;omega
theorem xa.add{T:Nat→Prop}{p:Nat}{k0 k1 k2 k3 k4 k5:Int}{th:Nat}{ns:List EvN}(h:xa Fo w p k0 k1 k2 k3 k4 k5 th ns)(hT : ∀ k,T k → ∃ ob,w.heap[k]? = some ob ∧ ∀ cs fz,ob ≠ .cells cs 5 fz):xa (fun k=>Fo k∨T k) w p k0 k1 k2 k3 k4 k5 th ns:=by
 refine⟨h.box,h.node,h.vals,fun n hn g hg hf => ?_,h.nd,h.ok,fun k hk => ?_⟩
 ·rcases hf with hf | hf
  ·exact h.off n hn g hg hf
  ·obtain⟨ob,h1,h2⟩:=hT g hf;obtain⟨cur,h3⟩:=yg (h.vals n hn) hg;rw[h1]at h3;injection h3 with h3
   exact h2 _ _ h3
 ·rcases hk with hk | hk
  ·exact h.flt k hk
  ·obtain⟨ob,h1,_⟩:=hT k hk;exact(uY.1 h1).1
theorem xM.frameR{p:Nat}{ns:List EvN}(h:xM Fo w p ns)(hm:Mod S w w')(hD : ∀ k,evD p ns k → ¬ S k)(hS : ∀ k,k<w.heap.size→S k→Fo k)(h1 : ∀ k,Fo' k→Fo k∨w.heap.size≤k)(h2 : ∀ k,Fo' k→k<w'.heap.size):xM Fo' w' p ns:=by
 obtain⟨k0,k1,k2,k3,k4,k5,h⟩:=h;exact⟨k0,k1,k2,k3,k4,k5,h.frameR hm hD hS h1 h2⟩
theorem xM.add{T:Nat→Prop}{p:Nat}{ns:List EvN}(h:xM Fo w p ns)(hT : ∀ k,T k → ∃ ob,w.heap[k]? = some ob ∧ ∀ cs fz,ob ≠ .cells cs 5 fz):xM (fun k=>Fo k∨T k) w p ns:=by
 obtain⟨k0,k1,k2,k3,k4,k5,h⟩:=h;exact⟨k0,k1,k2,k3,k4,k5,h.add hT⟩
theorem xM.less{p:Nat}{ns:List EvN}(h:xM Fo w p ns)(h1 : ∀ k,Fo' k→Fo k):xM Fo' w p ns:=by
 obtain⟨k0,k1,k2,k3,k4,k5,h⟩:=h;exact⟨k0,k1,k2,k3,k4,k5,h.refo (Mod.refl _ w) (fun k hk => .inl (h1 k hk)) (fun k hk=>h.flt k (h1 k hk))⟩
theorem xM.lt{p:Nat}{ns:List EvN}(h:xM Fo w p ns){k:Nat}(hk:evD p ns k):k<w.heap.size:=by
 obtain⟨k0,k1,k2,k3,k4,k5,h⟩:=h;exact h.lt hk
theorem xM.flt{p:Nat}{ns:List EvN}(h:xM Fo w p ns){k:Nat}(hk:Fo k):k<w.heap.size:=by
 obtain⟨k0,k1,k2,k3,k4,k5,h⟩:=h;exact h.flt k hk
theorem xM.holds{p:Nat}{ns:List EvN}(h:xM Fo w p ns){k:Nat}(hk:evD p ns k) : ∃ ob,w.heap[k]? = some ob ∧ ∀ cs fz,ob ≠ .cells cs 5 fz:=by
 obtain⟨k0,k1,k2,k3,k4,k5,h⟩:=h;rcases hk with rfl | ⟨n,hn,rfl⟩
 ·exact⟨_,h.box,fun cs fz e=>by injection e with _ e;exact absurd e (by decide)⟩
 ·obtain⟨i,hi⟩:=ug hn;exact⟨_,h.node i n hi,fun cs fz e=>by injection e with _ e;exact absurd e (by decide)⟩
end
end
end Go.Proofs.YtpplkcnknabofaaGreatDoor
