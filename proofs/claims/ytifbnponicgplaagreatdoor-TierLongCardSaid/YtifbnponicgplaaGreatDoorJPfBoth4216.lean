/- Lemmas and contracts of functions. No condition. -/
import Derived.Test.YtifbnponicgplaaGreatDoorJPfBoth4213
import Derived.Test.YtifbnponicgplaaGreatDoorJPfBoth4214
import Derived.Test.YtifbnponicgplaaGreatDoorJPfBoth4215
namespace Go.Proofs.YtifbnponicgplaaGreatDoor
open _root_.Go.Proofs.Tryz
set_option maxRecDepth 100000
set_option maxHeartbeats 20000000
set_option linter.all false
section
open Go.RowKit Go.Shelf
section
variable{Fo:Nat→Prop}{w w':World}{b:CaB}{s:CaS}
theorem Zs(h:zo Fo w b s):Calls prog 49 #[lkP b.p] w fun e w'=>e=.returned (.bool false)∧w=w':=by
 have hb:=h.box;clear h;obtain⟨hb_0,hb_1,hb_2,hb_3,hb_4,hb_5,hb_6,hb_7,hb_8,hb_9,hb_10,hb_f,hb_l,H_hb⟩:=xW hb;clear hb;go_enter func49,ntmps49;go_wp2;go_ret;exact⟨rfl,rfl⟩
abbrev ceV(x:CE)(v:Value):Value := .agg #[.string x.key,v,.int .u64 x.dl,.int .u64 x.birth]
theorem yf.nowOk{D:Nat→Prop}{p now:Nat}{M:List Td}(h:yf w D p now M):Calls prog 61 #[lkP p] w fun e w'=>e=.returned (.int .u64 now)∧w=w':=by
 obtain⟨q,bb,bs,Dc,Db,Ds,h1,_⟩:=h;exact JC h1
def TlS(p v t bx:Nat)(key:ByteArray)(vv:Value)(dl birth:Nat)(X:World):Prop :=
 X.cell? ⟨p,5,none⟩=some (lkP v)∧X.cell? ⟨p,4,none⟩=some (lkP t)∧X.cell? ⟨bx,0,none⟩=some (.string key)∧X.cell? ⟨bx,1,none⟩=some vv∧X.cell? ⟨bx,2,none⟩=some (.int .u64 dl)∧X.cell? ⟨bx,3,none⟩=some (.int .u64 birth)
def ZN(Fo:Nat→Prop)(w:World)(b:CaB)(s:CaS)(e:Ending)(w':World):Prop:=e=.returned (.tuple #[]) ∧ ∃ b',zo Fo w' b' s∧zu w w' b b'
theorem zbc(h:zo Fo w b s){x:Ev}(hx:x.Ok)(htm:x.tm=s.now)(hlen:s.evs.length<1048576){a:Option Addr}{n c:Nat}(hv:zr w (.slice a n c) 1 (zJ x.e.val)) :
  Calls prog 80 #[lkP b.p,.int .i64 x.kind,ceV x.e (.slice a n c)] w (ZN Fo w b {s with evs:=s.evs++[x]}):=by
 have hp0:zb w (w.alloc (.cells #[.string x.e.key,.slice a n c,.int .u64 x.e.dl,.int .u64 x.e.birth] 70)):=(Mod.refl _ w).alloc _;have hbx:=zk (w:=w) (o := .cells #[.string x.e.key,.slice a n c,.int .u64 x.e.dl,.int .u64 x.e.birth] 70 (0,0)) rfl;have HH:=za (h.pure hp0);have HP:=za hp0;have HV:=za (hv.frame hp0 (fun _ _ h=>h));have hb:=(h.pure hp0).box;have HL:=za hlen;have HX:=za hx;have HTM:=za htm;have HLT:=za (fun k (hk:b.D k)=>h.lt hk);clear h hv hp0 hlen hx htm;go_enter func80,ntmps80;go_upto_region 1 with fail
 generalize w.alloc (.cells #[.string x.e.key,.slice a n c,.int .u64 x.e.dl,.int .u64 x.e.birth] 70)=W1 at *;obtain⟨bx,hbe⟩:=zf w.heap.size;rw[hbe]at hbx HLT ⊢;have HBE:=za hbe;clear hbe;have HB1:=za hb;have HB2:=za hbx;have HS:=za (fun(X:World) (hX:zb W1 X)=>(⟨zi X b.p 5 _ _ (0,0) (hX.heap (fun h=>h) hb),zi X b.p 4 _ _ (0,0) (hX.heap (fun h=>h) hb),zi X bx 0 _ _ (0,0) (hX.heap (fun h=>h) hbx),zi X bx 1 _ _ (0,0) (hX.heap (fun h=>h) hbx),zi X bx 2 _ _ (0,0) (hX.heap (fun h=>h) hbx),zi X bx 3 _ _ (0,0) (hX.heap (fun h=>h) hbx)⟩:TlS b.p b.v b.t bx x.e.key (.slice a n c) x.e.dl x.e.birth X));have HNo:=za (HH.out.due.pure ((Mod.refl (fun _=>False) W1).drew)).nowOk;have HAd:=za (zfU ((HH.out.pure (Mod.refl (fun _=>False) W1).drew).ev) HX.out (by have:=congrArg List.length HH.out.evs;unfold Zj at this;rw[yH]at this;have:=HL.out;omega) (HV.out.frame ((Mod.refl (fun _=>False) W1).drew) (fun _ _ h=>h)));rw[HTM.out]at HAd;clear hb hbx;refine rHd (S:=TlS b.p b.v b.t bx x.e.key (.slice a n c) x.e.dl x.e.birth) (HS.out _ (Mod.refl _ _).drew) (fun h_ => ?_);refine hTk 0 ?_;refine hTk 1 ?_;refine hTk 2 ?_;refine hTk 3 ?_;refine hLd 4 ?_;refine hTk 5 ?_;refine hTk 6 ?_;refine hLd 7 ?_;refine hTk 8 ?_;refine hLd 9 ?_;refine hTk 10 ?_;refine hLd 11 ?_;refine hTk 12 ?_;refine hLd 13 ?_;refine hTk 14 ?_;refine hTk 15 ?_;refine hTk 16 ?_;refine hTk 17 ?_;refine hLd 18 ?_
 (refine hSt 19 (fun K hK => ?_);go_simp;refine HNo.out.mono ?_;rintro e u1 ⟨rfl,rfl⟩;refine hK.out _ _ ?_ (fun h_ => ?_);(· exact h_);clear hK K;refine clA ?_)
 refine hTk 20 ?_
 (refine hSt 21 (fun K hK => ?_);go_simp;refine HAd.out.mono ?_;rintro e u2 ⟨rfl,blk,vv,hev,hge,hfr,hme⟩;refine hK.out _ _ ?_ (fun h_ => ?_);(· exact⟨hme.cell (a:=⟨b.p,5,none⟩) (fun e=>by have e2:b.cl b.p=7:=HH.out.sep.v _ e;rw[HH.out.sep.p]at e2;cases e2) h_.1,hme.cell (a:=⟨b.p,4,none⟩) (fun e=>by have e2:b.cl b.p=7:=HH.out.sep.v _ e;rw[HH.out.sep.p]at e2;cases e2) h_.2.1,hme.cell (a:=⟨bx,0,none⟩) (fun e=>by have:bx<bx:=HLT.out bx (.inr (.inr (.inr (.inr (.inr (.inr e))))));omega) h_.2.2.1,hme.cell (a:=⟨bx,1,none⟩) (fun e=>by have:bx<bx:=HLT.out bx (.inr (.inr (.inr (.inr (.inr (.inr e))))));omega) h_.2.2.2.1,hme.cell (a:=⟨bx,2,none⟩) (fun e=>by have:bx<bx:=HLT.out bx (.inr (.inr (.inr (.inr (.inr (.inr e))))));omega) h_.2.2.2.2.1,hme.cell (a:=⟨bx,3,none⟩) (fun e=>by have:bx<bx:=HLT.out bx (.inr (.inr (.inr (.inr (.inr (.inr e))))));omega) h_.2.2.2.2.2⟩);clear hK K;refine clA ?_)
 refine hDn ?_;clear h_;have hev2:Zj (b.ns++[(blk,x,vv)])=s.evs++[x]:=by rw[← HH.out.evs];simp[Zj]
 have hgr : ∀ k,evD b.v (b.ns++[(blk,x,vv)]) k→evD b.v b.ns k∨W1.heap.size≤k:=fun k hk=>by
  rcases hk with e | ⟨n,hn,e⟩
  ·exact .inl (.inl e)
  ·rcases yI.1 hn with hn | hn
   ·exact .inl (.inr ⟨n,hn,e⟩)
   ·rw[xc.1 hn]at e;exact .inr (by rw[← e];exact hge)
 have hmw:Mod (evD b.v b.ns) W1 u2:=Mod.trans' ((Mod.refl (fun _=>False) W1).drew) hme (fun _ _ h=>h.elim) (fun _ _ h=>h);have HC:=za (HH.out.putEv hev hev2 hmw hgr);have HT:=za ((zu.pure HP.out).trans (zu.ofEv hmw hgr));clear hev hge hfr hme hev2 hgr hmw;go_wp2
 go_end0
 exact⟨rfl,_,HC.out,HT.out⟩
end
def Bu.rem(U:Bu)(g c:Nat):Bu:=if g=0 then {U with c0:=U.c0-1,s0:=U.s0-c}else {U with c1:=U.c1-1,s1:=U.s1-c}
theorem zjF(L:List (Option CE))(i:Nat):zP (L.set i none)=(zP L).set i none:=by unfold zP;rw[Y1];rfl
theorem Yq{L:List (Option CE)}{i:Nat}{x:CE}(h:L[i]? = some (some x)):(zP L)[i]? = some (some x.ent):=by unfold zP;rw[yz,h];rfl
section
variable{Fo:Nat→Prop}{w w':World}{b:CaB}{s:CaS}
theorem zdS{u mc mb:Nat}{U:Bu}(h:yV w u mc mb U){g:Nat}(hg:g≤1){c:Nat}(hc:c≤1099511627776)(hh:U.holds g c) :
  Calls prog 77 #[buP u,.int .i64 g,.int .i64 c] w fun e w'=>e=.returned (.int .i64 0)∧yV w' u mc mb (U.rem g c)∧Mod (fun k=>k=u) w w':=by
 obtain rfl | rfl:g=0∨g=1:=by omega
 ·exact zlE h hc hh
 ·exact zdH h hc hh
structure LvF(w:World)(p k c1 c2:Nat):Prop where
 b1:w.heap[c1]? = some (.cells #[lkP p] 41 (0,0))
 b2:w.heap[c2]? = some (.cells #[.int .i64 k] 76 (0,0))
abbrev lvV(c1 c2:Nat):Value := .func (.func 75) #[] #[.pointer (some ⟨c1,0,none⟩),.pointer (some ⟨c2,0,none⟩)]
theorem LvF.mod{p k c1 c2:Nat}{S:Nat→Prop}(h:LvF w p k c1 c2)(hm:Mod S w w')(h1 : ¬ S c1)(h2 : ¬ S c2):LvF w' p k c1 c2:=⟨hm.heap h1 h.b1,hm.heap h2 h.b2⟩
theorem UM(p k:Nat)(w:World):Calls prog 41 #[lkP p,.int .i64 k] w fun e w'=>e=.returned (lvV w.heap.size (w.heap.size+1))∧LvF w' p k w.heap.size (w.heap.size+1)∧zb w w':=by
 have h1:=zK (o := .cells #[.int .i64 k] 76) (zk (w:=w) (o := .cells #[lkP p] 41 (0,0)) rfl);have h2:=zk (w:=w.alloc (.cells #[lkP p] 41)) (o := .cells #[.int .i64 k] 76 (0,0)) (n:=w.heap.size+1) (by simp);go_enter func41,ntmps41;go_wp2;go_ret;exact⟨rfl,⟨h1,h2⟩,((Mod.refl _ w).alloc _).alloc _⟩
def lvS(s:CaS)(k:Nat)(x:CE)(y:Wt):CaS :=
 {s with A:=zy s.A y.slot,B:=zy s.B y.slot,U:=s.U.rem (gOf s.B y.slot) y.cost,M:=vq s.M y.slot,L:=s.L.set y.slot none,evs:=s.evs++[⟨k,x,s.now⟩]}
theorem zu.nd{b':CaB}(h:zu w w' b b'){k:Nat}(hk : ¬ b.D k)(hl:k<w.heap.size) : ¬ b'.D k:=fun e=>(h.grew k e).elim hk (fun e=>by omega)
theorem QN(B:List Wt)(s:Nat):gOf B s≤1:=by unfold gOf;split<;>omega
theorem zec(h:zo Fo w b s){k c1 c2:Nat}(hf:LvF w b.p k c1 c2)(n1 : ¬ b.D c1)(n2 : ¬ b.D c2){x:CE}{y:Wt}(hx:s.L[y.slot]? = some (some x))(hy:y∈s.A++s.B)(hev:Ev.Ok ⟨k,x,s.now⟩)(hlen:s.evs.length<1048576)(hh:s.U.holds (gOf s.B y.slot) y.cost) :
    Calls prog 75 #[.int .u32 y.slot,.pointer (some ⟨c1,0,none⟩),.pointer (some ⟨c2,0,none⟩)] w (ZN Fo w b (lvS s k x y)):=by
  have hrg:=h.order.law.rng y hy;have HOf:=za (V3 h.order hy);have HRm:=za (zkx h.order hy);have HH:=za h;have HF:=za hf;have HX:=za hx;have HEV:=za hev;have HLE:=za hlen;have HHh:=za hh;have HRG:=za hrg;have N1:=za n1;have N2:=za n2;have L1:=za (zm hf.b1);have L2:=za (zm hf.b2);have hb:=h.box;have hc1:=hf.b1;clear h hf hx hev hlen hh hrg n1 n2 hy;obtain⟨g,hg⟩:=zf (gOf s.B y.slot);rw[hg]at HOf HHh;have HG:=za hg;have HGL:Hid (g≤1):=za (by rw[← hg];exact QN _ _);clear hg;obtain⟨sl,hsl⟩:=zf y.slot;obtain⟨co,hco⟩:=zf y.cost;rw[hsl]at HOf HRm HX HG HRG ⊢;rw[hco]at HOf HHh HRG;have HSL:=za hsl;have HCO:=za hco;clear hsl hco;obtain⟨hb_0,hb_1,hb_2,hb_3,hb_4,hb_5,hb_6,hb_7,hb_8,hb_9,hb_10,hb_f,hb_l,H_hb⟩:=xW hb;clear hb;obtain⟨hc1_0,hc1_f,hc1_l,H_hc1⟩:=cr1 hc1;clear hc1;go_enter func75,ntmps75;go_upto_region 2 with(first
    | (go_at_call 44;refine HOf.out.mono ?_;rintro e w' ⟨rfl,rfl⟩)
    | (go_at_call 76;refine HRm.out.mono ?_;rintro e w1 ⟨rfl,hr1,hm1⟩))
  clear hb_0 hb_1 hb_2 hb_3 hb_4 hb_5 hb_6 hb_7 hb_8 hb_9 hb_10 hb_f hb_l;clear hc1_0 hc1_f hc1_l;clear H_hb H_hc1;obtain⟨b1,C1,T1⟩ : ∃ b1,zo Fo w1 b1 {s with A:=zy s.A sl,B:=zy s.B sl}∧zu w w1 b b1:=⟨_,HH.out.putOrder hr1 hm1 (fun _ h => .inl h),zu.ofOrder hm1 (fun _ h => .inl h)⟩;have HBr:=za (zdS C1.used HGL.out (by have:=HRG.out;omega) HHh.out);have hb1:=C1.box;rw[T1.p]at hb1;have hc1:=HF.out.b1;have hc1:=T1.mod.heap N1.out hc1;have HC1:=za C1;have HT1:=za T1;clear hr1 hm1 C1 T1;obtain⟨hb1_0,hb1_1,hb1_2,hb1_3,hb1_4,hb1_5,hb1_6,hb1_7,hb1_8,hb1_9,hb1_10,hb1_f,hb1_l,H_hb1⟩:=xW hb1;clear hb1;obtain⟨hc1_0,hc1_f,hc1_l,H_hc1⟩:=cr1 hc1;clear hc1;go_upto_region 3 with(go_at_call 77;refine HBr.out.mono ?_;rintro e w2 ⟨rfl,hr2,hm2⟩)
  clear hb1_0 hb1_1 hb1_2 hb1_3 hb1_4 hb1_5 hb1_6 hb1_7 hb1_8 hb1_9 hb1_10 hb1_f hb1_l;clear hc1_0 hc1_f hc1_l;clear H_hb1 H_hc1;obtain⟨b2,C2,T2⟩ : ∃ b2,zo Fo w2 b2 {s with A:=zy s.A sl,B:=zy s.B sl,U:=s.U.rem g co}∧zu w w2 b b2:=⟨_,HC1.out.putUsed hr2 hm2,HT1.out.trans (zu.ofUsed hm2)⟩;have HDr:=za (C2.due.remove (s:=sl) (by have:=HRG.out;omega));have hb2:=C2.box;rw[T2.p]at hb2;have hc1:=T2.mod.heap N1.out HF.out.b1;have HC2:=za C2;have HT2:=za T2;clear hr2 hm2 C2 T2 HC1 HT1 HBr;obtain⟨hb2_0,hb2_1,hb2_2,hb2_3,hb2_4,hb2_5,hb2_6,hb2_7,hb2_8,hb2_9,hb2_10,hb2_f,hb2_l,H_hb2⟩:=xW hb2;clear hb2;obtain⟨hc1_0,hc1_f,hc1_l,H_hc1⟩:=cr1 hc1;clear hc1;go_upto_region 4 with(go_at_call 78;refine HDr.out.mono ?_;rintro e w3 ⟨rfl,⟨D3,hr3,hg3⟩,hm3⟩)
  clear hb2_0 hb2_1 hb2_2 hb2_3 hb2_4 hb2_5 hb2_6 hb2_7 hb2_8 hb2_9 hb2_10 hb2_f hb2_l;clear hc1_0 hc1_f hc1_l;clear H_hb2 H_hc1;obtain⟨b3,C3,T3⟩ : ∃ b3,zo Fo w3 b3 {s with A:=zy s.A sl,B:=zy s.B sl,U:=s.U.rem g co,M:=vq s.M sl}∧zu w w3 b b3:=⟨_,HC2.out.putDue hr3 hm3 hg3,HT2.out.trans (zu.ofDue hm3 hg3)⟩;have HRe:=za (zf6 C3.dict (s:=sl) (x:=x.ent) (Yq HX.out));have hb3:=C3.box;rw[T3.p]at hb3;have hc1:=T3.mod.heap N1.out HF.out.b1;have HC3:=za C3;have HT3:=za T3;clear hr3 hg3 hm3 C3 T3 HC2 HT2 HDr;obtain⟨hb3_0,hb3_1,hb3_2,hb3_3,hb3_4,hb3_5,hb3_6,hb3_7,hb3_8,hb3_9,hb3_10,hb3_f,hb3_l,H_hb3⟩:=xW hb3;clear hb3;obtain⟨hc1_0,hc1_f,hc1_l,H_hc1⟩:=cr1 hc1;clear hc1;go_upto_region 5 with(go_at_call 79;refine HRe.out.mono ?_;rintro e w4 ⟨va,vn,vc,rfl,hby,hfr,D4,hr4,hm4,hg4⟩)
  clear hb3_0 hb3_1 hb3_2 hb3_3 hb3_4 hb3_5 hb3_6 hb3_7 hb3_8 hb3_9 hb3_10 hb3_f hb3_l;clear hc1_0 hc1_f hc1_l;clear H_hb3 H_hc1;rw[← zjF]at hr4;obtain⟨b4,C4,T4⟩ : ∃ b4,zo Fo w4 b4 {s with A:=zy s.A sl,B:=zy s.B sl,U:=s.U.rem g co,M:=vq s.M sl,L:=s.L.set sl none}∧zu w w4 b b4:=⟨_,HC3.out.putDict (L':=s.L.set sl none) hr4 hm4 hg4,HT3.out.trans (zu.ofDict hm4 hg4)⟩;have hal:zb w4 (w4.alloc (.cells #[.string x.key,.slice va vn vc,.int .u64 x.dl,.int .u64 x.birth] 70)):=(Mod.refl _ w4).alloc _;have hbx:=zk (w:=w4) (o := .cells #[.string x.key,.slice va vn vc,.int .u64 x.dl,.int .u64 x.birth] 70 (0,0)) rfl;have hf5:=(HF.out.mod T4.mod N1.out N2.out).mod hal (fun h=>h) (fun h=>h);have HTe:=za (zbc (C4.pure hal) (x:=⟨k,x,s.now⟩) HEV.out rfl HLE.out ((zW.read hby (uQ x.val)).frame hal (fun _ _ h=>h)));have T5:=T4.trans (zu.pure hal);rw[T5.p]at HTe;have HT5:=za T5;generalize w4.alloc (.cells #[.string x.key,.slice va vn vc,.int .u64 x.dl,.int .u64 x.birth] 70)=W5 at *;generalize w4.heap.size=bx at *;have g1:=hf5.b1;have g2:=hf5.b2;clear hal hr4 hm4 hg4 C4 T4 HC3 HT3 hby hfr hf5 T5;obtain⟨g1_0,g1_f,g1_l,H_g1⟩:=cr1 g1;clear g1;obtain⟨g2_0,g2_f,g2_l,H_g2⟩:=cr1 g2;clear g2;obtain⟨hbx_0,hbx_1,hbx_2,hbx_3,hbx_f,hbx_l,H_hbx⟩:=cr4 hbx;clear hbx
  go_wp2_with (go_at_call 80;refine HTe.out.mono ?_;rintro e w6 ⟨rfl,b6,C6,T6⟩)
  go_end0
  refine⟨rfl,b6,?_,HT5.out.trans T6⟩;unfold lvS;rw[HSL.out,HCO.out,HG.out];exact C6
end
def Bu.of(A B:List Wt):Bu:=⟨A.length,zw A,B.length,zw B⟩
theorem zfx{L:List Wt}{k:Nat}{x:Wt}(h:L[k]? = some x):zw (L.take (k+1))=zw (L.take k)+x.cost:=by
 rw[uH,h,vT];simp[zw]
theorem zkk{L:List Wt}{k:Nat}{x:Wt}(h:L[k]? = some x):zw (L.drop k)=x.cost+zw (L.drop (k+1)):=by
 obtain⟨h1,h2⟩:=zE.1 h;rw[jK h1,h2,kj]
theorem Q4{w:World}{a:Option Addr}{n c:Nat}{L:List Nat}(h:zr w (.slice a n c) 1 (zY L)){j:Nat}{x:Nat}(hx:L[j]? = some x) : ∃ ad,a=some ad∧w.cell? (ad.add j)=some (.int .u32 x):=by
 obtain⟨a',n',c',e,hl,_,h0,hc⟩:=h;injection e with e1 e2 e3
 subst e1 e2 e3;have hu:(zY L)[j]? = some (.int .u32 x):=by unfold zY;rw[yz,hx];rfl
 cases a with
 | none =>
  have:=h0 rfl;have:=(zE.1 hu).1;omega
 | some ad=>exact⟨ad,rfl,hc ad rfl _ _ hu⟩
section
variable{Fo:Nat→Prop}{w w':World}{b:CaB}{s:CaS}
theorem zd2(h:zo Fo w b s){ys:List Wt}{a:Option Addr}{n c:Nat}(hr:zr w (.slice a n c) 1 (zY (zA ys)))(hn:ys.length=n)(hnd : ∀ g,ui (.slice a n c)=some g → ¬ b.D g)
    (hys : ∀ y∈ys,y∈s.A++s.B) {c0 s0 nB sB:Nat} (hU:s.U=⟨c0,s0,nB+n,sB+zw ys⟩) (hz:nB=0→sB=0) (h1:c0+n≤2097152) (h2:s0+zw ys≤2305843009213693952) :
    Calls prog 87 #[lkP b.p,.slice a n c] w (ZN Fo w b {s with U:=⟨c0+n,s0+zw ys,nB,sB⟩}):=by
  have HH:=za h;have HR:=za hr;have HN:=za hn;have HND:=za hnd;have HY:=za hys;have HU:=za hU;have HZ:=za hz;have H1:=za h1;have H2:=za h2;have hn4:Hid (n≤2097152):=za (by omega);clear h hr hn hnd hys hU hz h1 h2;go_enter func87,ntmps87;go_upto_region 1 with fail
  go_loopw [11] (fun v11 wr => ∃(k:Nat) (b':CaB),v11=.int .i64 (k:Nat)∧k≤n∧zo Fo wr b' {s with U:=⟨c0+k,s0+zw (ys.take k),nB+(n-k),sB+zw (ys.drop k)⟩}∧zu w wr b b') (fun v11 _=>n-(intOf v11).toNat)
  case atStart=>exact⟨0,b,rfl,yq _,by
    have h9:=HH.out;have e:({s with U:=⟨c0+0,s0+zw (ys.take 0),nB+(n-0),sB+zw (ys.drop 0)⟩}:CaS)=s:=by
      have:=HU.out
      cases s
      simp at this ⊢;rw[this];simp[qv]
    rw[e];exact h9,zu.pure (Mod.refl _ _)⟩
  case round =>
    obtain⟨k,b',rfl,hk,hC,hT⟩:=hrel;have HC:=za hC;have HT:=za hT;clear hC hT;by_cases hlt:k<n
    · have hlt':(k:Int)<(n:Int):=by omega
      have k0:(0:Int)≤(k:Int):=by omega
      have wk:IntKind.i64.wrap ((k:Int)+1)=(k:Int)+1:=zt _ (by have:=hn4.out;omega);obtain⟨y,hy⟩ : ∃ y,ys[k]? = some y:=⟨_,zO (by rw[HN.out];exact hlt)⟩;have hsy:(zA ys)[k]? = some y.slot:=by unfold zA;rw[yz,hy];rfl
      obtain⟨ad,had,z0⟩:=Q4 (HR.out.frame HT.out.mod HND.out) hsy;subst had;have hmem:=HY.out y (ym hy);have ht:=zfx hy;have hd:=zkk hy;have HOf:=za (V3 HC.out.order hmem);have hrg:=HC.out.order.law.rng y hmem;have hcs:zw (ys.take k)+(y.cost+zw (ys.drop (k+1)))=zw ys:=by
        rw[← hd,← vT,Yl]
      have HM:=za (zlz HC.out.used (c:=y.cost) hrg.2 (by show c0+k+1≤2097152;have:=H1.out;omega) (by show s0+zw (ys.take k)+y.cost≤_;have:=H2.out;omega) (by
        show Bu.holds ⟨c0+k,s0+zw (ys.take k),nB+(n-k),sB+zw (ys.drop k)⟩ 1 y.cost
        unfold Bu.holds Bu.cnt Bu.sum;simp only[Nat.one_ne_zero,if_false];rw[hd];by_cases e:nB+(n-k)=1
        · have e1:nB=0:=by omega
          have e2:k+1=n:=by omega
          have e3:=HZ.out e1;have e4:ys.drop (k+1)=[]:=Zp (by rw[HN.out];omega);rw[e4,qv];exact .inr ⟨e,by omega⟩
        · exact .inl ⟨by omega,by omega⟩))
      have hb:=HC.out.box;rw[HT.out.p]at hb;obtain⟨sl,hsl⟩:=zf y.slot;obtain⟨co,hco⟩:=zf y.cost;have HCO:=za hco;have HTS:=za ht;have HDS:=za hd;rw[hsl]at z0 HOf;rw[hco]at HOf HM;clear hy hsy hmem ht hd hrg hcs hsl hco;obtain⟨g,hg⟩:=zf (gOf s.B sl);dsimp only at HOf;rw[hg]at HOf;clear hg;obtain⟨hb_0,hb_1,hb_2,hb_3,hb_4,hb_5,hb_6,hb_7,hb_8,hb_9,hb_10,hb_f,hb_l,H_hb⟩:=xW hb;clear hb;go_upto_region 5 with(first
        | (go_at_call 44;refine HOf.out.mono ?_;rintro e w' ⟨rfl,rfl⟩)
        | (go_at_call 142;refine HM.out.mono ?_;rintro e w2 ⟨rfl,hr2,hm2⟩))
      clear hb_0 hb_1 hb_2 hb_3 hb_4 hb_5 hb_6 hb_7 hb_8 hb_9 hb_10 hb_f hb_l;clear H_hb;have HC2:=za (HC.out.putUsed hr2 hm2);have HT2:=za (HT.out.trans (zu.ofUsed hm2));clear hr2 hm2;go_wp2;go_roundw
      case rel =>
        refine⟨k+1,b',by first | rfl | simp,hlt,?_,HT2.out⟩;have e1:(⟨c0+(k+1),s0+zw (ys.take (k+1)),nB+(n-(k+1)),sB+zw (ys.drop (k+1))⟩:Bu)=⟨c0+k+1,s0+zw (ys.take k)+co,nB+(n-k)-1,sB+zw (ys.drop k)-co⟩:=by
          have:=HTS.out;have:=HDS.out;have:=HCO.out
          congr 1<;>omega
        rw[e1];exact HC2.out
      case measure=>simp[intOf];omega
    · have hlt' : ¬ (k:Int)<(n:Int):=by omega
      obtain rfl:k=n:=by omega
      go_wp2
      go_end0
      refine⟨rfl,b',?_,HT.out⟩;have h9:=HC.out;rw[jX (by rw[HN.out];exact zN _),Zp (by rw[HN.out];exact zN _),qv,Y9,XC,XC]at h9;exact h9
end
theorem JG(lim:Int) : ∀(B A:List Wt),∃ ys B2,B=ys++B2∧dem lim A B=(A++ys,B2,zA ys)
 | [],A=>⟨[],[],rfl,by simp[dem,zA]⟩
 | x::B,A=>by
  cases h:jz lim (x::B)with
  | false=>exact⟨[],x::B,rfl,by rw[Vj h];simp[zA]⟩
  | true =>
   obtain⟨ys,B2,e1,e2⟩:=JG lim B (A++[x]);exact⟨x::ys,B2,by rw[e1];rfl,by rw[Vo h,e2];simp[zA]⟩
theorem Kh{L:List Wt}{y:Wt}(hnd:(zA L).Nodup)(hy:y∈L):zw (zy L y.slot)+y.cost=zw L∧(zy L y.slot).length+1=L.length:=by
 induction L with
 | nil=>cases hy
 | cons x L ih =>
  have hnd':(zA L).Nodup:=(yZ.1 hnd).2;have hx:x.slot∉zA L:=(yZ.1 hnd).1;rcases yx.1 hy with rfl | hy
  ·have e:zy (y::L) y.slot=L:=by
    unfold zy;rw[jh];simp;intro z hz e;exact hx (e ▸ zI.2 ⟨z,hz,rfl⟩)
   rw[e,kj];exact⟨by omega,rfl⟩
  ·have hne:x.slot≠y.slot:=fun e=>hx (e ▸ zI.2 ⟨y,hy,rfl⟩)
   have e:zy (x::L) y.slot=x::zy L y.slot:=by
    unfold zy;rw[jh];simp[hne]
   obtain⟨h1,h2⟩:=ih hnd' hy;rw[e,kj,kj];simp;omega
theorem zlp{A B:List Wt}{y:Wt}(h:SgL A B)(hy:y∈A++B):(gOf B y.slot=0∧y∈A∧zy B y.slot=B)∨(gOf B y.slot=1∧y∈B∧zy A y.slot=A):=by
 have hnd:=h.nd;unfold zA at hnd;rw[vr,xy]at hnd;by_cases hb:y.slot∈zA B
 ·refine .inr ⟨?_,?_,ZB (fun x hx e=>hnd.2.2 x.slot (zI.2 ⟨x,hx,rfl⟩) x.slot (by rw[e];exact hb) rfl)⟩
  ·unfold gOf;rw[zj hb]
  ·rcases yI.1 hy with hy | hy
   ·exact absurd rfl (hnd.2.2 y.slot (zI.2 ⟨y,hy,rfl⟩) y.slot hb)
   ·exact hy
 ·refine .inl ⟨?_,?_,ZB (fun x hx e=>hb (e ▸ zI.2 ⟨x,hx,rfl⟩))⟩
  ·unfold gOf;rw[zh hb]
  ·rcases yI.1 hy with hy | hy
   ·exact hy
   ·exact absurd (zI.2 ⟨y,hy,rfl⟩) hb
theorem Bu.of_rem{A B:List Wt}{y:Wt}(h:SgL A B)(hy:y∈A++B):(Bu.of A B).holds (gOf B y.slot) y.cost∧(Bu.of A B).rem (gOf B y.slot) y.cost=Bu.of (zy A y.slot) (zy B y.slot):=by
 have hnd:=h.nd;unfold zA at hnd;rw[vr,xy]at hnd;rcases zlp h hy with⟨e1,e2,e3⟩ | ⟨e1,e2,e3⟩
 ·obtain⟨h1,h2⟩:=Kh hnd.1 e2;rw[e1,e3];unfold Bu.holds Bu.cnt Bu.sum Bu.rem Bu.of;simp only[if_true];refine⟨?_,by congr 1<;>omega⟩;by_cases e:A.length=1
  ·have e4:zy A y.slot=[]:=qk (by omega);rw[e4,qv]at h1;exact .inr ⟨e,by omega⟩
  ·exact .inl ⟨by omega,by omega⟩
 ·obtain⟨h1,h2⟩:=Kh hnd.2.1 e2;rw[e1,e3];unfold Bu.holds Bu.cnt Bu.sum Bu.rem Bu.of;simp only[Nat.one_ne_zero,if_false];refine⟨?_,by congr 1<;>omega⟩;by_cases e:B.length=1
  ·have e4:zy B y.slot=[]:=qk (by omega);rw[e4,qv]at h1;exact .inr ⟨e,by omega⟩
  ·exact .inl ⟨by omega,by omega⟩
section
variable{Fo:Nat→Prop}{w w':World}{b:CaB}{s:CaS}
theorem zcD{u mc mb:Nat}{A B:List Wt}(h:yV w u mc mb (Bu.of A B)){tg:Nat}(hto:tg≤1){x:Wt}(hc:x.cost≤1099511627776)(hl:(A++B).length+1≤1048577)(hs:zw (A++B)≤1152922604118474752) :
  Calls prog 86 #[buP u,.int .i64 tg,.int .i64 x.cost] w fun e w'=>e=.returned (.int .i64 0)∧yV w' u mc mb (if tg=0 then Bu.of (A++[x]) B else Bu.of A (B++[x]))∧Mod (fun k=>k=u) w w':=by
 rw[zT]at hl;rw[vT]at hs;obtain rfl | rfl:tg=0∨tg=1:=by omega
 ·have h1:=Qy h hc (by show A.length+1≤_;omega) (by show zw A+x.cost≤_;omega);have e:Bu.of (A++[x]) B = {Bu.of A B with c0:=(Bu.of A B).c0+1,s0:=(Bu.of A B).s0+x.cost}:=by unfold Bu.of;rw[zT,vT];simp[zw]
  rw[zj rfl,e];exact h1
 ·have h1:=zlI h hc (by show B.length+1≤_;omega) (by show zw B+x.cost≤_;omega);have e:Bu.of A (B++[x]) = {Bu.of A B with c1:=(Bu.of A B).c1+1,s1:=(Bu.of A B).s1+x.cost}:=by unfold Bu.of;rw[zT,vT];simp[zw]
  rw[zh (by decide),e];exact h1
def vX(s:CaS)(x:Wt):CaS := {s with A:=(xu s.lim s.A s.B x).1,B:=(xu s.lim s.A s.B x).2.1,U:=Bu.of (xu s.lim s.A s.B x).1 (xu s.lim s.A s.B x).2.1}
theorem zaF(h:zo Fo w b s){y:Wt}(hy:y∈s.A++s.B){nc:Nat}(hnc:nc≤1099511627776)(hU:s.U=Bu.of s.A s.B)(hcfg:s.cfg.ok)(hlim:s.lim=s.cfg.part)(hn:(s.A++s.B).length≤1048577) :
    Calls prog 45 #[lkP b.p,.int .u32 y.slot,.int .i64 nc] w (ZN Fo w b (vX s ⟨y.slot,nc⟩)):=by
  have hlaw:=h.order.law;have hrg:=hlaw.rng y hy;obtain⟨hh,hrem⟩:=Bu.of_rem hlaw hy;have hgl:=QN s.B y.slot;have HOf:=za (V3 h.order hy);have HUs:=za (zhI h.order hy (y:=⟨y.slot,nc⟩) rfl hnc);have hpr:=Cfg.part_rng hcfg;have hcfv:s.cfg.v=.agg #[.int .i64 s.cfg.count,.int .i64 s.cfg.bytes,.int .i64 s.cfg.prot,.int .u64 s.cfg.seed,.bool s.cfg.same]:=rfl;have HPa:=za (fun W=>zdp hcfg W);rw[← hlim]at hpr HPa;have hlo:zw (zy s.A y.slot++zy s.B y.slot)≤1152922604118474752∧(zy s.A y.slot++zy s.B y.slot).length+1≤1048577:=by
    have hp:(zy s.A y.slot++zy s.B y.slot)=zy (s.A++s.B) y.slot:=by unfold zy;rw[YN]
    obtain⟨k1,k2⟩:=Kh hlaw.nd hy;rw[hp];refine⟨?_,by omega⟩;have k3:zw (zy (s.A++s.B) y.slot)≤(zy (s.A++s.B) y.slot).length*1099511627776:=Xt (fun x hx=>(hlaw.rng x (jW.1 hx).1).2);have k4:(zy (s.A++s.B) y.slot).length*1099511627776≤1048576*1099511627776:=Xd _ (by omega);omega
  have HLO:=za hlo;have HH:=za h;have HU:=za hU;have hb:=h.box;obtain⟨A1,B1,tg,htg,hW,hA1⟩ : ∃ A1 B1 tg,tg≤1∧xu s.lim s.A s.B ⟨y.slot,nc⟩=dem s.lim A1 B1∧((s.lim = -1∧tg=0∧A1=zy s.A y.slot++[⟨y.slot,nc⟩]∧B1=zy s.B y.slot)∨(s.lim ≠ -1∧tg=1∧A1=zy s.A y.slot∧B1=zy s.B y.slot++[⟨y.slot,nc⟩])):=by
    unfold xu;by_cases e:s.lim = -1
    · exact⟨_,_,0,by omega,by rw[zj e],.inl ⟨e,rfl,rfl,rfl⟩⟩
    · exact⟨_,_,1,by omega,by rw[zh e],.inr ⟨e,rfl,rfl,rfl⟩⟩
  obtain⟨ys,B2,eB,eD⟩:=JG s.lim B1 A1;have hperm:(A1++B1).length≤1048577∧zw (A1++B1)≤2305843009213693952:=by
    obtain⟨k1,k2⟩:=hlo;rw[zT]at k2;rw[vT]at k1;rcases hA1 with⟨_,_,rfl,rfl⟩ | ⟨_,_,rfl,rfl⟩
    · simp only[List.length_append,vT,kj,qv,List.length_cons,List.length_nil];omega
    · simp only[List.length_append,vT,kj,qv,List.length_cons,List.length_nil];omega
  have hif:(if tg=0 then Bu.of (zy s.A y.slot++[⟨y.slot,nc⟩]) (zy s.B y.slot)else Bu.of (zy s.A y.slot) (zy s.B y.slot++[⟨y.slot,nc⟩]))=Bu.of A1 B1:=by
    rcases hA1 with⟨_,rfl,rfl,rfl⟩ | ⟨_,rfl,rfl,rfl⟩<;>rfl
  have htl:((s.lim == -1)=true∧tg=0)∨((s.lim == -1)=false∧tg=1):=by
    rcases hA1 with⟨e,e2,_⟩ | ⟨e,e2,_⟩
    · exact .inl ⟨by simp[e],e2⟩
    · exact .inr ⟨by simp[e],e2⟩
  have HIF:=za hif;have HEB:=za eB;have HED:=za (hW.trans eD);have HPM:=za hperm;have HHH:=za hh;have HREM:=za hrem;have HGL:=za hgl;have HRG:=za hrg;have HNC:=za hnc;clear h hlaw hcfg hcfv hU hlo hlim hif eB eD hW hperm hA1 hh hrem hgl hrg hnc hpr hn hy;rw[HED.out]at HUs;unfold vX;rw[HED.out];dsimp only;obtain⟨sl,hsl⟩:=zf y.slot;obtain⟨co,hco⟩:=zf y.cost;obtain⟨g,hg⟩:=zf (gOf s.B sl);rw[hsl]at HOf HUs HIF HHH HREM HGL HRG HLO ⊢;rw[hco]at HOf HHH HREM HRG;rw[hg]at HOf HHH HREM HGL;clear hsl hco hg;generalize hlm:s.lim=lm at *;have HLM:=za hlm;clear hlm;obtain⟨hb_0,hb_1,hb_2,hb_3,hb_4,hb_5,hb_6,hb_7,hb_8,hb_9,hb_10,hb_f,hb_l,H_hb⟩:=xW hb;clear hb;go_enter func45,ntmps45;go_upto_region 2 with(first
    | (go_at_call 44;refine HOf.out.mono ?_;rintro e w' ⟨rfl,rfl⟩)
    | (go_at_call 85;refine HUs.out.mono ?_;rintro e w1 ⟨v,rfl,ga,gc,rfl,hgr,⟨D1,hr1,hg1,hgn⟩,hm1⟩))
  clear hb_0 hb_1 hb_2 hb_3 hb_4 hb_5 hb_6 hb_7 hb_8 hb_9 hb_10 hb_f hb_l;clear H_hb;obtain⟨b1,C1,T1,n1⟩ : ∃ b1,zo Fo w1 b1 {s with lim:=lm,A:=A1++ys,B:=B2}∧zu w w1 b b1 ∧ ∀ g,(Value.slice ga (zA ys).length gc).ownBlock=some g → ¬ b1.D g :=
    ⟨_,HH.out.putOrder hr1 hm1 hg1,zu.ofOrder hm1 hg1,fun g hg hD=>by
      obtain⟨k1,k2⟩:=hgn g hg;have hlt:=fun(e:b.D g)=>HH.out.lt e
      rcases hD with e | e | e | e | e | e | e
      · have:=hlt (.inl e);omega
      · have:=hlt (.inr (.inl e));omega
      · have:=hlt (.inr (.inr (.inl e)));omega
      · exact k1 e
      · have:=hlt (.inr (.inr (.inr (.inr (.inl e)))));omega
      · have:=hlt (.inr (.inr (.inr (.inr (.inr (.inl e))))));omega
      · have:=hlt (.inr (.inr (.inr (.inr (.inr (.inr e))))));omega⟩
  have hbu:=C1.used;dsimp only at hbu;rw[HU.out]at hbu;have HBr:=za (zdS hbu HGL.out HRG.out.2 HHH.out);rw[HREM.out]at HBr;have hb1:=C1.box;rw[T1.p]at hb1;have HC1:=za C1;have HT1:=za T1;have HN1:=za n1;have HGR:=za hgr;clear hr1 hm1 hg1 hgn C1 T1 n1 hgr hbu;have hyl:(zA ys).length=ys.length:=by unfold zA;simp
  rw[hyl]at HN1 ⊢;obtain⟨ny,hny⟩:=zf ys.length;rw[hny]at HN1 ⊢;have HNY:=za hny;have HYL:=za hyl;clear hny hyl;obtain⟨hb1_0,hb1_1,hb1_2,hb1_3,hb1_4,hb1_5,hb1_6,hb1_7,hb1_8,hb1_9,hb1_10,hb1_f,hb1_l,H_hb1⟩:=xW hb1;clear hb1;go_upto_region 3 with(go_at_call 77;refine HBr.out.mono ?_;rintro e w2 ⟨rfl,hr2,hm2⟩)
  clear hb1_0 hb1_1 hb1_2 hb1_3 hb1_4 hb1_5 hb1_6 hb1_7 hb1_8 hb1_9 hb1_10 hb1_f hb1_l;clear H_hb1;obtain⟨b2,C2,T2,n2⟩ : ∃ b2,zo Fo w2 b2 {s with lim:=lm,A:=A1++ys,B:=B2,U:=Bu.of (zy s.A sl) (zy s.B sl)}∧zu w w2 b b2 ∧ ∀ g,(Value.slice ga ny gc).ownBlock=some g → ¬ b2.D g ∧ ¬ b1.D g:=⟨b1,HC1.out.putUsed hr2 hm2,HT1.out.trans (zu.ofUsed hm2),fun g hg=>⟨HN1.out g hg,HN1.out g hg⟩⟩;have hgr2:=zz HGR.out (zu.ofUsed (b:=b1) hm2).mod (fun g hg=>HN1.out g (by rw[HYL.out,HNY.out]at hg;exact hg));have hb2:=C2.box;rw[T2.p]at hb2;have HC2:=za C2;have HT2:=za T2;have HN2:=za n2;have HGR2:=za hgr2;clear hr2 hm2 C2 T2 n2 hgr2 HC1 HT1 HN1 HGR HBr;obtain⟨hb2_0,hb2_1,hb2_2,hb2_3,hb2_4,hb2_5,hb2_6,hb2_7,hb2_8,hb2_9,hb2_10,hb2_f,hb2_l,H_hb2⟩:=xW hb2;clear hb2;go_upto_region 5 with(go_at_call 53;refine(HPa.out _).mono ?_;rintro e w3 ⟨rfl,hp3⟩)
  clear hb2_0 hb2_1 hb2_2 hb2_3 hb2_4 hb2_5 hb2_6 hb2_7 hb2_8 hb2_9 hb2_10 hb2_f hb2_l;clear H_hb2;have HC3:=za (HC2.out.pure hp3);have HT3:=za (HT2.out.trans (zu.pure hp3));have HGR3:=za (zz HGR2.out hp3 (fun _ _ h=>h));have hb3:=HC3.out.box;rw[HT2.out.p]at hb3;clear hp3 HC2 HT2 HGR2;have HAd:=za (zcD HC3.out.used (tg:=tg) (x:=⟨sl,nc⟩) htg HNC.out HLO.out.2 HLO.out.1);rw[HIF.out]at HAd;obtain⟨hb3_0,hb3_1,hb3_2,hb3_3,hb3_4,hb3_5,hb3_6,hb3_7,hb3_8,hb3_9,hb3_10,hb3_f,hb3_l,H_hb3⟩:=xW hb3;clear hb3;rcases htl with⟨hl,rfl⟩ | ⟨hl,rfl⟩
  all_goals
    go_upto_region 8 with(go_at_call 86;refine HAd.out.mono ?_;rintro e w4 ⟨rfl,hr4,hm4⟩)
    clear hb3_0 hb3_1 hb3_2 hb3_3 hb3_4 hb3_5 hb3_6 hb3_7 hb3_8 hb3_9 hb3_10 hb3_f hb3_l;clear H_hb3;have C4:=HC3.out.putUsed hr4 hm4;have T4:=HT3.out.trans (zu.ofUsed hm4);have hgr4:=zz HGR3.out (zu.ofUsed (b:=b2) hm4).mod (fun g hg=>(HN2.out g (by rw[HYL.out,HNY.out]at hg;exact hg)).1);have hrd:zr w4 (.slice ga ny gc) 1 (zY (zA ys)):=by
      have h9:=zr.of_owns hgr4 (fun u hu=>by obtain⟨q,_,rfl⟩:=zI.1 hu;rfl);rw[HYL.out,HNY.out]at h9;exact h9
    have hll:A1.length+(ys.length+B2.length)≤1048577∧zw A1+(zw ys+zw B2)≤2305843009213693952:=by
      have h9:=HPM.out;rw[HEB.out]at h9;simp only[List.length_append,vT]at h9;exact h9
    have HDm:=za (zd2 C4 hrd HNY.out (fun g hg=>(HN2.out g (U9 hg)).1) (fun y hy=>by show y∈(A1++ys)++B2;simp[hy]) (c0:=A1.length) (s0:=zw A1) (nB:=B2.length) (sB:=zw B2) (by show Bu.of A1 B1=_;rw[HEB.out,← HNY.out];unfold Bu.of;rw[zT,vT];congr 1<;>omega) (fun e=>by rw[qk e];rfl) (by have:=HNY.out;omega) (by omega));rw[T4.p]at HDm;have HT4:=za T4;clear hr4 hm4 C4 T4 hgr4 hrd hll
    go_wp2_with (go_at_call 87;refine HDm.out.mono ?_;rintro e w5 ⟨rfl,b5,C5,T5⟩)
    go_end0
    refine⟨rfl,b5,?_,HT4.out.trans T5⟩;have e9:(⟨A1.length+ny,zw A1+zw ys,B2.length,zw B2⟩:Bu)=Bu.of (A1++ys) B2:=by unfold Bu.of;rw[zT,vT,HNY.out]
    rw[← e9];exact C5
end

def CE.cost(x:CE):Nat:=x.key.size+x.val.length+48
def xe(k:Nat)(s:CaS)(sl:Nat):CaS:=match s.L[sl]? with
 | some (some x)=>lvS s k x ⟨sl,x.cost⟩
 | _=>s
def xj(k:Nat)(s:CaS)(l:List Nat):CaS:=l.foldl (xe k) s
def vm(k:Nat):CaS→List Nat→Prop
 | _,[]=>True
 | s,sl::l=>(∃ x,s.L[sl]? = some (some x)∧(⟨sl,x.cost⟩:Wt)∈s.A++s.B∧Ev.Ok ⟨k,x,s.now⟩∧s.evs.length<1048576∧s.U=Bu.of s.A s.B)∧vm k (xe k s sl) l
theorem vm.at_{k:Nat} : ∀ {l:List Nat} {s:CaS} {i sl:Nat},vm k s l→l[i]? = some sl → ∃ x,(xj k s (l.take i)).L[sl]? = some (some x)∧(⟨sl,x.cost⟩:Wt)∈(xj k s (l.take i)).A++(xj k s (l.take i)).B∧Ev.Ok ⟨k,x,(xj k s (l.take i)).now⟩∧(xj k s (l.take i)).evs.length<1048576∧(xj k s (l.take i)).U=Bu.of (xj k s (l.take i)).A (xj k s (l.take i)).B
 | [],s,i,sl,_,h=>by simp at h
 | y::l,s,0,sl,h,h2=>by
  simp at h2;subst h2;exact h.1
 | y::l,s,i+1,sl,h,h2=>by
  have:=vm.at_ (i:=i) h.2 (by simpa using h2);simpa[xj]using this
theorem zbO{k:Nat}{s:CaS}{l:List Nat}{i sl:Nat}(h:l[i]? = some sl):xj k s (l.take (i+1))=xe k (xj k s (l.take i)) sl:=by
 unfold xj;rw[uH,h,Yt]
 rfl
section
variable{Fo:Nat→Prop}{w w':World}{b:CaB}{s:CaS}
theorem Kg(h:zo Fo w b s){k c1 c2 sl:Nat}(hf:LvF w b.p k c1 c2)(n1 : ¬ b.D c1)(n2 : ¬ b.D c2)(hx : ∃ x,s.L[sl]? = some (some x)∧(⟨sl,x.cost⟩:Wt)∈s.A++s.B∧Ev.Ok ⟨k,x,s.now⟩∧s.evs.length<1048576∧s.U=Bu.of s.A s.B) :
  Calls prog 75 #[.int .u32 sl,.pointer (some ⟨c1,0,none⟩),.pointer (some ⟨c2,0,none⟩)] w (ZN Fo w b (xe k s sl)):=by
 obtain⟨x,h1,h2,h3,h4,h5⟩:=hx;have hr:=Bu.of_rem h.order.law h2;have h6:=zec h hf n1 n2 (x:=x) (y:=⟨sl,x.cost⟩) h1 h2 h3 h4 (by rw[h5];exact hr.1);have e:xe k s sl=lvS s k x ⟨sl,x.cost⟩:=by unfold xe;rw[h1]
 rw[e];exact h6
end
def tmS(s:CaS)(t:Nat):CaS := {s with now:=max s.now t,M:=jx (max s.now t) s.M}
def yT(s:CaS)(t:Nat):List Nat:=(ul (max s.now t) s.M).map Td.slot
def zl(s:CaS)(t:Nat):CaS:=xj 1 (tmS s t) (yT s t)
def ub(s:CaS)(keep:Nat):List Nat:=ud s.mc s.mb keep (s.A++s.B)
def evS(s:CaS)(keep:Nat):CaS:=xj 2 s (ub s keep)
abbrev pkS(s:CaS):CaS:=s
structure zdy(s:CaS):Prop where
 nd:XD s.L.length (yb (zP s.L))=false
structure vx(s:CaS)(keep:Nat):Prop where
 lv:vm 2 s (ub s keep)
 u:s.U=Bu.of s.A s.B
 len:(s.A++s.B).length≤2097152
 c:s.cfg.count=s.mc
 b:s.cfg.bytes=s.mb
 pk:zdy (evS s keep)
structure vH(X:Nat→Prop)(w w':World)(b b':CaB):Prop where
 p:b'.p=b.p
 mod:Mod (fun k=>b.D k∨X k) w w'
 grew : ∀ k,b'.D k→b.D k∨w.heap.size≤k
section
variable{X:Nat→Prop}{w w1 w2:World}{b b1 b2:CaB}
theorem zu.toX(h:zu w w1 b b1):vH X w w1 b b1:=⟨h.p,h.mod.mono (fun _ _ h => .inl h),h.grew⟩
theorem vH.trans(h:vH X w w1 b b1)(k:vH X w1 w2 b1 b2):vH X w w2 b b2 :=
 ⟨k.p.trans h.p,Mod.trans' h.mod k.mod (fun _ _ h=>h) (fun i hi e=>e.imp (fun e=>(h.grew i e).elim (fun e=>e) (fun e=>by omega)) (fun e=>e)),fun i e=>(k.grew i e).elim (fun e=>h.grew i e) (fun e => .inr (zF h.mod.size e))⟩
theorem vH.nd{k:Nat}(h:vH X w w1 b b1)(hk : ¬ b.D k)(hl:k<w.heap.size) : ¬ b1.D k:=fun e=>(h.grew k e).elim hk (fun e=>by omega)
end
section
variable{Fo X:Nat→Prop}{w w':World}{b:CaB}{s:CaS}
theorem ziQ{cnt byt:Nat}{R:List Wt}{n c:Nat}(h : ¬ (cnt<n∨byt<c)):vA cnt byt R n c=[]:=by
 cases R with
 | nil=>rfl
 | cons x R=>rw[vA,zh h]
theorem yX.list0{D:Nat→Prop}{o:Nat}{lim:Int}{A B:List Wt}(h:yX w D o lim A B):Calls prog 109 #[lkP o,.int .i64 0] w (ZT w A):=by
 obtain⟨l0,l1,bm,D0,D1,Dm,h⟩:=h;exact zlq h
theorem yX.list1{D:Nat→Prop}{o:Nat}{lim:Int}{A B:List Wt}(h:yX w D o lim A B):Calls prog 109 #[lkP o,.int .i64 1] w (ZT w B):=by
 obtain⟨l0,l1,bm,D0,D1,Dm,h⟩:=h;exact zgp h
def zaA(p o mc mb:Nat)(Y:World):Prop:=Y.cell? ⟨p,2,none⟩=some (lkP o)∧Y.cell? ⟨p,6,none⟩=some (.int .i64 mc)∧Y.cell? ⟨p,7,none⟩=some (.int .i64 mb)
def Ky(Fo X:Nat→Prop)(w:World)(b:CaB)(QE:Nat→CaS→World→Prop)(e:Ending)(w':World):Prop :=
 e=.returned (.tuple #[]) ∧ ∃ keep s2 b',zo Fo w' b' (pkS (evS s2 keep))∧vH X w w' b b'∧QE keep s2 w'
def zgg(b2:CaB)(w2:World)(R:World→Prop):Prop := ∀ W W' (S:Nat→Prop),R W→Mod S W W'→(∀ k,S k→b2.D k∨w2.heap.size≤k)→R W'
def zh8(Fo X:Nat→Prop)(W:World)(b1:CaB)(QE:Nat→CaS→World→Prop)(e:Ending)(w':World):Prop :=
 ∃(keep:Nat) (s2:CaS) (b2:CaB) (R:World→Prop),e=.returned (.int .u32 (keep:Nat))∧zo Fo w' b2 s2∧vH X W w' b1 b2∧vx s2 keep∧R w'∧zgg b2 w' R ∧ ∀ Y,R Y→QE keep s2 Y
theorem Azp1v {P:Prop}(h:P:=by
 have hbE:=HCE.out.box;rw[HTE.out.p]at hbE;have HSz:=za (za7 HCE.out.dict);have HLn:=za (fun(Y:World) (hY:zb wE Y)=>K4 (HCE.out.pure hY).dict);have hlen:=HCE.out.dict.ok.len;have hel:(zP (evS s2 keep).L).length=(evS s2 keep).L.length:=by unfold zP;rw[yH]
 rw[hel]at hlen;unfold KE at HSz;rw[hel]at HSz;have HDu:=za (fun(Y:World)=>zaU Y ((evS s2 keep).L.length:Int) (yb (zP (evS s2 keep).L)) (by omega) (by omega));have hnd:=HR6.out.pk.nd;rw[hnd]at HDu;clear hel hnd;generalize((evS s2 keep).L.length:Int)=lenE at *;generalize((yb (zP (evS s2 keep).L):Int))=livE at *;obtain⟨hbE_0,hbE_1,hbE_2,hbE_3,hbE_4,hbE_5,hbE_6,hbE_7,hbE_8,hbE_9,hbE_10,hbE_f,hbE_l,H_hbE⟩:=xW hbE;clear hbE
 go_wp2_with (first
   | (go_at_call 110;refine HSz.out.mono ?_;rintro e wA ⟨rfl,hpA⟩;have yA:=hpA.cell (fun h=>h) hbE_0)
   | (go_at_call 70;refine(HLn.out _ hpA).mono ?_;rintro e wB ⟨rfl,rfl⟩)
   | (go_at_call 111;refine(HDu.out _).mono ?_;rintro e wB ⟨rfl,rfl⟩))
 go_end0
 refine⟨rfl,keep,s2,bE,?_,HTE.out.trans ((zu.pure hpA).toX (X:=X)),HQF.out _ (HST.out _ _ _ HQE.out hpA (fun _ h=>h.elim))⟩;exact HCE.out.pure hpA):P:=h
theorem Xp(h:zo Fo w b s){t:Nat}(ht:t≤18446744073709551615)(hlv:vm 1 (tmS s t) (yT s t))(hX : ∀ k,X k → ¬ b.D k∧k<w.heap.size){ge:Nat}{lb:Array Value}
    (eg : ∀ args w,(callFunc ge args).run prog w=.ok (.enter ge args) w) {QE:Nat→CaS→World→Prop}
    (hE : ∀ W b1,zo Fo W b1 (zl s t)→zu w W b b1→Calls prog ge lb W (zh8 Fo X W b1 QE)) :
    Calls prog 62 #[lkP b.p,.int .u64 t,.func (.func ge) #[] lb] w (Ky Fo X w b QE):=by
  have HLv:=za (fun W=>UM b.p 1 W);have HLv2:=za (fun W=>UM b.p 2 W);have HH:=za h;have HT:=za ht;have HLO:=za hlv;have HX:=za hX;have HE:=za hE;clear h ht hlv hX hE;go_enter func62,ntmps62;go_upto_region 1 with(go_at_call 41;refine(HLv.out _).mono ?_;rintro e w1 ⟨rfl,hf1,hp1⟩)
  have C1:=HH.out.pure hp1;have hd0 : ¬ b.Dt 0:=fun e=>by have:=HH.out.sep.t 0 e;rw[HH.out.sep.z]at this;cases this
  have HEx:=za (C1.due.expire C1.tab hd0 HT.out);have hb1:=C1.box;obtain⟨c1,hc1⟩:=zf w.heap.size;rw[hc1]at hf1 ⊢;have HC1:=za hc1;have hlt1:c1+1<w1.heap.size:=zm hf1.b2;have HF1:=za hf1;have HCC1:=za C1;have HP1:=za hp1;have HLT1:=za hlt1;clear hf1 C1 hd0 hc1 hp1 hlt1;obtain⟨hb1_0,hb1_1,hb1_2,hb1_3,hb1_4,hb1_5,hb1_6,hb1_7,hb1_8,hb1_9,hb1_10,hb1_f,hb1_l,H_hb1⟩:=xW hb1;clear hb1;go_upto_region 2 with(go_at_call 106;refine HEx.out.mono ?_;rintro e w2 ⟨a,c,rfl,hrow,⟨D2,hr2,hg2,hn2⟩,hm2⟩)
  clear hb1_0 hb1_1 hb1_2 hb1_3 hb1_4 hb1_5 hb1_6 hb1_7 hb1_8 hb1_9 hb1_10 hb1_f hb1_l;clear H_hb1;obtain⟨es,hes⟩:=zf (ul (max s.now t) s.M);rw[hes]at hrow hn2 ⊢;have hel:yT s t=es.map Td.slot:=by unfold yT;rw[hes]
  obtain⟨b2,C2,T2,n2⟩ : ∃ b2,zo Fo w2 b2 (tmS s t)∧zu w1 w2 b b2 ∧ ∀ g,(Value.slice a es.length c).ownBlock=some g → ¬ b2.D g :=
    ⟨_,HCC1.out.putDue hr2 hm2 hg2,zu.ofDue hm2 hg2,fun g hg hD=>by
      obtain⟨k1,k2⟩:=hn2 g hg;have hlt:=fun(e:b.D g)=>HCC1.out.lt e
      rcases hD with e | e | e | e | e | e | e
      · have:=hlt (.inl e);omega
      · have:=hlt (.inr (.inl e));omega
      · have:=hlt (.inr (.inr (.inl e)));omega
      · have:=hlt (.inr (.inr (.inr (.inl e))));omega
      · have:=hlt (.inr (.inr (.inr (.inr (.inl e)))));omega
      · exact k1 e
      · have:=hlt (.inr (.inr (.inr (.inr (.inr (.inr e))))));omega⟩
  have hnc : ∀ j,j≤1 → ¬ b.D (c1+j):=fun j _ e=>by have:=HH.out.lt e;have:=HC1.out;omega
  have hf2:LvF w2 b.p 1 c1 (c1+1):=HF1.out.mod T2.mod (hnc 0 (by omega)) (hnc 1 (by omega));have hn2c : ∀ j,j≤1 → ¬ b2.D (c1+j):=fun j hj=>T2.nd (hnc j hj) (by have:=HLT1.out;omega)
  have HCC2:=za C2;have HT2:=za T2;have HN2:=za n2;have HROW:=za hrow;have HF2:=za hf2;have HNC:=za hn2c;have HEL:=za hel;have hl2:c1+1<w2.heap.size:=zm hf2.b2;have HL2:=za hl2;have hle:es.length≤4194304:=by
    have h9:=HH.out.due.law.count;rw[← hes];exact zF ((Uw _).length_le) h9
  have HLE:=za hle;clear hrow hr2 hg2 hn2 hm2 C2 T2 n2 hnc hf2 hn2c hel hl2 hes hle;obtain⟨n,hn⟩:=zf es.length;rw[hn]at HN2 HLE ⊢;have HN:=za hn;clear hn;go_loopw [8,30] (fun v8 v30 wr => ∃(k:Nat) (b':CaB),v30=.int .i64 (k:Nat)∧k≤n∧zo Fo wr b' (xj 1 (tmS s t) ((yT s t).take k))∧zu w2 wr b2 b') (fun _ v30 _=>n-(intOf v30).toNat)
  case atStart=>exact⟨0,b2,rfl,yq _,HCC2.out,zu.pure (Mod.refl _ _)⟩
  case round =>
    obtain⟨k,b3,rfl,hk,hC,hT⟩:=hrel;have HC3:=za hC;have HT3:=za hT;clear hC hT;by_cases hlt:k<n
    · have hlt':(k:Int)<(n:Int):=by omega
      have k0:(0:Int)≤(k:Int):=by omega
      have wk:IntKind.i64.wrap ((k:Int)+1)=(k:Int)+1:=zt _ (by have:=HLE.out;omega);obtain⟨x,hx⟩ : ∃ x,es[k]? = some x:=⟨_,zO (by rw[HN.out];exact hlt)⟩;have hrd:zr wr (.slice a n c) 3 (es.flatMap tdC):=by
        have h9:=(HROW.out.rd).frame HT3.out.mod (fun g hg=>HN2.out g (by rw[HN.out]at hg;exact U9 hg));unfold zar at h9;rw[HN.out]at h9;exact h9
      obtain⟨ad,had,z0,z1,z2⟩:=zb7 hrd hx;subst had;have hsl:(yT s t)[k]? = some x.slot:=by rw[HEL.out,yz,hx];rfl
      have hal:zb wr (wr.alloc (.cells #[.int .u32 x.slot,.int .u64 x.dl,.int .u64 x.birth] 198)):=(Mod.refl _ wr).alloc _;have hbx:=zk (w:=wr) (o := .cells #[.int .u32 x.slot,.int .u64 x.dl,.int .u64 x.birth] 198 (0,0)) rfl;have T3:=HT3.out.trans (zu.pure hal);have hl1:=Kg (HC3.out.pure hal) (k:=1) (c1:=c1) (c2:=c1+1) (sl:=x.slot) (by rw[T3.p,HT2.out.p];exact HF2.out.mod T3.mod (HNC.out 0 (by omega)) (HNC.out 1 (by omega))) (T3.nd (HNC.out 0 (by omega)) (by have:=HL2.out;omega)) (T3.nd (HNC.out 1 (by omega)) HL2.out) (HLO.out.at_ hsl);rw[← zbO hsl]at hl1;have HL1:=za hl1;have HTT:=za T3;clear hx hrd hsl T3 hl1;go_upto_region 4 with fail
      generalize wr.alloc (.cells #[.int .u32 x.slot,.int .u64 x.dl,.int .u64 x.birth] 198)=W4 at *;generalize wr.heap.size=b4 at *;clear z0 z1 z2 hal;obtain⟨hbx_0,hbx_1,hbx_2,hbx_f,hbx_l,H_hbx⟩:=cr3 hbx;clear hbx
      go_wp2_with (go_at_call 75;refine HL1.out.mono ?_;rintro e w5 ⟨rfl,b5,C5,T5⟩)
      go_roundw
      case rel=>exact⟨k+1,b5,by first | rfl | simp,hlt,C5,HTT.out.trans T5⟩
      case measure=>simp[intOf];omega
    · have hlt' : ¬ (k:Int)<(n:Int):=by omega
      obtain rfl:k=n:=by omega
      have hC3:=HC3.out;rw[jX (by rw[HEL.out,yH,HN.out];exact zN _)]at hC3;rw[show xj 1 (tmS s t) (yT s t)=zl s t from rfl]at hC3;have T3:=((zu.pure HP1.out).trans HT2.out).trans HT3.out;have HEf:=za (HE.out wr b3 hC3 T3);have hnx : ∀ i,X i → ¬ b3.D i:=fun i hi=>T3.nd (HX.out i hi).1 (HX.out i hi).2
      have HT3':=za T3;clear hC3 T3 hnx HLv HLO HEx;go_upto_region 7 with(go_at_fn ge;refine HEf.out.mono ?_;rintro e w6 ⟨keep,s2,b6,R,rfl,C6,T6,R6,Q6,S6,F6⟩)
      have T66:=(HT3'.out.toX (X:=X)).trans T6;have HC6:=za C6;have HT6:=za T66;have HR6:=za R6;have HQ6:=za Q6;have HST:=za S6;have HQF:=za F6;have hNX : ∀ i,X i → ¬ b6.D i:=fun i hi=>T66.nd (HX.out i hi).1 (HX.out i hi).2
      have HNX:=za hNX;have HOv:=za (zjy C6.used);have hb6:=C6.box;rw[T66.p]at hb6;clear C6 T6 T66 R6 Q6 S6 F6 HEf HT3' hNX HC3 HT3;obtain⟨hb6_0,hb6_1,hb6_2,hb6_3,hb6_4,hb6_5,hb6_6,hb6_7,hb6_8,hb6_9,hb6_10,hb6_f,hb6_l,H_hb6⟩:=xW hb6;clear hb6;obtain⟨vN,hvN⟩:=zf ((if 0<(s2.U.c0:Int)+(s2.U.c1:Int) + -(s2.mc:Int)then(s2.U.c0:Int)+(s2.U.c1:Int) + -(s2.mc:Int)else 0));obtain⟨vC,hvC⟩:=zf ((if 0<(s2.U.s0:Int)+(s2.U.s1:Int) + -(s2.mb:Int)then(s2.U.s0:Int)+(s2.U.s1:Int) + -(s2.mb:Int)else 0));rw[hvN,hvC]at HOv;have hov:(0<vN∨0<vC)↔(s2.mc<(s2.A++s2.B).length∨s2.mb<zw (s2.A++s2.B)):=by
        rw[← hvN,← hvC,HR6.out.u,zT,vT];unfold Bu.of;dsimp only;split<;>split<;>omega
      have HOV:=za hov;clear hvN hvC hov;go_upto_region 8 with(go_at_call 107;refine HOv.out.mono ?_;rintro e w7 ⟨rfl,hp7⟩)
      clear hb6_0 hb6_1 hb6_2 hb6_3 hb6_4 hb6_5 hb6_6 hb6_7 hb6_8 hb6_9 hb6_10 hb6_f hb6_l;clear H_hb6;have HC7:=za (HC6.out.pure hp7);have HT7:=za (HT6.out.trans ((zu.pure hp7).toX (X:=X)));have HQ7:=za (HST.out w6 w7 _ HQ6.out hp7 (fun _ h=>h.elim));have HSZ7:=za hp7.size;clear hp7 HC6 HT6 HQ6 HOv;by_cases hov:0<vN∨0<vC
      · have hor:=HOV.out.1 hov
        clear hor;have hb7:=HC7.out.box;rw[HT7.out.p,HR6.out.c,HR6.out.b]at hb7;have HS:=za (fun(Y:World) (hY:zb w7 Y)=>(⟨zi Y b.p 2 _ _ (0,0) (hY.heap (fun h=>h) hb7),zi Y b.p 6 _ _ (0,0) (hY.heap (fun h=>h) hb7),zi Y b.p 7 _ _ (0,0) (hY.heap (fun h=>h) hb7)⟩:zaA b.p b6.o s2.mc s2.mb Y));have HL0:=za (fun(Y:World) (hY:zb w7 Y)=>(HC7.out.order.pure hY).list0);have HL1:=za (fun(Y:World) (hY:zb w7 Y)=>(HC7.out.order.pure hY).list1);have hlw:=HC7.out.order.law;have hmc:=HC7.out.used.c;have hmb:=HC7.out.used.b;have HCh:=za (fun(Y:World) (a1:Option Addr) (c1:Nat) (a2:Option Addr) (c2:Nat) (h1:zr Y (.slice a1 s2.A.length c1) 2 (s2.A.flatMap wtC)) (h2:zr Y (.slice a2 s2.B.length c2) 2 (s2.B.flatMap wtC))=>zeb (keep:=keep) (cnt:=s2.mc) (byt:=s2.mb) h1 h2 HR6.out.len hlw.rng hlw.nd (by omega) (by omega));clear hb7 hlw hmc hmb;rcases(show 0<vN∨(¬ 0<vN∧0<vC) by omega)with g1 | ⟨g1,g2⟩
        all_goals
          clear hov;go_upto_region 9 with fail
          refine rHd (S:=zaA b.p b6.o s2.mc s2.mb) (HS.out _ (Mod.refl _ _).drew) (fun h_ => ?_);refine hTk 0 ?_;refine hTk 1 ?_;refine hTk 2 ?_;refine hTk 3 ?_;refine hLd 4 ?_;refine hTk 6 ?_;refine hTk 7 ?_;refine hTk 8 ?_;refine hTk 9 ?_;refine hLd 10 ?_;refine hTk 12 ?_;refine hTk 13 ?_;refine hTk 14 ?_;refine hTk 15 ?_;refine hTk 16 ?_;refine hLd 17 ?_;refine hTk 18 ?_;refine hTk 19 ?_;refine hTk 20 ?_;refine hTk 21 ?_;refine hLd 22 ?_
          (refine hSt 5 (fun K hK => ?_);go_simp;refine zq (HL0.out _ (Mod.refl _ _).drew) ?_;rintro e u1 ⟨a1,k1,rfl,hw1,hf1,hq1⟩;refine hK.out _ _ ?_ (fun h_ => ?_);(· exact HS.out _ ((Mod.refl (fun _=>False) w7).drew.trans hq1));clear hK K;refine clA ?_)
          (refine hSt 11 (fun K hK => ?_);go_simp;refine zq (HL1.out _ ((Mod.refl (fun _=>False) w7).drew.trans hq1)) ?_;rintro e u2 ⟨a2,k2,rfl,hw2,hf2,hq2⟩;refine hK.out _ _ ?_ (fun h_ => ?_);(· exact HS.out _ (((Mod.refl (fun _=>False) w7).drew.trans hq1).trans hq2));clear hK K;refine clA ?_)
          (refine hSt 23 (fun K hK => ?_);go_simp;refine zq (HCh.out _ a1 k1 a2 k2 ((zr.of_owns hw1 (ZX _)).frame hq2 (fun _ _ h=>h)) (zr.of_owns hw2 (ZX _))) ?_;rintro e u3 ⟨a3,k3,rfl,hw3,hf3,hq3⟩;refine hK.out _ _ ?_ (fun h_ => ?_);(· exact HS.out _ ((((Mod.refl (fun _=>False) w7).drew.trans hq1).trans hq2).trans hq3));clear hK K;refine clA ?_)
          refine hTk 24 ?_;refine hTk 25 ?_;refine hTk 26 ?_;refine hTk 27 ?_;refine hTk 28 ?_;refine hDn ?_;clear h_;have hp3:=(((Mod.refl (fun _=>False) w7).drew.trans hq1).trans hq2).trans hq3;have hl3:ud s2.mc s2.mb keep (s2.A++s2.B)=ub s2 keep:=rfl;rw[hl3]at hw3 hf3;rw[hl3];have hfr : ∀ g,(Value.slice a3 (ub s2 keep).length k3).ownBlock=some g → ¬ b6.D g:=fun g hg e=>by
            have h1:=hf3 g hg;have h2:=HC7.out.lt e;have h3:=hq1.size;have h4:=hq2.size;have h5:w7.drew.heap.size=w7.heap.size:=rfl;omega
          have HFR:=za hfr;have HW3:=za hw3;have HC8:=za (HC7.out.pure hp3);have HT8:=za (HT7.out.trans ((zu.pure hp3).toX (X:=X)));have HQ8:=za (HST.out w7 u3 _ HQ7.out hp3 (fun _ h=>h.elim));have HSZ8:=za (zF HSZ7.out hp3.size);clear hfr hw3 hf3 hp3 hq1 hq2 hq3 hw1 hw2 hf1 hf2 hl3;obtain⟨n2,hn2⟩:=zf ((ub s2 keep).length);rw[hn2]at HFR ⊢;have HN2':=za hn2;clear hn2;go_upto_region 11 with(go_at_call 41;refine(HLv2.out _).mono ?_;rintro e u4 ⟨rfl,hf4,hp4⟩)
          have HC9:=za (HC8.out.pure hp4);have HT9:=za (HT8.out.trans ((zu.pure hp4).toX (X:=X)));have HQ9:=za (HST.out u3 u4 _ HQ8.out hp4 (fun _ h=>h.elim));have HSZ9:=za (zF HSZ8.out hp4.size);have HW4:=za (zz HW3.out hp4 (fun _ _ h=>h));obtain⟨c4,hc4⟩:=zf u3.heap.size;rw[hc4]at hf4 ⊢;have hnc4 : ∀ j,j≤1 → ¬ b6.D (c4+j):=fun j _ e=>by have:=HC8.out.lt e;omega
          have hlt4:c4+1<u4.heap.size:=zm hf4.b2;have hn2b:n2≤4194304:=by
            have h1:=HN2'.out;have h2:=HR6.out.len;have h3 : ∀(R:List Wt) (n c:Nat),(vA s2.mc s2.mb R n c).length≤R.length:=by
              intro R
              induction R with
              | nil=>intro n c;exact zN _
              | cons x R ih =>
                intro n c;unfold vA;split
                · have:=ih (n-1) (c-x.cost);simp;exact this
                · simp
            have h4:(ub s2 keep).length≤(s2.A++s2.B).length:=zF (h3 _ _ _) (KG keep _);omega
          have HF4:=za hf4;have HNC4:=za hnc4;have HLT4:=za hlt4;have HNB:=za hn2b;clear hf4 hp4 hc4 hnc4 hlt4 hn2b HC8 HT8 HQ8 HW3 HC7 HT7 HQ7;go_upto_region 12 with fail
          go_loopw [87] (fun v87 wr => ∃(k:Nat) (b':CaB),v87=.int .i64 (k:Nat)∧k≤n2∧zo Fo wr b' (xj 2 s2 ((ub s2 keep).take k))∧zu u4 wr b6 b') (fun v87 _=>n2-(intOf v87).toNat)
          case atStart=>exact⟨0,b6,rfl,yq _,HC9.out,zu.pure (Mod.refl _ _)⟩
          case round =>
            obtain⟨k,b3,rfl,hk,hC,hT⟩:=hrel;have HC3:=za hC;have HT3:=za hT;clear hC hT;by_cases hlt:k<n2
            · have hlt':(k:Int)<(n2:Int):=by omega
              have k0:(0:Int)≤(k:Int):=by omega
              have wk:IntKind.i64.wrap ((k:Int)+1)=(k:Int)+1:=zt _ (by have:=HNB.out;omega);obtain⟨x,hx⟩ : ∃ x,(ub s2 keep)[k]? = some x:=⟨_,zO (by rw[HN2'.out];exact hlt)⟩;have hrd:zr wr (.slice a3 n2 k3) 1 (zY (ub s2 keep)):=by
                have h9:=zr.of_owns (zz HW4.out HT3.out.mod (fun g hg=>HFR.out g (by rw[HN2'.out]at hg;exact hg))) (UL _);rw[HN2'.out]at h9;exact h9
              obtain⟨ad,had,z0⟩:=Q4 hrd hx;subst had;have hl1:=Kg HC3.out (k:=2) (c1:=c4) (c2:=c4+1) (sl:=x) (by rw[HT3.out.p,show b6.p=b.p from HT9.out.p];exact HF4.out.mod HT3.out.mod (HNC4.out 0 (by omega)) (HNC4.out 1 (by omega))) (HT3.out.nd (HNC4.out 0 (by omega)) (by have:=HLT4.out;omega)) (HT3.out.nd (HNC4.out 1 (by omega)) HLT4.out) (HR6.out.lv.at_ hx);rw[← zbO hx]at hl1;have HL1':=za hl1;clear hx hrd hl1
              go_wp2_with (go_at_call 75;refine zq HL1'.out ?_;rintro e w5 ⟨rfl,b5,C5,T5⟩)
              go_roundw
              case rel=>exact⟨k+1,b5,by first | rfl | simp,hlt,C5,HT3.out.trans T5⟩
              case measure=>simp[intOf];omega
            · have hlt' : ¬ (k:Int)<(n2:Int):=by omega
              obtain rfl:k=n2:=by omega
              have hC3:=HC3.out;rw[jX (by rw[HN2'.out];exact zN _)]at hC3;obtain⟨wE,hwE⟩:=zf wr;obtain⟨bE,hbe⟩:=zf b3;have HCE:Hid (zo Fo wE bE (evS s2 keep)):=za (by rw[← hwE,← hbe];exact hC3);have HTE:Hid (vH X w wE b bE):=za (by rw[← hwE,← hbe];exact HT9.out.trans (HT3.out.toX (X:=X)));have HQE:Hid (R wE):=za (by rw[← hwE];exact HST.out _ _ _ HQ9.out HT3.out.mod (fun _ e => .inl e));have HGE:Hid (∀ k,bE.D k→b6.D k∨w6.heap.size≤k):=za (by rw[← hbe];exact fun k e=>(HT3.out.grew k e).imp (fun e=>e) (fun e=>zF HSZ9.out e));rw[hwE];clear hC3 hbe HC3 HT3 HC9 HT9 HQ9;exact Azp1v
      · have hno : ¬ (s2.mc<(s2.A++s2.B).length∨s2.mb<zw (s2.A++s2.B)):=fun e=>hov (HOV.out.2 e)
        have hvl:ub s2 keep=[]:=by
          unfold ub ud;by_cases e0:vA s2.mc s2.mb (k9 keep (s2.A++s2.B)) (s2.A++s2.B).length (zw (s2.A++s2.B))=[]
          · exact e0
          · exact ziQ hno
        have hev:evS s2 keep=s2:=by unfold evS;rw[hvl];rfl
        have g1 : ¬ 0<vN:=fun e=>hov (.inl e)
        have g2 : ¬ 0<vC:=fun e=>hov (.inr e)
        obtain⟨wE,hwE⟩:=zf w7;obtain⟨bE,hbe⟩:=zf b6;have HCE:Hid (zo Fo wE bE (evS s2 keep)):=za (by rw[hev,← hwE,← hbe];exact HC7.out);have HTE:Hid (vH X w wE b bE):=za (by rw[← hwE,← hbe];exact HT7.out);have HQE:Hid (R wE):=za (by rw[← hwE];exact HQ7.out);have HGE:Hid (∀ k,bE.D k→b6.D k∨w6.heap.size≤k):=za (by rw[← hbe];exact fun k e => .inl e);rw[hwE];clear hbe HC7 HT7 HQ7 hno hvl hev hov;exact Azp1v
end
end
end Go.Proofs.YtifbnponicgplaaGreatDoor
