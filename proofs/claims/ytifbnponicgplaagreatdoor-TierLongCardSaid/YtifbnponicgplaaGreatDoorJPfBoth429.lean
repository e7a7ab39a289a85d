/- Lemmas and contracts of functions. No condition. -/
import Derived.Test.YtifbnponicgplaaGreatDoorJPfBoth428
namespace Go.Proofs.YtifbnponicgplaaGreatDoor
open _root_.Go.Proofs.Tryz
set_option maxRecDepth 100000
set_option maxHeartbeats 20000000
set_option linter.all false
section
open Go.RowKit
structure CE where
 key:ByteArray
 val:List UInt8
 dl:Nat
 birth:Nat
abbrev CE.ent(x:CE):Ent:=⟨x.key,x.val,x.dl,x.birth⟩
structure CE.Ok(x:CE):Prop where
 k0:0<x.key.size
 k1:x.key.size≤250
 v1:x.val.length≤65536
 d1:x.dl≤18446744073709551615
 b0:0<x.birth
 b1:x.birth≤18446744073709551615
theorem CE.Ok.ent{x:CE}(h:x.Ok):x.ent.Ok:=⟨h.k0,h.k1,h.v1,by have:=h.b0;show(0:Int)<(x.birth:Int);omega⟩
structure Ev where
 kind:Nat
 e:CE
 tm:Nat
structure Ev.Ok(x:Ev):Prop where
 kd:1≤x.kind∧x.kind≤5
 e:x.e.Ok
 tm:x.tm≤18446744073709551615
 du:ke x.e.dl x.tm=(x.kind==1)
theorem zer(k:Int)(key:ByteArray)(a:Option Addr)(n c b d t:Nat)(xs:List Value)(w:World)(hx:zr w (.slice a n c) 1 xs)(hn:n≤140737488355328) :
  Calls prog 154 #[evV k key (.slice a n c) b d t] w fun e w' => ∃ a' n' c',e=.returned (evV k key (.slice a' n' c') b d t)∧w'.ownsRow 0 5 1 (.slice a' n' c') n' xs∧xK w (.slice a' n' c')∧zb w w':=by
 have hp0:zb w ((w.alloc (.cells #[.int .i64 k,.string key,.slice a n c,.int .u64 b,.int .u64 d,.int .u64 t] 78)).alloc (.cells #[.int .i64 0,.string ⟨#[]⟩,.slice none 0 0,.int .u64 0,.int .u64 0,.int .u64 0] 78)):=((Mod.refl _ w).alloc _).alloc _;have z1:=zK (o := .cells #[.int .i64 0,.string ⟨#[]⟩,.slice none 0 0,.int .u64 0,.int .u64 0,.int .u64 0] 78) (zk (w:=w) (o := .cells #[.int .i64 k,.string key,.slice a n c,.int .u64 b,.int .u64 d,.int .u64 t] 78 (0,0)) rfl);have z2:=zk (w:=w.alloc (.cells #[.int .i64 k,.string key,.slice a n c,.int .u64 b,.int .u64 d,.int .u64 t] 78)) (o := .cells #[.int .i64 0,.string ⟨#[]⟩,.slice none 0 0,.int .u64 0,.int .u64 0,.int .u64 0] 78 (0,0)) (n:=w.heap.size+1) (by simp);have HP:=za hp0;have HC:=za (XU a n c xs _ (hx.frame hp0 (fun _ _ h=>h)) hn);clear hp0 hx;go_enter func154,ntmps154;go_upto_region 1 with fail
 generalize(w.alloc (.cells #[.int .i64 k,.string key,.slice a n c,.int .u64 b,.int .u64 d,.int .u64 t] 78)).alloc (.cells #[.int .i64 0,.string ⟨#[]⟩,.slice none 0 0,.int .u64 0,.int .u64 0,.int .u64 0] 78)=W1 at *;obtain⟨b1,hb1⟩:=zf w.heap.size;rw[hb1]at z1 z2 ⊢;have HB:=za hb1;clear hb1;have Z1:=za z1;have Z2:=za z2;obtain⟨z1_0,z1_1,z1_2,z1_3,z1_4,z1_5,z1_f,z1_l,H_z1⟩:=cr6 z1;clear z1;obtain⟨z2_0,z2_1,z2_2,z2_3,z2_4,z2_5,z2_f,z2_l,H_z2⟩:=cr6 z2;clear z2
 go_wp2_with (go_at_call 26;refine HC.out.mono ?_;rintro e w1 ⟨a',n',c',rfl,hr,hf,hp⟩;obtain⟨h1c,h1f⟩:=hp.box (b:=b1) Z1.out (fun h=>h);obtain⟨h2c,h2f⟩:=hp.box (b:=b1+1) Z2.out (fun h=>h))
 have hm:=(((((((Mod.refl (fun k=>k=b1∨k=b1+1) w1).setCell (p:=⟨b1,2,none⟩) (fun _ => .inl rfl) (.slice a' n' c')).setCell (p:=⟨b1+1,0,none⟩) (fun _ => .inr rfl) (.int .i64 k)).setCell (p:=⟨b1+1,1,none⟩) (fun _ => .inr rfl) (.string key)).setCell (p:=⟨b1+1,2,none⟩) (fun _ => .inr rfl) (.slice a' n' c')).setCell (p:=⟨b1+1,3,none⟩) (fun _ => .inr rfl) (.int .u64 b)).setCell (p:=⟨b1+1,4,none⟩) (fun _ => .inr rfl) (.int .u64 d)).setCell (p:=⟨b1+1,5,none⟩) (fun _ => .inr rfl) (.int .u64 t);have hW1:b1+1<W1.heap.size:=zm Z2.out;refine zR (v:=evV k key (.slice a' n' c') b d t) (by simp[results,results154,go_sem,h1c,h2c]) rfl ⟨a',n',c',rfl,zz hr hm ?_,?_,?_⟩
 ·intro g e h;have:=hf g e;omega
 ·intro g e;have:=hf g e;have:=HB.out;omega
 ·exact(HP.out.trans hp).then hm (fun i hi h=>by have:=HB.out;omega)
def xk:Option Nat→Value
 | none => .pointer none
 | some b => .pointer (some ⟨b,0,none⟩)
abbrev EvN:=Nat × Ev × Value
def nxt(ns:List EvN)(i:Nat):Option Nat:=(ns[i]?).map (fun n=>n.1)
structure yY(Fo:Nat→Prop)(w:World)(p:Nat)(k0 k1 k2 k3 k4 k5:Int)(th:Nat)(ns:List EvN):Prop where
 box:w.heap[p]? = some (.cells #[xk (nxt ns 0),xk (nxt ns (ns.length-1)),.int .u64 k0,.int .u64 k1,.int .u64 k2,.int .u64 k3,.int .u64 k4,.int .u64 k5,.int .i64 th,.bool true] 194 (0,0))
 node : ∀(i:Nat) (n:EvN),ns[i]? = some n→w.heap[n.1]? = some (.cells #[.int .i64 n.2.1.kind,.string n.2.1.e.key,n.2.2,.int .u64 n.2.1.e.birth,.int .u64 n.2.1.e.dl,.int .u64 n.2.1.tm,xk (nxt ns (i+1))] 207 (0,0))
 vals : ∀ n:EvN,n∈ns→zW w n.2.2 (zJ n.2.1.e.val)
 off : ∀ n:EvN,n∈ns → ∀ g,n.2.2.ownBlock=some g → ¬ Fo g
 nd:(ns.map (fun n=>n.1)).Nodup
 ok : ∀ n:EvN,n∈ns→n.2.1.Ok
 flt : ∀ k,Fo k→k<w.heap.size
def evD(p:Nat)(ns:List EvN)(k:Nat):Prop:=k=p ∨ ∃ n∈ns,n.1=k
section
variable{Fo:Nat→Prop}{w w':World}{p:Nat}{k0 k1 k2 k3 k4 k5:Int}{th:Nat}{ns:List EvN}
theorem yY.lt(h:yY Fo w p k0 k1 k2 k3 k4 k5 th ns){k:Nat}(hk:evD p ns k):k<w.heap.size:=by
 rcases hk with rfl | ⟨n,hn,rfl⟩
 ·exact zm h.box
 ·obtain⟨i,hi⟩:=uk hn;exact zm (h.node i n hi)
theorem yY.np(h:yY Fo w p k0 k1 k2 k3 k4 k5 th ns){n:EvN}(hn:n∈ns):n.1≠p:=fun e=>by
 obtain⟨i,hi⟩:=uk hn;have h1:=h.node i n hi;rw[e,h.box]at h1;injection h1 with h1;injection h1 with _ h1
 exact absurd h1 (by decide)
theorem yY.frameF{S:Nat→Prop}(h:yY Fo w p k0 k1 k2 k3 k4 k5 th ns)(hm:Mod S w w')(hD : ∀ k,evD p ns k → ¬ S k)(hS : ∀ k,k<w.heap.size→S k→Fo k ∨ ∀ cs fz,w.heap[k]? ≠ some (.cells cs 5 fz)):yY Fo w' p k0 k1 k2 k3 k4 k5 th ns :=
 ⟨hm.heap (hD p (.inl rfl)) h.box,fun i n hi=>hm.heap (hD _ (.inr ⟨n,ym hi,rfl⟩)) (h.node i n hi),fun n hn=>zde (h.vals n hn) (fun g hg=>h.off n hn g hg) hm hS,h.off,h.nd,h.ok,fun k hk=>hm.lt (h.flt k hk)⟩
theorem yY.pure(h:yY Fo w p k0 k1 k2 k3 k4 k5 th ns)(hm:zb w w'):yY Fo w' p k0 k1 k2 k3 k4 k5 th ns:=h.frameF hm (fun _ _ h=>h) (fun _ _ h=>h.elim)
theorem yY.refo{Fo':Nat→Prop}(h:yY Fo w p k0 k1 k2 k3 k4 k5 th ns)(hm:zb w w')(h1 : ∀ k,Fo' k→Fo k∨w.heap.size≤k)(h2 : ∀ k,Fo' k→k<w'.heap.size):yY Fo' w' p k0 k1 k2 k3 k4 k5 th ns :=
 ⟨hm.heap (fun h=>h) h.box,fun i n hi=>hm.heap (fun h=>h) (h.node i n hi),fun n hn=>zz (h.vals n hn) hm (fun _ _ h=>h),fun n hn g hg hf=>(by
  rcases h1 g hf with hx | hx
  ·exact h.off n hn g hg hx
  ·have:=xV (h.vals n hn) hg;omega),h.nd,h.ok,h2⟩
theorem zkM(w:World)(hFo : ∀ k,Fo k→k<w.heap.size):Calls prog 60 #[] w fun e w'=>e=.returned (.pointer (some ⟨w.heap.size,0,none⟩))∧yY Fo w' w.heap.size 0 0 0 0 0 0 0 []∧zb w w':=by
 have hp:zb w (w.alloc (.cells #[.pointer none,.pointer none,.int .u64 0,.int .u64 0,.int .u64 0,.int .u64 0,.int .u64 0,.int .u64 0,.int .i64 0,.bool true] 194)):=(Mod.refl _ w).alloc _;go_enter func60,ntmps60;go_wp2;go_ret;exact⟨rfl,⟨zk rfl,(fun i n hi=>by cases hi),(fun n hn=>by cases hn),(fun n hn=>by cases hn),jR,(fun n hn=>by cases hn),fun k hk=>hp.lt (hFo k hk)⟩,hp⟩
theorem Km(h:yY Fo w p k0 k1 k2 k3 k4 k5 th ns):Calls prog 113 #[lkP p] w fun e w'=>e=.returned (.bool false)∧w=w':=by
 have hb:=h.box;clear h;generalize xk (nxt ns 0)=v0 at *;generalize xk (nxt ns (ns.length-1))=v1 at *;obtain⟨hb_0,hb_1,hb_2,hb_3,hb_4,hb_5,hb_6,hb_7,hb_8,hb_9,hb_f,hb_l,H_hb⟩:=jy hb;clear hb;go_enter func113,ntmps113;go_wp2;go_ret;exact⟨rfl,rfl⟩
theorem zbd(h:yY Fo w p k0 k1 k2 k3 k4 k5 th ns):Calls prog 65 #[lkP p] w fun e w'=>e=.returned (.int .i64 th)∧w=w':=by
 have HN:=za (Km h);have hb:=h.box;clear h;generalize xk (nxt ns 0)=v0 at *;generalize xk (nxt ns (ns.length-1))=v1 at *;obtain⟨hb_0,hb_1,hb_2,hb_3,hb_4,hb_5,hb_6,hb_7,hb_8,hb_9,hb_f,hb_l,H_hb⟩:=jy hb;clear hb;go_enter func65,ntmps65
 go_wp2_with (go_at_call 113;refine HN.out.mono ?_;rintro e w' ⟨rfl,rfl⟩)
 go_ret;exact⟨rfl,rfl⟩
end
theorem zc1{ns:List EvN}{x:EvN}{i:Nat}(h:i<ns.length):nxt (ns++[x]) i=nxt ns i:=by unfold nxt;rw[uw h]
theorem zb6(ns:List EvN)(x:EvN):nxt (ns++[x]) ns.length=some x.1:=by unfold nxt;simp
theorem Ko{ns:List EvN}{i:Nat}(h:ns.length≤i):nxt ns i=none:=by unfold nxt;rw[xM h];rfl
section
variable{Fo:Nat→Prop}{w w':World}{p:Nat}{k0 k1 k2 k3 k4 k5:Int}{th:Nat}{ns:List EvN}
def zcX(Fo:Nat→Prop)(w:World)(p:Nat)(k0 k1 k2 k3 k4 k5:Int)(th:Nat)(ns:List EvN)(x:Ev)(v:Value)(e:Ending)(w':World):Prop :=
 e=.returned (.tuple #[]) ∧ ∃ b,w.heap.size≤b∧yY Fo w' p k0 k1 k2 k3 k4 k5 th (ns++[(b,x,v)])∧Mod (evD p ns) w w'
theorem zkJ(h:yY Fo w p k0 k1 k2 k3 k4 k5 th ns){x:Ev}(hx:x.Ok){a:Option Addr}{n c:Nat}(hv:zW w (.slice a n c) (zJ x.e.val))(ho : ∀ g,(Value.slice a n c).ownBlock=some g → ¬ Fo g)(hnD : ∀ g,(Value.slice a n c).ownBlock=some g → ¬ evD p ns g) :
  Calls prog 153 #[lkP p,evV x.kind x.e.key (.slice a n c) x.e.birth x.e.dl x.tm] w (zcX Fo w p k0 k1 k2 k3 k4 k5 th ns x (.slice a n c)):=by
 have HH:=za h;have HV:=za hv;have HO:=za ho;have HX:=za hx;have HND:=za hnD;have hb:=h.box;have hpl:p<w.heap.size:=zm hb;obtain⟨kd,⟨key,val,dl,birth⟩,tm⟩:=x;dsimp only at HV hv ⊢;have e1:zb w (w.alloc (.cells #[.int .i64 kd,.string key,.slice a n c,.int .u64 birth,.int .u64 dl,.int .u64 tm] 78)):=(Mod.refl _ w).alloc _;have z1:=zk (w:=w) (o := .cells #[.int .i64 kd,.string key,.slice a n c,.int .u64 birth,.int .u64 dl,.int .u64 tm] 78 (0,0)) rfl;have HE1:=za e1;have hb1:=e1.heap (fun h=>h) hb;have fin : ∀(X:World) (ol:Option Nat),True:=fun _ _=>trivial
 clear fin h hx hv ho hnD;unfold zcX;by_cases hne:ns=[]
 ·subst hne;go_enter func153,ntmps153;go_upto_region 1 with fail
  generalize w.alloc (.cells #[.int .i64 kd,.string key,.slice a n c,.int .u64 birth,.int .u64 dl,.int .u64 tm] 78)=W1 at *;have hs1:w.heap.size<W1.heap.size:=zm z1;obtain⟨b3,hb3⟩:=zf w.heap.size;rw[hb3]at z1 hs1 hpl ⊢;have HB3:=za hb3;clear hb3;obtain⟨z1_0,z1_1,z1_2,z1_3,z1_4,z1_5,z1_f,z1_l,H_z1⟩:=cr6 z1;clear z1;go_upto_region 2 with fail
  have e2:zb W1 (W1.alloc (.cells #[.int .i64 kd,.string key,.slice a n c,.int .u64 birth,.int .u64 dl,.int .u64 tm,.pointer none] 207)):=(Mod.refl _ W1).alloc _;have z2:=zk (w:=W1) (o := .cells #[.int .i64 kd,.string key,.slice a n c,.int .u64 birth,.int .u64 dl,.int .u64 tm,.pointer none] 207 (0,0)) rfl;have hb2:=e2.heap (fun h=>h) hb1;have HE2:=za (HE1.out.trans e2);clear z1_0 z1_1 z1_2 z1_3 z1_4 z1_5 z1_f z1_l;clear H_z1 e2 e1 hb hb1;generalize W1.alloc (.cells #[.int .i64 kd,.string key,.slice a n c,.int .u64 birth,.int .u64 dl,.int .u64 tm,.pointer none] 207)=W2 at *;obtain⟨bn,hbn⟩:=zf W1.heap.size;rw[hbn]at z2 hs1 ⊢;clear hbn;have HZ2:=za z2;have HB2:=za hb2;simp only[nxt,xk,List.getElem?_nil,Option.map_none,List.length_nil]at hb2;obtain⟨hb2_0,hb2_1,hb2_2,hb2_3,hb2_4,hb2_5,hb2_6,hb2_7,hb2_8,hb2_9,hb2_f,hb2_l,H_hb2⟩:=jy hb2;clear hb2;go_wp2
  go_end0
  have h1:=zX W2 p 0 _ _ (.pointer (some ⟨bn,0,none⟩)) HB2.out;have h2:=zX _ p 1 _ _ (.pointer (some ⟨bn,0,none⟩)) h1;have hm:Mod (fun k=>k=p) W2 ((W2.setCell ⟨p,0,none⟩ (.pointer (some ⟨bn,0,none⟩))).setCell ⟨p,1,none⟩ (.pointer (some ⟨bn,0,none⟩))):=Mod.set2 p 0 1 _ _;have hz:=hm.heap (fun e=>by omega) HZ2.out;have hmw:Mod (fun k=>k=p) w _:=Mod.trans' HE2.out hm (fun _ _ h=>h.elim) (fun _ _ h=>h);have hpv:Mod (fun k=>k=p) w _:=hmw;refine⟨rfl,bn,by have:=HB3.out;omega,⟨?_,fun i m hi => ?_,fun m hm' => ?_,fun m hm' g hg => ?_,by simp,fun m hm' => ?_,fun k hk=>hmw.lt (HH.out.flt k hk)⟩,hmw.mono (fun k _ e => .inl e)⟩
  ·rw[h2]
   rfl
  ·cases i with
   | zero=>cases hi;exact hz
   | succ i=>cases hi
  ·rw[xc.1 hm'];exact zz HV.out hmw (fun g hg e=>HND.out g hg (.inl e))
  ·rw[xc.1 hm']at hg;exact HO.out g hg
  ·rw[xc.1 hm'];exact HX.out
 ·obtain⟨m,hm0⟩ : ∃ m,ns.length=m+1:=⟨ns.length-1,by have:=List.length_pos_iff.2 hne;omega⟩;obtain⟨nl,hnl⟩ : ∃ nl,ns[m]? = some nl:=⟨_,zO (by omega)⟩;have hzl:=HH.out.node m nl hnl;have hlast:nxt ns (ns.length-1)=some nl.1:=by unfold nxt;rw[hm0];simp[hnl]
  have hnl1:nxt ns (m+1)=none:=Ko (by omega);rw[hnl1]at hzl;have hnlm:=ym hnl;have hnp:nl.1≠p:=HH.out.np hnlm;have hbl:nl.1<w.heap.size:=zm hzl;have HNL:=za hnl;have HM0:=za hm0;have HZL:=za hzl;have HNLM:=za hnlm;have hzl1:=e1.heap (fun h=>h) hzl;have hf0 : ∃ v0,xk (nxt ns 0)=v0:=⟨_,rfl⟩;obtain⟨v0,hv0⟩:=hf0;rw[hlast,hv0]at hb1;have HV0:=za hv0;have HLA:=za hlast;clear hnl hm0 hzl hnlm hv0 hlast hnl1 hb hne;go_enter func153,ntmps153;go_upto_region 1 with fail
  generalize w.alloc (.cells #[.int .i64 kd,.string key,.slice a n c,.int .u64 birth,.int .u64 dl,.int .u64 tm] 78)=W1 at *;have hs1:w.heap.size<W1.heap.size:=zm z1;obtain⟨b3,hb3⟩:=zf w.heap.size;rw[hb3]at z1 hs1 hpl hbl ⊢;have HB3:=za hb3;clear hb3;obtain⟨z1_0,z1_1,z1_2,z1_3,z1_4,z1_5,z1_f,z1_l,H_z1⟩:=cr6 z1;clear z1;go_upto_region 2 with fail
  have e2:zb W1 (W1.alloc (.cells #[.int .i64 kd,.string key,.slice a n c,.int .u64 birth,.int .u64 dl,.int .u64 tm,.pointer none] 207)):=(Mod.refl _ W1).alloc _;have z2:=zk (w:=W1) (o := .cells #[.int .i64 kd,.string key,.slice a n c,.int .u64 birth,.int .u64 dl,.int .u64 tm,.pointer none] 207 (0,0)) rfl;have hb2:=e2.heap (fun h=>h) hb1;have hz2:=e2.heap (fun h=>h) hzl1;have HE2:=za (HE1.out.trans e2);clear z1_0 z1_1 z1_2 z1_3 z1_4 z1_5 z1_f z1_l;clear H_z1 e2 e1 hb1 hzl1;generalize W1.alloc (.cells #[.int .i64 kd,.string key,.slice a n c,.int .u64 birth,.int .u64 dl,.int .u64 tm,.pointer none] 207)=W2 at *;obtain⟨bn,hbn⟩:=zf W1.heap.size;rw[hbn]at z2 hs1 ⊢;clear hbn;have HZ2:=za z2;have HB2:=za hb2;have HN2:=za hz2;obtain⟨bl,nx,nv⟩:=nl;obtain⟨lk,⟨lkey,lval,ldl,lbirth⟩,ltm⟩:=nx;dsimp only[xk]at hb2 hz2 hnp hbl HN2 HB2;obtain⟨hb2_0,hb2_1,hb2_2,hb2_3,hb2_4,hb2_5,hb2_6,hb2_7,hb2_8,hb2_9,hb2_f,hb2_l,H_hb2⟩:=jy hb2;clear hb2;obtain⟨hz2_0,hz2_1,hz2_2,hz2_3,hz2_4,hz2_5,hz2_6,hz2_f,hz2_l,H_hz2⟩:=cr7 hz2;clear hz2;go_wp2
  go_end0
  have h1:=zX W2 bl 6 _ _ (.pointer (some ⟨bn,0,none⟩)) HN2.out;have h2:=zX (W2.setCell ⟨bl,6,none⟩ (.pointer (some ⟨bn,0,none⟩))) p 1 _ _ (.pointer (some ⟨bn,0,none⟩)) (xp (a:=⟨bl,6,none⟩) HB2.out (fun e=>hnp e.symm));have h1':=xp (a:=⟨p,1,none⟩) (v := .pointer (some ⟨bn,0,none⟩)) h1 hnp;have hm:Mod (fun k=>k=bl∨k=p) W2 ((W2.setCell ⟨bl,6,none⟩ (.pointer (some ⟨bn,0,none⟩))).setCell ⟨p,1,none⟩ (.pointer (some ⟨bn,0,none⟩))) :=
   ((Mod.refl (fun k=>k=bl∨k=p) W2).setCell (p:=⟨bl,6,none⟩) (fun _ => .inl rfl) _).setCell (p:=⟨p,1,none⟩) (fun _ => .inr rfl) _
  have hz:=hm.heap (fun e=>by rcases e with e | e<;>omega) HZ2.out;have hmw:Mod (fun k=>k=bl∨k=p) w ((W2.setCell ⟨bl,6,none⟩ (.pointer (some ⟨bn,0,none⟩))).setCell ⟨p,1,none⟩ (.pointer (some ⟨bn,0,none⟩))):=Mod.trans' HE2.out hm (fun _ _ h=>h.elim) (fun _ _ h=>h);have hsub : ∀ k,(k=bl∨k=p)→evD p ns k:=fun k hk=>by
   rcases hk with e | e
   ·exact .inr ⟨_,HNLM.out,e.symm⟩
   ·exact .inl e
  have hlen:=HM0.out;have hne2 : ∀ m'∈ns,m'.1<b3:=fun m' hm'=>by have:=HH.out.lt (.inr ⟨m',hm',rfl⟩);have:=HB3.out;omega
  have hinj : ∀(i:Nat) (m':EvN),ns[i]? = some m'→i<m→m'.1≠bl:=fun i m' hi him e=>by
   have h3:(ns.map (fun n=>n.1))[i]? = some bl:=by rw[yz,hi];exact congrArg some e
   have h4:(ns.map (fun n=>n.1))[m]? = some bl:=by rw[yz,HNL.out];rfl
   have:=(List.getElem?_inj (by rw[yH];omega) HH.out.nd).1 (h3.trans h4.symm);omega
  refine⟨rfl,bn,by have:=HB3.out;omega,⟨?_,fun i m' hi => ?_,fun m' hm' => ?_,fun m' hm' g hg => ?_,?_,fun m' hm' => ?_,fun k hk=>hmw.lt (HH.out.flt k hk)⟩,hmw.mono (fun k _ e=>hsub k e)⟩
  ·rw[h2,zc1 (by omega),HV0.out,zT,show ns.length + [(bn,(⟨kd,⟨key,val,dl,birth⟩,tm⟩:Ev),Value.slice a n c)].length-1=ns.length from rfl,zb6]
   rfl
  ·by_cases hi2:i<ns.length
   ·rw[uw hi2]at hi;by_cases him:i=m
    ·subst him;have hi3:=hi.symm.trans HNL.out;injection hi3 with hi3
     subst hi3;dsimp only;rw[h1',show i+1=ns.length by omega,zb6]
     rfl
    ·rw[zc1 (by omega)];have hnn:=hinj i m' hi (by omega);have hnp2:=HH.out.np (ym hi);exact hmw.heap (fun e=>by rcases e with e | e;exact hnn e;exact hnp2 e) (HH.out.node i m' hi)
   ·rw[jn (by omega)]at hi;have hi0:i=ns.length:=by
     cases hq:i-ns.length with
     | zero=>omega
     | succ q=>rw[hq]at hi;cases hi
    subst hi0;rw[Y9]at hi
    cases hi
    rw[Ko (by simp)];exact hz
  ·rcases yI.1 hm' with hm' | hm'
   ·exact zz (HH.out.vals m' hm') hmw (fun g hg e=>by
     obtain⟨cur,e2⟩:=yd (HH.out.vals m' hm') hg;rcases e with e | e
     ·subst e;rw[HZL.out]at e2;injection e2 with e2;injection e2 with _ e2;exact absurd e2 (by decide)
     ·subst e;rw[HH.out.box]at e2;injection e2 with e2;injection e2 with _ e2;exact absurd e2 (by decide))
   ·rw[xc.1 hm'];exact zz HV.out hmw (fun g hg e=>HND.out g hg (hsub g e))
  ·rcases yI.1 hm' with hm' | hm'
   ·exact HH.out.off m' hm' g hg
   ·rw[xc.1 hm']at hg;exact HO.out g hg
  ·rw[vr,xy];refine⟨HH.out.nd,by simp,fun x hx y hy e => ?_⟩;obtain⟨m',hm',rfl⟩:=zI.1 hx;have:=hne2 m' hm';simp at hy;omega
  ·rcases yI.1 hm' with hm' | hm'
   ·exact HH.out.ok m' hm'
   ·rw[xc.1 hm'];exact HX.out
end
section
variable{w w':World}{u mc mb:Nat}{U:Bu}
theorem Ve(h:yV w u mc mb U){W:World}(hp:zb w W)(b:Nat)(hb:w.heap.size≤b){j:Nat}{x y:Nat}{U2:Bu}(hY:((Bu.cells mc mb U).set! j (.int .i64 x)).set! (j+1) (.int .i64 y)=Bu.cells mc mb U2)(hu0:U2.c0≤2097152∧U2.s0≤2305843009213693952)(hu1:U2.c1≤2097152∧U2.s1≤2305843009213693952) :
  yV ((W.setCell ⟨u,j,none⟩ (.int .i64 x)).setCell ⟨u,j+1,none⟩ (.int .i64 y)) u mc mb U2∧Mod (fun k=>k=u) w ((W.setCell ⟨u,j,none⟩ (.int .i64 x)).setCell ⟨u,j+1,none⟩ (.int .i64 y)):=by
 have h1:=(h.pure hp).box;have h2:=zX W u j _ _ (.int .i64 x) h1;have h3:=zX _ u (j+1) _ _ (.int .i64 y) h2;refine⟨⟨?_,h.c,h.b,hu0,hu1⟩,Mod.trans' hp (Mod.set2 u j (j+1) _ _) (fun _ _ h=>h.elim) (fun _ _ h=>h)⟩;rw[h3];have e:((#[.int .i64 mc,.int .i64 mb,.int .i64 U.c0,.int .i64 U.s0,.int .i64 U.c1,.int .i64 U.s1]:Array Value).set! j (.int .i64 x)).set! (j+1) (.int .i64 y)=Bu.cells mc mb U2:=hY;unfold Bu.cells at e
 first | (rw[e]) | (simp only[Array.set!_eq_setIfInBounds]at e;rw[e])
theorem Qy(h:yV w u mc mb U){c:Nat}(hc:c≤1099511627776)(h1:U.c0+1≤2097152)(h2:U.s0+c≤2305843009213693952) :
  Calls prog 86 #[buP u,.int .i64 0,.int .i64 c] w fun e w'=>e=.returned (.int .i64 0)∧yV w' u mc mb {U with c0:=U.c0+1,s0:=U.s0+c}∧Mod (fun k=>k=u) w w':=by
 have HC:=za (XR h (g:=0) (by omega) hc);have HU:=za h;have hb:=h.box;clear h;obtain⟨c0,s0,c1,s1⟩:=U;dsimp only at h1 h2 hb ⊢;have HPl:=za (fun W=>ZA (c0:Int) (s0:Int) 1 (c:Int) (zt _ (by omega)) (zt _ (by omega)) W);have HF:=za (fun W=>JV ((c0:Int)+1) ((s0:Int)+(c:Int)) W);have hf:(decide ((c0:Int)+1≤2097152)&&decide ((s0:Int)+(c:Int)≤2305843009213693952))=true:=by simp;omega
 rw[hf]at HF;clear hf;obtain⟨hb_0,hb_1,hb_2,hb_3,hb_4,hb_5,hb_f,hb_l,H_hb⟩:=cr6 hb;clear hb;go_enter func86,ntmps86;go_upto_region 4 with(go_at_call 124;refine HC.out.mono ?_;rintro e w' ⟨rfl,rfl⟩)
 go_upto_region 5 with(go_at_call 126;refine(HPl.out _).mono ?_;rintro e w2 ⟨rfl,hp2⟩)
 have hb2:=(hp2.alloc (.cells #[.int .i64 ((c0:Int)+1),.int .i64 ((s0:Int)+(c:Int))] 175)).heap (fun h=>h) H_hb.out;have z:=zk (w:=w2) (o:=(.cells #[.int .i64 ((c0:Int)+1),.int .i64 ((s0:Int)+(c:Int))] 175 (0,0))) rfl;have HP:=za (hp2.alloc (.cells #[.int .i64 ((c0:Int)+1),.int .i64 ((s0:Int)+(c:Int))] 175));have hsz:u≠w2.heap.size:=by have:=hp2.size;omega
 have hsz2:w.heap.size≤w2.heap.size:=hp2.size;clear hb_0 hb_1 hb_2 hb_3 hb_4 hb_5 hb_f hb_l;clear hp2 H_hb;generalize w2.alloc (.cells #[.int .i64 ((c0:Int)+1),.int .i64 ((s0:Int)+(c:Int))] 175)=W2 at *;generalize w2.heap.size=b8 at *;obtain⟨z_0,z_1,z_f,z_l,H_z⟩:=cr2 z;clear z;obtain⟨hb2_0,hb2_1,hb2_2,hb2_3,hb2_4,hb2_5,hb2_f,hb2_l,H_hb2⟩:=cr6 hb2;clear hb2;go_upto_region 7 with(go_at_call 141;refine(HF.out _).mono ?_;rintro e w3 ⟨rfl,hp3⟩)
 have z3:=hp3.heap (fun h=>h) H_z.out;have hb3:=hp3.heap (fun h=>h) H_hb2.out;have HP3:=za (HP.out.trans hp3);clear z_0 z_1 z_f z_l;clear hb2_0 hb2_1 hb2_2 hb2_3 hb2_4 hb2_5 hb2_f hb2_l;clear H_z H_hb2 hp3;obtain⟨z3_0,z3_1,z3_f,z3_l,H_z3⟩:=cr2 z3;clear z3;obtain⟨hb3_0,hb3_1,hb3_2,hb3_3,hb3_4,hb3_5,hb3_f,hb3_l,H_hb3⟩:=cr6 hb3;clear hb3
 go_region_held3 (fun w'=>w'.cell? ⟨b8,0,none⟩=some (.int .i64 ((c0:Int)+1))∧w'.cell? ⟨b8,1,none⟩=some (.int .i64 ((s0:Int)+(c:Int))))
  (first | exact⟨z3_0,z3_1⟩ | exact⟨(Mod.set2 u 2 3 _ _).cell (fun e=>hsz e.symm) z3_0,(Mod.set2 u 2 3 _ _).cell (fun e=>hsz e.symm) z3_1⟩)
  (fail)
 go_wp2;go_ret;refine⟨rfl,?_⟩;exact Ve HU.out (W:=w3.drew) (HP3.out.drew) b8 hsz2 (j:=2) (x:=c0+1) (y:=s0+c) rfl (by have:=HU.out.u0;dsimp only at this ⊢;omega) (by have:=HU.out.u1;dsimp only at this ⊢;omega)
theorem zlE(h:yV w u mc mb U){c:Nat}(hc:c≤1099511627776)(hh:U.holds 0 c) :
  Calls prog 77 #[buP u,.int .i64 0,.int .i64 c] w fun e w'=>e=.returned (.int .i64 0)∧yV w' u mc mb {U with c0:=U.c0-1,s0:=U.s0-c}∧Mod (fun k=>k=u) w w':=by
 have HC:=za (XR h (g:=0) (by omega) hc);have HHa:=za (KV h (g:=0) (by omega) hc hh);have HU:=za h;have hb:=h.box;have hu0:=h.u0;have hu1:=h.u1;clear h;obtain⟨c0,s0,c1,s1⟩:=U;have hh1:1≤c0∧c≤s0:=by
  unfold Bu.holds Bu.cnt Bu.sum at hh;simp at hh;omega
 dsimp only at hb hu0 hu1 ⊢;have HPl:=za (fun W=>ZA (c0:Int) (s0:Int) (-1) (-(c:Int)) (zt _ (by omega)) (zt _ (by omega)) W);have wn:IntKind.i64.wrap (-(c:Int)) = -(c:Int):=zt _ (by omega);have HH1:=za hh1;clear hh hh1 hu0 hu1;obtain⟨hb_0,hb_1,hb_2,hb_3,hb_4,hb_5,hb_f,hb_l,H_hb⟩:=cr6 hb;clear hb;go_enter func77,ntmps77;go_upto_region 4 with(go_at_call 124;refine HC.out.mono ?_;rintro e w' ⟨rfl,rfl⟩)
 go_upto_region 6 with(go_at_call 125;refine HHa.out.mono ?_;rintro e w2 ⟨rfl,hp2⟩)
 have hb2:=hp2.heap (fun h=>h) H_hb.out;have HP:=za hp2;clear hb_0 hb_1 hb_2 hb_3 hb_4 hb_5 hb_f hb_l;clear H_hb hp2;obtain⟨hb2_0,hb2_1,hb2_2,hb2_3,hb2_4,hb2_5,hb2_f,hb2_l,H_hb2⟩:=cr6 hb2;clear hb2;refine rHd (S:=fun _=>True) trivial (fun h_ => ?_);refine hTk 0 ?_;refine hTk 1 ?_;refine hTk 2 ?_;refine hTk 3 ?_;refine hTk 4 ?_;refine hTk 5 ?_;refine hTk 6 ?_;refine hTk 8 ?_;refine hTk 9 ?_;refine hTk 10 ?_;refine hTk 12 ?_;refine hTk 13 ?_
 (refine hSt 7 (fun K hK => ?_);go_simp;refine hK.out _ _ ?_ (fun h_ => ?_);(· trivial);clear hK K;refine clA ?_)
 (refine hSt 11 (fun K hK => ?_);go_simp;refine(HPl.out _).mono ?_;rintro e w3 ⟨rfl,hp3⟩;have kf : ∀ j,w3.frozen? ⟨u,j,none⟩=false:=(fun j=>(hp3.cells.2 u j hb2_l).trans (hb2_f j));have kl:u<w3.heap.size:=hp3.lt hb2_l;have k2:=hp3.cell (fun h=>h) hb2_2;have k3:=hp3.cell (fun h=>h) hb2_3;refine hK.out _ _ ?_ (fun h_ => ?_);(· trivial);clear hK K;refine clA ?_)
 refine hTk 14 ?_
 (refine hSt 15 (fun K hK => ?_);go_simp;refine hK.out _ _ ?_ (fun h_ => ?_);(· trivial);clear hK K;refine clA ?_)
 refine hDn ?_;clear h_;go_wp2;go_ret;refine⟨rfl,?_⟩;have hh:=HH1.out;have e1:(c0:Int) + -1=((c0-1:Nat):Int):=by omega
 have e2:(s0:Int) + -(c:Int)=((s0-c:Nat):Int):=by omega
 rw[e1,e2];exact Ve HU.out (W:=w3) (HP.out.trans (Mod.of_drew hp3)) w.heap.size (zN _) (j:=2) (x:=c0-1) (y:=s0-c) rfl (by have:=HU.out.u0;dsimp only at this ⊢;omega) (by have:=HU.out.u1;dsimp only at this ⊢;omega)
theorem zlI(h:yV w u mc mb U){c:Nat}(hc:c≤1099511627776)(h1:U.c1+1≤2097152)(h2:U.s1+c≤2305843009213693952) :
  Calls prog 86 #[buP u,.int .i64 1,.int .i64 c] w fun e w'=>e=.returned (.int .i64 0)∧yV w' u mc mb {U with c1:=U.c1+1,s1:=U.s1+c}∧Mod (fun k=>k=u) w w':=by
 have HC:=za (XR h (g:=1) (by omega) hc);have HU:=za h;have hb:=h.box;clear h;obtain⟨c0,s0,c1,s1⟩:=U;dsimp only at h1 h2 hb ⊢;have HPl:=za (fun W=>ZA (c1:Int) (s1:Int) 1 (c:Int) (zt _ (by omega)) (zt _ (by omega)) W);have HF:=za (fun W=>JV ((c1:Int)+1) ((s1:Int)+(c:Int)) W);have hf:(decide ((c1:Int)+1≤2097152)&&decide ((s1:Int)+(c:Int)≤2305843009213693952))=true:=by simp;omega
 rw[hf]at HF;clear hf;obtain⟨hb_0,hb_1,hb_2,hb_3,hb_4,hb_5,hb_f,hb_l,H_hb⟩:=cr6 hb;clear hb;go_enter func86,ntmps86;go_upto_region 4 with(go_at_call 124;refine HC.out.mono ?_;rintro e w' ⟨rfl,rfl⟩)
 go_upto_region 5 with(go_at_call 126;refine(HPl.out _).mono ?_;rintro e w2 ⟨rfl,hp2⟩)
 have hb2:=(hp2.alloc (.cells #[.int .i64 ((c1:Int)+1),.int .i64 ((s1:Int)+(c:Int))] 175)).heap (fun h=>h) H_hb.out;have z:=zk (w:=w2) (o:=(.cells #[.int .i64 ((c1:Int)+1),.int .i64 ((s1:Int)+(c:Int))] 175 (0,0))) rfl;have HP:=za (hp2.alloc (.cells #[.int .i64 ((c1:Int)+1),.int .i64 ((s1:Int)+(c:Int))] 175));have hsz:u≠w2.heap.size:=by have:=hp2.size;omega
 have hsz2:w.heap.size≤w2.heap.size:=hp2.size;clear hb_0 hb_1 hb_2 hb_3 hb_4 hb_5 hb_f hb_l;clear hp2 H_hb;generalize w2.alloc (.cells #[.int .i64 ((c1:Int)+1),.int .i64 ((s1:Int)+(c:Int))] 175)=W2 at *;generalize w2.heap.size=b8 at *;obtain⟨z_0,z_1,z_f,z_l,H_z⟩:=cr2 z;clear z;obtain⟨hb2_0,hb2_1,hb2_2,hb2_3,hb2_4,hb2_5,hb2_f,hb2_l,H_hb2⟩:=cr6 hb2;clear hb2;go_upto_region 7 with(go_at_call 141;refine(HF.out _).mono ?_;rintro e w3 ⟨rfl,hp3⟩)
 have z3:=hp3.heap (fun h=>h) H_z.out;have hb3:=hp3.heap (fun h=>h) H_hb2.out;have HP3:=za (HP.out.trans hp3);clear z_0 z_1 z_f z_l;clear hb2_0 hb2_1 hb2_2 hb2_3 hb2_4 hb2_5 hb2_f hb2_l;clear H_z H_hb2 hp3;obtain⟨z3_0,z3_1,z3_f,z3_l,H_z3⟩:=cr2 z3;clear z3;obtain⟨hb3_0,hb3_1,hb3_2,hb3_3,hb3_4,hb3_5,hb3_f,hb3_l,H_hb3⟩:=cr6 hb3;clear hb3
 go_region_held3 (fun w'=>w'.cell? ⟨b8,0,none⟩=some (.int .i64 ((c1:Int)+1))∧w'.cell? ⟨b8,1,none⟩=some (.int .i64 ((s1:Int)+(c:Int))))
  (first | exact⟨z3_0,z3_1⟩ | exact⟨(Mod.set2 u 4 5 _ _).cell (fun e=>hsz e.symm) z3_0,(Mod.set2 u 4 5 _ _).cell (fun e=>hsz e.symm) z3_1⟩)
  (fail)
 go_wp2;go_ret;refine⟨rfl,?_⟩;exact Ve HU.out (W:=w3.drew) (HP3.out.drew) b8 hsz2 (j:=4) (x:=c1+1) (y:=s1+c) rfl (by have:=HU.out.u0;dsimp only at this ⊢;omega) (by have:=HU.out.u1;dsimp only at this ⊢;omega)
theorem zdH(h:yV w u mc mb U){c:Nat}(hc:c≤1099511627776)(hh:U.holds 1 c) :
  Calls prog 77 #[buP u,.int .i64 1,.int .i64 c] w fun e w'=>e=.returned (.int .i64 0)∧yV w' u mc mb {U with c1:=U.c1-1,s1:=U.s1-c}∧Mod (fun k=>k=u) w w':=by
 have HC:=za (XR h (g:=1) (by omega) hc);have HHa:=za (KV h (g:=1) (by omega) hc hh);have HU:=za h;have hb:=h.box;have hu0:=h.u0;have hu1:=h.u1;clear h;obtain⟨c0,s0,c1,s1⟩:=U;have hh1:1≤c1∧c≤s1:=by
  unfold Bu.holds Bu.cnt Bu.sum at hh;simp at hh;omega
 dsimp only at hb hu0 hu1 ⊢;have HPl:=za (fun W=>ZA (c1:Int) (s1:Int) (-1) (-(c:Int)) (zt _ (by omega)) (zt _ (by omega)) W);have wn:IntKind.i64.wrap (-(c:Int)) = -(c:Int):=zt _ (by omega);have HH1:=za hh1;clear hh hh1 hu0 hu1;obtain⟨hb_0,hb_1,hb_2,hb_3,hb_4,hb_5,hb_f,hb_l,H_hb⟩:=cr6 hb;clear hb;go_enter func77,ntmps77;go_upto_region 4 with(go_at_call 124;refine HC.out.mono ?_;rintro e w' ⟨rfl,rfl⟩)
 go_upto_region 6 with(go_at_call 125;refine HHa.out.mono ?_;rintro e w2 ⟨rfl,hp2⟩)
 have hb2:=hp2.heap (fun h=>h) H_hb.out;have HP:=za hp2;clear hb_0 hb_1 hb_2 hb_3 hb_4 hb_5 hb_f hb_l;clear H_hb hp2;obtain⟨hb2_0,hb2_1,hb2_2,hb2_3,hb2_4,hb2_5,hb2_f,hb2_l,H_hb2⟩:=cr6 hb2;clear hb2;refine rHd (S:=fun _=>True) trivial (fun h_ => ?_);refine hTk 0 ?_;refine hTk 1 ?_;refine hTk 2 ?_;refine hTk 3 ?_;refine hTk 4 ?_;refine hTk 5 ?_;refine hTk 6 ?_;refine hTk 8 ?_;refine hTk 9 ?_;refine hTk 10 ?_;refine hTk 12 ?_;refine hTk 13 ?_
 (refine hSt 7 (fun K hK => ?_);go_simp;refine hK.out _ _ ?_ (fun h_ => ?_);(· trivial);clear hK K;refine clA ?_)
 (refine hSt 11 (fun K hK => ?_);go_simp;refine(HPl.out _).mono ?_;rintro e w3 ⟨rfl,hp3⟩;have kf : ∀ j,w3.frozen? ⟨u,j,none⟩=false:=(fun j=>(hp3.cells.2 u j hb2_l).trans (hb2_f j));have kl:u<w3.heap.size:=hp3.lt hb2_l;have k2:=hp3.cell (fun h=>h) hb2_4;have k3:=hp3.cell (fun h=>h) hb2_5;refine hK.out _ _ ?_ (fun h_ => ?_);(· trivial);clear hK K;refine clA ?_)
 refine hTk 14 ?_
 (refine hSt 15 (fun K hK => ?_);go_simp;refine hK.out _ _ ?_ (fun h_ => ?_);(· trivial);clear hK K;refine clA ?_)
 refine hDn ?_;clear h_;go_wp2;go_ret;refine⟨rfl,?_⟩;have hh:=HH1.out;have e1:(c1:Int) + -1=((c1-1:Nat):Int):=by omega
 have e2:(s1:Int) + -(c:Int)=((s1-c:Nat):Int):=by omega
 rw[e1,e2];exact Ve HU.out (W:=w3) (HP.out.trans (Mod.of_drew hp3)) w.heap.size (zN _) (j:=4) (x:=c1-1) (y:=s1-c) rfl (by have:=HU.out.u0;dsimp only at this ⊢;omega) (by have:=HU.out.u1;dsimp only at this ⊢;omega)
end
section
variable{w w':World}{u mc mb:Nat}{U:Bu}
theorem zlz(h:yV w u mc mb U){c:Nat}(hc:c≤1099511627776)(h1:U.c0+1≤2097152)(h2:U.s0+c≤2305843009213693952)(hh:U.holds 1 c) :
    Calls prog 142 #[buP u,.int .i64 1,.int .i64 c] w fun e w'=>e=.returned (.int .i64 0)∧yV w' u mc mb {c0:=U.c0+1,s0:=U.s0+c,c1:=U.c1-1,s1:=U.s1-c}∧Mod (fun k=>k=u) w w':=by
  have HC:=za (XR h (g:=1) (by omega) hc);have HHa:=za (fun(W:World) (hW:zb w W)=>KV (h.pure hW) (g:=1) (by omega) hc hh);have HRe:=za (fun(W:World) (hW:zb w W)=>zdH (h.pure hW) hc hh);have HAd:=za (fun(W:World) (hW:yV W u mc mb {U with c1:=U.c1-1,s1:=U.s1-c})=>Qy hW hc h1 h2);have hb:=h.box;clear h hh;obtain⟨c0,s0,c1,s1⟩:=U;dsimp only at h1 h2 hb HRe HAd ⊢;have HPl:=za (fun W=>ZA (c0:Int) (s0:Int) 1 (c:Int) (zt _ (by omega)) (zt _ (by omega)) W);have HF:=za (fun W=>JV ((c0:Int)+1) ((s0:Int)+(c:Int)) W);have hf:(decide ((c0:Int)+1≤2097152)&&decide ((s0:Int)+(c:Int)≤2305843009213693952))=true:=by simp;omega
  rw[hf]at HF;clear hf;obtain⟨hb_0,hb_1,hb_2,hb_3,hb_4,hb_5,hb_f,hb_l,H_hb⟩:=cr6 hb;clear hb;go_enter func142,ntmps142;go_upto_region 7 with(first
    | (go_at_call 124;refine HC.out.mono ?_;rintro e w' ⟨rfl,rfl⟩)
    | (go_at_call 126;refine(HPl.out _).mono ?_;rintro e w2 ⟨rfl,hp2⟩)
    | (go_at_call 141;refine(HF.out _).mono ?_;rintro e w3 ⟨rfl,hp3⟩))
  have HP:=za (hp2.trans hp3);clear hb_0 hb_1 hb_2 hb_3 hb_4 hb_5 hb_f hb_l;clear H_hb hp2 hp3
  go_wp2_with (first
    | (go_at_call 125;refine(HHa.out _ HP.out).mono ?_;rintro e w4 ⟨rfl,hp4⟩)
    | (go_at_call 77;refine(HRe.out _ (HP.out.trans hp4)).mono ?_;rintro e w5 ⟨rfl,hb5,hm5⟩)
    | (go_at_call 86;refine(HAd.out _ hb5).mono ?_;rintro e w6 ⟨rfl,hb6,hm6⟩))
  go_ret;exact⟨rfl,hb6,Mod.trans' (Mod.trans' (HP.out.trans hp4) hm5 (fun _ _ h=>h.elim) (fun _ _ h=>h)) hm6 (fun _ _ h=>h) (fun _ _ h=>h)⟩
theorem zku{c b:Nat}(h1:1≤c∧c≤1048576)(h2:1≤b∧b≤1099511627776)(w:World) :
  Calls prog 55 #[.int .i64 c,.int .i64 b] w fun e w'=>e=.returned (.tuple #[buP w.heap.size,.int .i64 0])∧yV w' w.heap.size c b ⟨0,0,0,0⟩∧zb w w':=by
 have hal:=zgm (c:Int) (b:Int) w;have e1:(uK (c:Int) 1 1048576&&uK (b:Int) 1 1099511627776)=true:=by unfold uK;simp;omega
 rw[e1]at hal;have HA:=za hal;have HH1:=za h1;have HH2:=za h2;clear hal h1 h2 e1;go_enter func55,ntmps55
 go_wp2_with (go_at_call 100;refine HA.out.mono ?_;rintro e w' ⟨rfl,rfl⟩)
 have hb:=zk (w:=w) (o := .cells #[.int .i64 c,.int .i64 b,.int .i64 0,.int .i64 0,.int .i64 0,.int .i64 0] 178 (0,0)) rfl;go_ret2;exact⟨rfl,⟨hb,HH1.out,HH2.out,by decide,by decide⟩,(Mod.refl _ w).alloc _⟩
def BuS(u mc mb c0 s0 c1 s1:Nat)(X:World):Prop:=X.cell? ⟨u,0,none⟩=some (.int .i64 mc)∧X.cell? ⟨u,1,none⟩=some (.int .i64 mb)∧X.cell? ⟨u,2,none⟩=some (.int .i64 c0)∧X.cell? ⟨u,3,none⟩=some (.int .i64 s0)∧X.cell? ⟨u,4,none⟩=some (.int .i64 c1)∧X.cell? ⟨u,5,none⟩=some (.int .i64 s1)
theorem Azwrg {P:Prop}(h:P:=by
 have hz:=HZ3.out;obtain⟨hz_0,hz_1,hz_f,hz_l,H_hz⟩:=cr2 hz;clear hz
 (refine hSt 26 (fun K hK => ?_);go_simp;refine hK.out _ _ ?_ (fun h_ => ?_);(· exact HS.out _ (HP3.out.then ((Mod.refl (fun k=>k=ba) w3).setCell (p:=⟨ba,0,none⟩) (fun _=>rfl) _ |>.setCell (p:=⟨ba,1,none⟩) (fun _=>rfl) _) (fun i hi e=>by have:=HGE.out;omega)));clear hK K;refine clA ?_)
 refine hDn ?_;clear h_;have HW:=za (HP3.out.then ((Mod.refl (fun k=>k=ba) w3).setCell (p:=⟨ba,0,none⟩) (fun _=>rfl) (.int .i64 ((c0:Int)+(c1:Int) + -(mc:Int))) |>.setCell (p:=⟨ba,1,none⟩) (fun _=>rfl) (.int .i64 ((s0:Int)+(s1:Int) + -(mb:Int)))) (fun i hi e=>by have:=HGE.out;omega));have h8:=zX w3 ba 0 _ _ (.int .i64 ((c0:Int)+(c1:Int) + -(mc:Int))) HZ3.out;have h9:=zX _ ba 1 _ _ (.int .i64 ((s0:Int)+(s1:Int) + -(mb:Int))) h8;obtain⟨X,hX⟩:=zf ((w3.setCell ⟨ba,0,none⟩ (.int .i64 ((c0:Int)+(c1:Int) + -(mc:Int)))).setCell ⟨ba,1,none⟩ (.int .i64 ((s0:Int)+(s1:Int) + -(mb:Int))));rw[hX]at h9 HW ⊢;clear hz_0 hz_1 hz_f hz_l;clear H_hz hX h8;simp only[List.setIfInBounds_toArray,List.set_cons_succ,List.set_cons_zero,Array.setIfInBounds]at h9;have g0:X.cell? ⟨ba,0,none⟩=some (.int .i64 ((c0:Int)+(c1:Int) + -(mc:Int))):=zi X ba 0 _ _ (0,0) (by simpa using h9);have g1:X.cell? ⟨ba,1,none⟩=some (.int .i64 ((s0:Int)+(s1:Int) + -(mb:Int))):=zi X ba 1 _ _ (0,0) (by simpa using h9);have hba9:=zm h9;clear h9;go_upto_region 3 with fail
 refine qU (S:=fun Y=>Y.cell? ⟨ba,0,none⟩=some (.int .i64 ((c0:Int)+(c1:Int) + -(mc:Int)))∧Y.cell? ⟨ba,1,none⟩=some (.int .i64 ((s0:Int)+(s1:Int) + -(mb:Int)))) (by kernel_rfl) ⟨g0,g1⟩ (fun h_ => ?_);refine hTk 0 ?_;refine hLd 1 ?_;refine hTk 2 ?_;refine hTk 3 ?_;refine hLd 4 ?_;refine hTk 5 ?_;refine hTk 6 ?_;refine hTk 7 ?_;refine hDn ?_;go_wp2
 all_goals(go_ret2;exact⟨rfl,HW.out.drew⟩)):P:=h
theorem Azgqy {P:Prop}(h:P:=by
 refine uY (rs:=[24]) (by kernel_rfl) (by simp) ?_;refine ue rfl (fun K3 hK3 => ?_) (kw)
 ·go_simp;go_at_call 126;refine(HPq.out _).mono ?_;rintro e w3 ⟨rfl,hp3⟩;have HP3:=za ((HP2.out).trans hp3);have HZ3:=za (hp3.heap (fun h=>h) HZ2.out);go_simp;refine hK3.out _ _ (HS.out _ HP3.out) (fun h_ => ?_);clear hK3 K3 hp3;refine clA ?_;exact Azwrg):P:=h
theorem zjy(h:yV w u mc mb U):Calls prog 107 #[buP u] w fun e w'=>e=.returned (.tuple #[.int .i64 (if 0<(U.c0:Int)+(U.c1:Int) + -(mc:Int)then(U.c0:Int)+(U.c1:Int) + -(mc:Int)else 0),.int .i64 (if 0<(U.s0:Int)+(U.s1:Int) + -(mb:Int)then(U.s0:Int)+(U.s1:Int) + -(mb:Int)else 0)])∧zb w w':=by
 have HN:=za (za0 h);have hb:=h.box;have hu0:=h.u0;have hu1:=h.u1;have hcc:=h.c;have hbb:=h.b;clear h;obtain⟨c0,s0,c1,s1⟩:=U;dsimp only at hb hu0 hu1 ⊢;have HPl:=za (fun W=>ZA (c0:Int) (s0:Int) (c1:Int) (s1:Int) (zt _ (by omega)) (zt _ (by omega)) W);have HPq:=za (fun W=>ZA ((c0:Int)+(c1:Int)) ((s0:Int)+(s1:Int)) (-(mc:Int)) (-(mb:Int)) (zt _ (by omega)) (zt _ (by omega)) W);have wn1:IntKind.i64.wrap (-(mc:Int)) = -(mc:Int):=zt _ (by omega);have wn2:IntKind.i64.wrap (-(mb:Int)) = -(mb:Int):=zt _ (by omega);have HS:=za (fun(X:World) (hX:zb w X)=>(⟨zi X u 0 _ _ (0,0) (hX.heap (fun h=>h) hb),zi X u 1 _ _ (0,0) (hX.heap (fun h=>h) hb),zi X u 2 _ _ (0,0) (hX.heap (fun h=>h) hb),zi X u 3 _ _ (0,0) (hX.heap (fun h=>h) hb),zi X u 4 _ _ (0,0) (hX.heap (fun h=>h) hb),zi X u 5 _ _ (0,0) (hX.heap (fun h=>h) hb)⟩:BuS u mc mb c0 s0 c1 s1 X));clear hu0 hu1 hcc hbb;have HB6:=za hb;obtain⟨hb_0,hb_1,hb_2,hb_3,hb_4,hb_5,hb_f,hb_l,H_hb⟩:=cr6 hb;clear hb;go_enter func107,ntmps107;go_upto_region 2 with(go_at_call 163;refine HN.out.mono ?_;rintro e w' ⟨rfl,rfl⟩)
 clear hb_0 hb_1 hb_2 hb_3 hb_4 hb_5 hb_f hb_l;clear H_hb;have hlw:=za (zm HB6.out);have HP0:=za (Mod.refl (fun _=>False) w);refine rHd (S:=BuS u mc mb c0 s0 c1 s1) (HS.out _ (Mod.refl _ _).drew) (fun h_ => ?_);refine hTk 0 ?_;refine hTk 1 ?_;refine hTk 2 ?_;refine hTk 3 ?_;refine hLd 4 ?_;refine hTk 5 ?_;refine hTk 6 ?_;refine hTk 7 ?_;refine hTk 8 ?_;refine hLd 9 ?_;refine hTk 11 ?_;refine hTk 12 ?_;refine hTk 13 ?_;refine hTk 14 ?_;refine hLd 15 ?_;refine hTk 16 ?_;refine hTk 17 ?_;refine hTk 18 ?_;refine hTk 19 ?_;refine hTk 20 ?_;refine hLd 21 ?_;refine hTk 22 ?_;refine hTk 23 ?_;refine uY (rs:=[10,25]) (by kernel_rfl) (by simp) ?_;refine ue rfl (fun K1 hK1 => ?_) (ue rfl (fun K1 hK1 => ?_) (kw))
 ·go_simp;go_at_call 126;refine(HPl.out _).mono ?_;rintro e w1 ⟨rfl,hp1⟩;have HP1:=za ((HP0.out.drew).trans hp1);go_simp;refine hK1.out _ _ (HS.out _ HP1.out) (fun h_ => ?_);clear hK1 K1 hp1;refine clA ?_;refine uY (rs:=[24,25]) (by kernel_rfl) (by simp) ?_;refine ue rfl (fun K2 hK2 => ?_) (ue rfl (fun K2 hK2 => ?_) (kw))
  ·go_simp;go_at_call 126;refine(HPq.out _).mono ?_;rintro e w2 ⟨rfl,hp2⟩;have HP2:=za ((HP1.out).trans hp2);go_simp;refine hK2.out _ _ (HS.out _ HP2.out) (fun h_ => ?_);clear hK2 K2 hp2;refine clA ?_;refine uY (rs:=[25]) (by kernel_rfl) (by simp) ?_;refine ue rfl (fun K3 hK3 => ?_) (kw)
   ·go_simp;have HP3:=za ((HP2.out.alloc (.cells #[.int .i64 0,.int .i64 0] 175)));have hz3:=zk (w:=w2) (o := .cells #[.int .i64 0,.int .i64 0] 175 (0,0)) rfl;skip;refine hK3.out _ _ (HS.out _ HP3.out) (fun h_ => ?_);clear hK3 K3;refine clA ?_;obtain⟨w3,hw3⟩:=zf (w2.alloc (.cells #[.int .i64 0,.int .i64 0] 175));have hne:u≠w2.heap.size:=by have:=HP2.out.size;have:=hlw.out;first | omega | (simp at this ⊢;omega)
    rw[hw3]at hz3 HP3 h_ ⊢;obtain⟨ba,hba⟩:=zf w2.heap.size;rw[hba]at hne;have hz:w3.heap[ba]? = some (.cells #[.int .i64 0,.int .i64 0] 175 (0,0)):=by rw[← hba];exact hz3
    have hge:w.heap.size≤ba:=by rw[← hba];exact HP2.out.size
    try rw[hba]
    try rw[show w.drew.heap.size=ba from hba]
    have HZ3:=za hz;have HNE:=za hne;have HGE:=za hge;clear hz hz3 hne hge hba hw3;exact Azwrg
  ·go_simp;have HP2:=za ((HP1.out.alloc (.cells #[.int .i64 0,.int .i64 0] 175)));have hz2:=zk (w:=w1) (o := .cells #[.int .i64 0,.int .i64 0] 175 (0,0)) rfl;skip;refine hK2.out _ _ (HS.out _ HP2.out) (fun h_ => ?_);clear hK2 K2;refine clA ?_;obtain⟨w2,hw2⟩:=zf (w1.alloc (.cells #[.int .i64 0,.int .i64 0] 175));have hne:u≠w1.heap.size:=by have:=HP1.out.size;have:=hlw.out;first | omega | (simp at this ⊢;omega)
   rw[hw2]at hz2 HP2 h_ ⊢;obtain⟨ba,hba⟩:=zf w1.heap.size;rw[hba]at hne;have hz:w2.heap[ba]? = some (.cells #[.int .i64 0,.int .i64 0] 175 (0,0)):=by rw[← hba];exact hz2
   have hge:w.heap.size≤ba:=by rw[← hba];exact HP1.out.size
   try rw[hba]
   try rw[show w.drew.heap.size=ba from hba]
   have HZ2:=za hz;have HNE:=za hne;have HGE:=za hge;clear hz hz2 hne hge hba hw2;exact Azgqy
 ·go_simp;have HP1:=za ((HP0.out.alloc (.cells #[.int .i64 0,.int .i64 0] 175)).drew);have hz1:=zk (w:=w) (o := .cells #[.int .i64 0,.int .i64 0] 175 (0,0)) rfl;have hz1:(w.alloc (.cells #[.int .i64 0,.int .i64 0] 175)).drew.heap[w.heap.size]? = _:=hz1;refine hK1.out _ _ (HS.out _ HP1.out) (fun h_ => ?_);clear hK1 K1;refine clA ?_;obtain⟨w1,hw1⟩:=zf ((w.alloc (.cells #[.int .i64 0,.int .i64 0] 175)).drew);have hne:u≠w.heap.size:=by have:=HP0.out.size;have:=hlw.out;first | omega | (simp at this ⊢;omega)
  rw[hw1]at hz1 HP1 h_ ⊢;obtain⟨ba,hba⟩:=zf w.heap.size;rw[hba]at hne;have hz:w1.heap[ba]? = some (.cells #[.int .i64 0,.int .i64 0] 175 (0,0)):=by rw[← hba];exact hz1
  have hge:w.heap.size≤ba:=by rw[← hba];exact zN _
  try rw[hba]
  try rw[show w.drew.heap.size=ba from hba]
  have HZ1:=za hz;have HNE:=za hne;have HGE:=za hge;clear hz hz1 hne hge hba hw1;refine uY (rs:=[10]) (by kernel_rfl) (by simp) ?_;refine ue rfl (fun K2 hK2 => ?_) (kw)
  ·go_simp;go_at_call 126;refine(HPl.out _).mono ?_;rintro e w2 ⟨rfl,hp2⟩;have HP2:=za ((HP1.out).trans hp2);have HZ2:=za (hp2.heap (fun h=>h) HZ1.out);go_simp;refine hK2.out _ _ (HS.out _ HP2.out) (fun h_ => ?_);clear hK2 K2 hp2;refine clA ?_;exact Azgqy
end
end
section
open Go.RowKit Go.Maps
section
variable{w w':World}{D S:Nat→Prop}{o l0 l1 bm:Nat}{lim:Int}{D0 D1:Nat→Prop}{Dm:DataW Unit}{A B:List Wt}
theorem SgL.left(h:SgL A B):(zA A).Nodup:=by have:=h.nd;rw[X9]at this;exact(xy.1 this).1
theorem SgL.right(h:SgL A B):(zA B).Nodup:=by have:=h.nd;rw[X9]at this;exact(xy.1 this).2.1
theorem SgL.apart(h:SgL A B){x y:Wt}(hx:x∈A)(hy:y∈B):x.slot≠y.slot:=by
 have:=h.nd;rw[X9]at this;exact(xy.1 this).2.2 _ (zI.2 ⟨x,hx,rfl⟩) _ (zI.2 ⟨y,hy,rfl⟩)
theorem SgL.out(h:SgL A B)(s:Nat):SgL (zy A s) (zy B s):=by
 refine⟨?_,fun x hx=>h.rng x ?_⟩
 ·rw[← qw];exact(h.nd).sublist (qn.map Wt.slot)
 ·rw[← qw]at hx;exact(jW.1 hx).1
theorem zfa(h:SgL A B){x:Wt}(hx:x∈A):gOf B x.slot=0:=by
 unfold gOf;rw[zh];intro e;obtain⟨y,hy,e2⟩:=zI.1 e;exact h.apart hx hy e2.symm
theorem zhi{x:Wt}(hx:x∈B):gOf B x.slot=1:=by
 unfold gOf;rw[zj (show x.slot∈zA B from zI.2 ⟨x,hx,rfl⟩)]
theorem zkb(h:yG w D o l0 l1 bm lim D0 D1 Dm A B){x:Wt}(hx:x∈A) :
    Calls prog 123 #[lkP o,.int .u32 x.slot] w fun e w'=>e=.returned (.bool true)∧(∃ Dm',yG w' D o l0 l1 bm lim D0 D1 Dm' (zy A x.slot) (zy B x.slot))∧Mod D w w':=by
  have hxm:x∈A++B:=xQ _ hx;have hs:=(h.law.rng x hxm).1;have hcc:=(h.law.rng x hxm).2;have HO:=za (KU h hs);rw[zfa h.law hx]at HO;have HR:=za (zbl h.q0 (s:=x.slot) (zI.2 ⟨x,hx,rfl⟩));have hlw:=h.costs.look hxm (by omega);have HH:=za h;have hb:=h.box;have hsum:=h.law.sums;obtain⟨ne1,ne2,ne3,ne4,ne5,ne6⟩:=h.ne;have hou:zy B x.slot=B:=ZB (fun y hy e=>h.law.apart hx hy e.symm);have hcs:=zai h.law.left hx;have hll:=Qw h.law.nd hxm;have her:=zbD h.law.left x.slot;have HX:=za hxm;have ob:o<w.heap.size:=zm h.box;have bb:bm<w.heap.size:=h.costs.own.lt;clear h hx hxm;rw[← her]at HR;obtain⟨s,c⟩:=x;dsimp only at *;obtain⟨sa,hsa⟩:=zf (zw A);obtain⟨sb,hsb⟩:=zf (zw B);rw[hsa,hsb]at hb hsum;rw[hsa]at hcs;have HSA:=za hsa;have HSB:=za hsb;have HCS:=za hcs;have HLL:=za hll;have ws:IntKind.i64.wrap ((sa:Int)-(c:Int))=(sa:Int)-(c:Int):=zt _ (by omega);have HOU:=za hou;clear hsa hsb hcs hll her hou;obtain⟨hb_0,hb_1,hb_2,hb_3,hb_4,hb_5,hb_f,hb_l,H_hb⟩:=cr6 hb;clear hb;go_enter func123,ntmps123;go_upto_region 6 with(first
    | (go_at_call 84;refine HO.out.mono ?_;rintro e w' ⟨rfl,rfl⟩)
    | (go_at_call 181;refine HR.out.mono ?_;rintro e w1 ⟨rfl,hq,hm⟩))
  have hb1:=hm.heap ne2 H_hb.out;have hcm:=HH.out.costs.mod hm ne4;have HM1:=za hm;have HQ1:=za hq;have HB1:=za hb1;have HC1:=za hcm;have sz1:w.heap.size≤w1.heap.size:=hm.size;clear hb_0 hb_1 hb_2 hb_3 hb_4 hb_5 hb_f hb_l;clear H_hb hm hq hcm;obtain⟨hb1_0,hb1_1,hb1_2,hb1_3,hb1_4,hb1_5,hb1_f,hb1_l,H_hb1⟩:=cr6 hb1;clear hb1
  go_still_tail 11,(by kernel_rfl)
  go_upto_region 7 with fail
  obtain⟨Y,hY⟩:=zf ((w1.setCell ⟨o,2,none⟩ (.int .i64 ((sa:Int)-(c:Int)))).drew);have hb2:(w1.setCell ⟨o,2,none⟩ (.int .i64 ((sa:Int)-(c:Int)))).drew.heap[o]? = _:=zX w1 o 2 _ _ (.int .i64 ((sa:Int)-(c:Int))) HB1.out;have hm2:Mod (fun k=>k=o) w1 (w1.setCell ⟨o,2,none⟩ (.int .i64 ((sa:Int)-(c:Int)))).drew:=((Mod.refl (fun k=>k=o) w1).setCell (p:=⟨o,2,none⟩) (fun _=>rfl) _).drew;rw[hY]at hb2 hm2 ⊢;have HC2:=za (HC1.out.mod hm2 (fun e=>ne1 e.symm));have HM2:=za hm2;have HB2:=za hb2;clear hb1_0 hb1_1 hb1_2 hb1_3 hb1_4 hb1_5 hb1_f hb1_l;clear H_hb1 hY hm2;simp only[List.setIfInBounds_toArray,List.set_cons_succ,List.set_cons_zero,Array.setIfInBounds]at hb2;obtain⟨hb2_0,hb2_1,hb2_2,hb2_3,hb2_4,hb2_5,hb2_f,hb2_l,H_hb2⟩:=cr6 hb2;clear hb2
  go_wp2_with (at_delete;refine Yw _ rfl _ _ 153 89 rfl 3 x9 underlying153 jr bm (A++B).length Dm rfl HC2.out.own (.int .u32 s) (kS s) rfl (uq (by omega)) ?_;intro w4 ho4 ht4;go_frame)
  have hm4:Mod (fun k=>k=bm) Y w4:=Mod.of_grown ht4.grown (fun k e _=>by cases e;rfl);have hT4:=HC2.out.del (x:=⟨s,c⟩) HX.out (M':=zy (A++B) s) (fun y=>jW) HLL.out.symm ho4;rw[qw]at hT4;have hbx4:=hm4.heap (fun e=>ne1 e) HB2.out;have hall:Mod (fun k=>k=o∨k=bm) w1 w4:=Mod.trans' HM2.out hm4 (fun i _ h => .inl h) (fun i _ h => .inr h);go_ret;refine⟨rfl,⟨_,?_,?_,?_,hT4,⟨ne1,ne2,ne3,ne4,ne5,ne6⟩,HH.out.law.out s,HH.out.dd⟩,?_⟩
  · rw[hbx4,HOU.out]
    have e1:=HSA.out;have e2:=HSB.out;have e3:=HCS.out;have e4:((zw (zy A s):Nat):Int)=(sa:Int)-(c:Int):=by omega
    rw[e4,e2]
    rfl
  · exact HQ1.out.frame hall (fun k hk h=>by rcases h with e | e;exact ne2 (e ▸ hk);exact ne4 (e ▸ hk))
  · rw[HOU.out];exact(HH.out.q1.frame HM1.out (fun k hk h=>ne6 k h hk)).frame hall (fun k hk h=>by rcases h with e | e;exact ne3 (e ▸ hk);exact ne5 (e ▸ hk))
  · refine Mod.trans' HM1.out hall (fun i _ hi=>(HH.out.dd i).2 (.inr (.inr (.inl hi)))) (fun i _ hi=>(HH.out.dd i).2 (by rcases hi with e | e;exact .inl e;exact .inr (.inl e)))
theorem zcw(h:yG w D o l0 l1 bm lim D0 D1 Dm A B){x:Wt}(hx:x∈B) :
    Calls prog 123 #[lkP o,.int .u32 x.slot] w fun e w'=>e=.returned (.bool true)∧(∃ Dm',yG w' D o l0 l1 bm lim D0 D1 Dm' (zy A x.slot) (zy B x.slot))∧Mod D w w':=by
  have hxm:x∈A++B:=xF _ hx;have hs:=(h.law.rng x hxm).1;have hcc:=(h.law.rng x hxm).2;have HO:=za (KU h hs);rw[zhi hx]at HO;have HR:=za (zbl h.q1 (s:=x.slot) (zI.2 ⟨x,hx,rfl⟩));have hlw:=h.costs.look hxm (by omega);have HH:=za h;have hb:=h.box;have hsum:=h.law.sums;obtain⟨ne1,ne2,ne3,ne4,ne5,ne6⟩:=h.ne;have hou:zy A x.slot=A:=ZB (fun y hy e=>h.law.apart hy hx e);have hcs:=zai h.law.right hx;have hll:=Qw h.law.nd hxm;have her:=zbD h.law.right x.slot;have HX:=za hxm;have ob:o<w.heap.size:=zm h.box;have bb:bm<w.heap.size:=h.costs.own.lt;clear h hx hxm;rw[← her]at HR;obtain⟨s,c⟩:=x;dsimp only at *;obtain⟨sa,hsa⟩:=zf (zw A);obtain⟨sb,hsb⟩:=zf (zw B);rw[hsa,hsb]at hb hsum;rw[hsb]at hcs;have HSA:=za hsa;have HSB:=za hsb;have HCS:=za hcs;have HLL:=za hll;have ws:IntKind.i64.wrap ((sb:Int)-(c:Int))=(sb:Int)-(c:Int):=zt _ (by omega);have HOU:=za hou;clear hsa hsb hcs hll her hou;obtain⟨hb_0,hb_1,hb_2,hb_3,hb_4,hb_5,hb_f,hb_l,H_hb⟩:=cr6 hb;clear hb;go_enter func123,ntmps123;go_upto_region 6 with(first
    | (go_at_call 84;refine HO.out.mono ?_;rintro e w' ⟨rfl,rfl⟩)
    | (go_at_call 181;refine HR.out.mono ?_;rintro e w1 ⟨rfl,hq,hm⟩))
  have hb1:=hm.heap ne3 H_hb.out;have hcm:=HH.out.costs.mod hm ne5;have HM1:=za hm;have HQ1:=za hq;have HB1:=za hb1;have HC1:=za hcm;have sz1:w.heap.size≤w1.heap.size:=hm.size;clear hb_0 hb_1 hb_2 hb_3 hb_4 hb_5 hb_f hb_l;clear H_hb hm hq hcm;obtain⟨hb1_0,hb1_1,hb1_2,hb1_3,hb1_4,hb1_5,hb1_f,hb1_l,H_hb1⟩:=cr6 hb1;clear hb1
  go_still_tail 11,(by kernel_rfl)
  go_upto_region 7 with fail
  obtain⟨Y,hY⟩:=zf ((w1.setCell ⟨o,3,none⟩ (.int .i64 ((sb:Int)-(c:Int)))).drew);have hb2:(w1.setCell ⟨o,3,none⟩ (.int .i64 ((sb:Int)-(c:Int)))).drew.heap[o]? = _:=zX w1 o 3 _ _ (.int .i64 ((sb:Int)-(c:Int))) HB1.out;have hm2:Mod (fun k=>k=o) w1 (w1.setCell ⟨o,3,none⟩ (.int .i64 ((sb:Int)-(c:Int)))).drew:=((Mod.refl (fun k=>k=o) w1).setCell (p:=⟨o,3,none⟩) (fun _=>rfl) _).drew;rw[hY]at hb2 hm2 ⊢;have HC2:=za (HC1.out.mod hm2 (fun e=>ne1 e.symm));have HM2:=za hm2;have HB2:=za hb2;clear hb1_0 hb1_1 hb1_2 hb1_3 hb1_4 hb1_5 hb1_f hb1_l;clear H_hb1 hY hm2;simp only[List.setIfInBounds_toArray,List.set_cons_succ,List.set_cons_zero,Array.setIfInBounds]at hb2;obtain⟨hb2_0,hb2_1,hb2_2,hb2_3,hb2_4,hb2_5,hb2_f,hb2_l,H_hb2⟩:=cr6 hb2;clear hb2
  go_wp2_with (at_delete;refine Yw _ rfl _ _ 153 89 rfl 3 x9 underlying153 jr bm (A++B).length Dm rfl HC2.out.own (.int .u32 s) (kS s) rfl (uq (by omega)) ?_;intro w4 ho4 ht4;go_frame)
  have hm4:Mod (fun k=>k=bm) Y w4:=Mod.of_grown ht4.grown (fun k e _=>by cases e;rfl);have hT4:=HC2.out.del (x:=⟨s,c⟩) HX.out (M':=zy (A++B) s) (fun y=>jW) HLL.out.symm ho4;rw[qw]at hT4;have hbx4:=hm4.heap (fun e=>ne1 e) HB2.out;have hall:Mod (fun k=>k=o∨k=bm) w1 w4:=Mod.trans' HM2.out hm4 (fun i _ h => .inl h) (fun i _ h => .inr h);go_ret;refine⟨rfl,⟨_,?_,?_,?_,hT4,⟨ne1,ne2,ne3,ne4,ne5,ne6⟩,HH.out.law.out s,HH.out.dd⟩,?_⟩
  · rw[hbx4,HOU.out]
    have e1:=HSA.out;have e2:=HSB.out;have e3:=HCS.out;have e4:((zw (zy B s):Nat):Int)=(sb:Int)-(c:Int):=by omega
    rw[e4,e1]
    rfl
  · rw[HOU.out];exact(HH.out.q0.frame HM1.out (fun k hk h=>ne6 k hk h)).frame hall (fun k hk h=>by rcases h with e | e;exact ne2 (e ▸ hk);exact ne4 (e ▸ hk))
  · exact HQ1.out.frame hall (fun k hk h=>by rcases h with e | e;exact ne3 (e ▸ hk);exact ne5 (e ▸ hk))
  · refine Mod.trans' HM1.out hall (fun i _ hi=>(HH.out.dd i).2 (.inr (.inr (.inr hi)))) (fun i _ hi=>(HH.out.dd i).2 (by rcases hi with e | e;exact .inl e;exact .inr (.inl e)))
theorem zbE(h:yG w D o l0 l1 bm lim D0 D1 Dm A B){x:Wt}(hx:x∈A++B) :
  Calls prog 123 #[lkP o,.int .u32 x.slot] w fun e w'=>e=.returned (.bool true)∧(∃ Dm',yG w' D o l0 l1 bm lim D0 D1 Dm' (zy A x.slot) (zy B x.slot))∧Mod D w w':=by
 rcases yI.1 hx with h1 | h1
 ·exact zkb h h1
 ·exact zcw h h1
theorem zkx(h:yX w D o lim A B){x:Wt}(hx:x∈A++B) :
    Calls prog 76 #[lkP o,.int .u32 x.slot] w fun e w'=>e=.returned (.int .i64 0)∧yX w' D o lim (zy A x.slot) (zy B x.slot)∧Mod D w w':=by
  obtain⟨l0,l1,bm,D0,D1,Dm,h⟩:=h;have HC:=za (Jl h (h.law.rng x hx).1);have HT:=za (zbE h hx);clear h hx;go_enter func76,ntmps76
  go_wp2_with (first
    | (go_at_call 83;refine HC.out.mono ?_;rintro e w' ⟨rfl,rfl⟩)
    | (go_at_call 123;refine HT.out.mono ?_;rintro e w1 ⟨rfl,⟨Dm',h1⟩,hm⟩))
  go_ret;exact⟨rfl,⟨l0,l1,bm,D0,D1,Dm',h1⟩,hm⟩
theorem zk8(h:yX w D o lim A B){x:Wt}(hs:x.slot<4194304)(hc:x.cost≤1099511627776)(hn:x.slot∉zA (A++B)) :
    Calls prog 93 #[lkP o,.int .u32 x.slot,.int .i64 x.cost] w fun e w'=>e=.returned (.int .i64 0)∧(∃ D',yX w' D' o lim (A++[x]) B∧vO D D' w)∧Mod D w w':=by
  obtain⟨l0,l1,bm,D0,D1,Dm,h⟩:=h;have HC:=za (Ji h hs hc);have HP:=za (Kn h hs hc hn);have hlw:=h.costs.look_no (s:=x.slot) (by omega) (fun y hy e=>hn (zI.2 ⟨y,hy,e⟩));have hb:=h.box;clear h hn;generalize zw A=sa at *;generalize zw B=sb at *;obtain⟨hb_0,hb_1,hb_2,hb_3,hb_4,hb_5,hb_f,hb_l,H_hb⟩:=cr6 hb;clear hb;go_enter func93,ntmps93
  go_wp2_with (first
    | (go_at_call 83;refine HC.out.mono ?_;rintro e w' ⟨rfl,rfl⟩)
    | (go_at_call 139;refine HP.out.mono ?_;rintro e w1 ⟨rfl,⟨D',D0',Dm',h1,h2⟩,hm⟩))
  go_ret;exact⟨rfl,⟨D',⟨l0,l1,bm,D0',D1,Dm',h1⟩,h2⟩,hm⟩
end
def jz(lim:Int)(B:List Wt):Bool:=decide (0<B.length)&&(lim == -1||decide (lim<(zw B:Nat)))
def dem(lim:Int):List Wt→List Wt→List Wt × List Wt × List Nat
 | A,[]=>(A,[],[])
 | A,b::B=>if jz lim (b::B)then((dem lim (A++[b]) B).1,(dem lim (A++[b]) B).2.1,b.slot::(dem lim (A++[b]) B).2.2)else(A,b::B,[])
theorem Vj{lim:Int}{A B:List Wt}(h:jz lim B=false):dem lim A B=(A,B,[]):=by
 cases B with
 | nil=>rfl
 | cons b B=>unfold dem;rw[h];rfl
theorem Vo{lim:Int}{A B:List Wt}{b:Wt}(h:jz lim (b::B)=true):dem lim A (b::B)=((dem lim (A++[b]) B).1,(dem lim (A++[b]) B).2.1,b.slot::(dem lim (A++[b]) B).2.2):=by
 rw[dem,zj h]
section
variable{w w':World}{D S:Nat→Prop}{o l0 l1 bm:Nat}{lim:Int}{D0 D1:Nat→Prop}{Dm:DataW Unit}{A B:List Wt}
theorem Aztp1 {P:Prop}(h:P:=by
 refine hTk 25 ?_;refine hTk 26 ?_;refine hDn ?_;clear h_;go_wp2;go_ret;exact⟨rfl,(Mod.refl _ w).drew⟩):P:=h
theorem zhf(h:yG w D o l0 l1 bm lim D0 D1 Dm A B){b1:Nat}(hb1:w.heap[b1]? = some (.cells #[lkP o] 93 (0,0))) :
  Calls prog 192 #[.pointer (some ⟨b1,0,none⟩)] w fun e w'=>e=.returned (.bool (jz lim B))∧zb w w':=by
 have hlen:(zA B).length=B.length:=by unfold zA;simp
 have HL:=ziu (h.q1.pure ((Mod.refl _ w).drew:zb w w.drew));rw[hlen]at HL;have HLn:=za HL;have hb:=h.box;clear h HL hlen;unfold jz;generalize zw A=sa at *;generalize zw B=sb at *;generalize B.length=n at *;obtain⟨hb_0,hb_1,hb_2,hb_3,hb_4,hb_5,hb_f,hb_l,H_hb⟩:=cr6 hb;clear hb;obtain⟨hb1_0,hb1_f,hb1_l,H_hb1⟩:=cr1 hb1;clear hb1;have k1:w.drew.cell? ⟨b1,0,none⟩=some (lkP o):=hb1_0;have k2:w.drew.cell? ⟨o,1,none⟩=some (lkP l1):=hb_1;have k3:w.drew.cell? ⟨o,3,none⟩=some (.int .i64 sb):=hb_3;have k5:w.drew.cell? ⟨o,5,none⟩=some (.int .i64 lim):=hb_5;by_cases hn:n=0
 ·subst hn;have e0:(decide (0<0)&&(lim == -1||decide (lim<(sb:Int))))=false:=by simp
  rw[e0];go_enter func192,ntmps192;go_upto_region 1 with fail
  refine rHd (S:=fun u=>u=w.drew) rfl (fun h_ => ?_);refine hLd 0 ?_;refine hTk 1 ?_;refine hTk 2 ?_;refine hTk 3 ?_;refine hLd 4 ?_
  (refine hSt 5 (fun K hK => ?_);go_simp;refine HLn.out.mono ?_;rintro e w2 ⟨rfl,rfl⟩;refine hK.out _ _ ?_ (fun h_ => ?_);(· rfl);clear hK K;refine clA ?_)
  refine hTk 6 ?_;refine hTk 7 ?_;refine hSk 8 ?_;refine hSk 9 ?_;refine hSk 10 ?_;refine hSk 11 ?_;refine hSk 12 ?_;refine hSk 13 ?_;refine hSk 14 ?_;refine hSk 15 ?_;refine hSk 16 ?_;refine hSk 17 ?_;refine hSk 18 ?_;refine hSk 19 ?_;refine hSk 20 ?_;refine hSk 21 ?_;refine hSk 22 ?_;refine hSk 23 ?_;refine hSk 24 ?_;exact Aztp1
 ·have d0:decide ((0:Int)<(n:Int))=true:=zQ (by omega);have d1:decide (0<n)=true:=zQ (by omega);rw[d1];by_cases hl:lim = -1
  ·subst hl;have e0:(true&&(((-1:Int) == -1)||decide ((-1:Int)<(sb:Int))))=true:=by simp
   rw[e0];go_enter func192,ntmps192;go_upto_region 1 with fail
   refine rHd (S:=fun u=>u=w.drew) rfl (fun h_ => ?_);refine hLd 0 ?_;refine hTk 1 ?_;refine hTk 2 ?_;refine hTk 3 ?_;refine hLd 4 ?_
   (refine hSt 5 (fun K hK => ?_);go_simp;refine HLn.out.mono ?_;rintro e w2 ⟨rfl,rfl⟩;refine hK.out _ _ ?_ (fun h_ => ?_);(· rfl);clear hK K;refine clA ?_)
   refine hTk 6 ?_;refine hTk 7 ?_;refine hLd 8 ?_;refine hTk 9 ?_;refine hTk 10 ?_;refine hLd 11 ?_;refine hTk 12 ?_;refine hTk 13 ?_;refine hSk 14 ?_;refine hSk 15 ?_;refine hSk 16 ?_;refine hSk 17 ?_;refine hSk 18 ?_;refine hSk 19 ?_;refine hSk 20 ?_;refine hSk 21 ?_;refine hSk 22 ?_;refine hSk 23 ?_;refine hTk 24 ?_;exact Aztp1
  ·have e1:(lim == -1)=false:=by simpa using hl
   have e0:(true&&((lim == -1)||decide (lim<(sb:Int))))=decide (lim<(sb:Int)):=by rw[e1];rfl
   rw[e0];go_enter func192,ntmps192;go_upto_region 1 with fail
   refine rHd (S:=fun u=>u=w.drew) rfl (fun h_ => ?_);refine hLd 0 ?_;refine hTk 1 ?_;refine hTk 2 ?_;refine hTk 3 ?_;refine hLd 4 ?_
   (refine hSt 5 (fun K hK => ?_);go_simp;refine HLn.out.mono ?_;rintro e w2 ⟨rfl,rfl⟩;refine hK.out _ _ ?_ (fun h_ => ?_);(· rfl);clear hK K;refine clA ?_)
   refine hTk 6 ?_;refine hTk 7 ?_;refine hLd 8 ?_;refine hTk 9 ?_;refine hTk 10 ?_;refine hLd 11 ?_;refine hTk 12 ?_;refine hTk 13 ?_;refine hLd 14 ?_;refine hTk 15 ?_;refine hTk 16 ?_;refine hTk 17 ?_;refine hLd 18 ?_;refine hLd 19 ?_;refine hTk 20 ?_;refine hTk 21 ?_;refine hLd 22 ?_;refine hTk 23 ?_;refine hTk 24 ?_;exact Aztp1
end
section
variable{w w':World}{D S:Nat→Prop}{o l0 l1 bm:Nat}{lim:Int}{D0 D1:Nat→Prop}{Dm:DataW Unit}{A B:List Wt}
theorem vO.trans'{D D' D'':Nat→Prop}{a b:World}(h:vO D D' a)(k:vO D' D'' b)(hs:a.heap.size≤b.heap.size):vO D D'' a:=fun i hi=>by
 rcases k i hi with e | e
 ·exact h i e
 ·exact .inr (zF hs e)
structure DmI(w wr:World)(D:Nat→Prop)(o l0 l1 bm b1:Nat)(lim:Int)(A B:List Wt)(a:Option Addr)(c:Nat)(A1 B1:List Wt)(g1:List Nat):Prop where
 mem : ∃ D' D0' D1' Dm',yG wr D' o l0 l1 bm lim D0' D1' Dm' A1 B1∧vO D D' w ∧ ∀ g,(Value.slice a g1.length c).ownBlock=some g → ¬ D' g∧w.heap.size≤g
 row:yu wr a c g1
 box:wr.heap[b1]? = some (.cells #[lkP o] 93 (0,0))
 eqn:dem lim A B=((dem lim A1 B1).1,(dem lim A1 B1).2.1,g1++(dem lim A1 B1).2.2)
 mod:Mod D w wr
def VE(w:World)(D:Nat→Prop)(o:Nat)(lim:Int)(R:List Wt × List Wt × List Nat)(v:Value)(w':World):Prop :=
 ∃ a c,v=.slice a R.2.2.length c∧yu w' a c R.2.2∧(∃ D',yX w' D' o lim R.1 R.2.1∧vO D D' w ∧ ∀ g,(Value.slice a R.2.2.length c).ownBlock=some g → ¬ D' g∧w.heap.size≤g)∧Mod D w w'
theorem zdF(h:yG w D o l0 l1 bm lim D0 D1 Dm A B) :
  Calls prog 140 #[lkP o] w fun e w' => ∃ v,e=.returned v∧VE w D o lim (dem lim A B) v w':=by
 have hal:zb w (w.alloc (.cells #[lkP o] 93)):=(Mod.refl _ w).alloc _;have hb1:=zk (w:=w) (o := .cells #[lkP o] 93 (0,0)) rfl;have HH:=za (h.pure hal);have HAL:=za hal;have HLT:=za (fun k (hk:D k)=>h.lt hk);have HB1:=za hb1;have hlen:=h.law.len;rw[zT]at hlen;clear h hal hb1;go_enter func140,ntmps140;go_upto_region 3 with fail
 generalize w.alloc (.cells #[lkP o] 93)=W1 at *;obtain⟨b1,hb1⟩:=zf w.heap.size;rw[hb1]at HB1 ⊢;have HE1:=za hb1;have hb1l:b1<W1.heap.size:=zm HB1.out;have hs1:w.heap.size≤W1.heap.size:=HAL.out.size;clear hb1;obtain⟨i0,hi,iz0,iz1,iz2⟩:=xB qt;go_loopw [4] (fun v wr => ∃(a:Option Addr) (c:Nat) (A1 B1:List Wt) (g1:List Nat),v=.slice a g1.length c∧DmI W1 wr D o l0 l1 bm b1 lim A B a c A1 B1 g1∧B1.length+g1.length=B.length) (fun v _=>B.length-(match v with | .slice _ n _=>n | _=>0))
 case atStart=>exact⟨none,0,A,B,[],rfl,⟨⟨D,D0,D1,Dm,HH.out,fun k hk => .inl hk,fun g hg=>by cases hg⟩,vV _ _ _ _,HB1.out,by simp,Mod.refl _ _⟩,by simp⟩
 case round =>
  obtain⟨a,c,A1,B1,g1,rfl,hI,hBl⟩:=hrel;obtain⟨D',D0',D1',Dm',hm1,hg1,hof1⟩:=hI.mem;have HI:=za hI;have HM1:=za hm1;have HG1:=za hg1;have HOF:=za hof1;have HN:=za (zhf hm1 hI.box);have nb1 : ¬ D' b1:=fun hk=>by
   rcases hg1 b1 hk with e | e
   ·have:=HLT.out b1 e;have:=HE1.out;omega
   ·omega
  have HNB:=za nb1;have szr:W1.heap.size≤wr.heap.size:=hI.mod.size;clear hI hm1 hg1 hof1 nb1
  cases hnd:jz lim B1 with
  | false =>
   rw[hnd]at HN;have HND:=za hnd;clear hnd
   go_wp2_with (go_at_call 192;refine HN.out.mono ?_;rintro e w2 ⟨rfl,hp2⟩)
   go_ret;have heq:=HI.out.eqn;rw[Vj HND.out]at heq;simp only[List.append_nil]at heq;refine⟨_,rfl,?_⟩;rw[heq];exact⟨a,c,rfl,zz HI.out.row hp2 (fun _ _ h=>h),⟨D',⟨l0,l1,bm,D0',D1',Dm',HM1.out.pure hp2⟩,fun k hk=>(HG1.out k hk).imp id (fun e=>zF hs1 e),fun g hg=>⟨(HOF.out g hg).1,zF hs1 (HOF.out g hg).2⟩⟩,(HAL.out.trans' HI.out.mod (fun _ _ h=>h.elim) (fun _ _ h=>h)).trans (Mod.of_pure hp2)⟩
  | true =>
   rw[hnd]at HN
   cases B1 with
   | nil=>cases hnd
   | cons x B2 =>
    have HND:=za hnd;clear hnd;have hx:x∈A1++(x::B2):=by simp
    have hxr:=HM1.out.law.rng x hx;have HX:=za hx;have hnd2:=HM1.out.law.right;have hno : ∀ y∈B2,y.slot≠x.slot:=fun y hy e=>(yZ.1 (show(x.slot::zA B2).Nodup from hnd2)).1 (zI.2 ⟨y,hy,e⟩)
    have hoA:zy A1 x.slot=A1:=ZB (fun y hy e=>HM1.out.law.apart hy (yD) e);have hoB:zy (x::B2) x.slot=B2:=by
     unfold zy;rw[List.filter_cons_of_neg (by simp)];exact ZB hno
    have HOA:=za hoA;have HOB:=za hoB;have HNO:=za hno;clear hx hnd2 hno hoA hoB;obtain⟨m,hm⟩:=zf g1.length;have hm4:m≤4194304:=by rw[← hm];omega
    have HMm:=za hm;simp only[hm]at hBl ⊢;have HBl:=za hBl;clear hm hBl
    -- needed, Oldest
    have hob:=HM1.out.box;have HOl:=za (fun W (hW:zb wr W)=>zki (x:=x.slot) (l:=zA B2) (HM1.out.q1.pure hW));have hlk:=fun W (hW:zb wr W)=>((HM1.out.costs.mod hW (fun h=>h))).look1 HX.out (by omega)
    have HLk:=za hlk;clear hlk;go_upto_region 4 with(go_at_call 192;refine HN.out.mono ?_;rintro e w2 ⟨rfl,hp2⟩)
    have hob2:=hp2.heap (fun h=>h) hob;have hbx2:=hp2.heap (fun h=>h) HI.out.box;have HP2:=za hp2;clear hp2 hob;generalize zw A1=sa at *;generalize zw (x::B2)=sb at *;have HO2:=za hob2;have HX2:=za hbx2;obtain⟨hob2_0,hob2_1,hob2_2,hob2_3,hob2_4,hob2_5,hob2_f,hob2_l,H_hob2⟩:=cr6 hob2;clear hob2;obtain⟨hbx2_0,hbx2_f,hbx2_l,H_hbx2⟩:=cr1 hbx2;clear hbx2;go_upto_region 5 with(go_at_call 194;refine(HOl.out _ HP2.out).mono ?_;rintro e w3 ⟨rfl,hp3⟩)
    have hp23:=HP2.out.trans hp3;have hob3:=hp3.heap (fun h=>h) HO2.out;have hbx3:=hp3.heap (fun h=>h) HX2.out;have HO3:=za hob3;have HX3:=za hbx3;have hlw:=HLk.out w3 hp23;have HT:=za (zcw (HM1.out.pure hp23) (x:=x) yD);have HP3:=za hp23;clear hob2_0 hob2_1 hob2_2 hob2_3 hob2_4 hob2_5 hob2_f hob2_l;clear hbx2_0 hbx2_f hbx2_l;clear H_hob2 H_hbx2 hp3 hp23;obtain⟨hob3_0,hob3_1,hob3_2,hob3_3,hob3_4,hob3_5,hob3_f,hob3_l,H_hob3⟩:=cr6 hob3;clear hob3;obtain⟨hbx3_0,hbx3_f,hbx3_l,H_hbx3⟩:=cr1 hbx3;clear hbx3;go_upto_region 7 with(go_at_call 123;refine HT.out.mono ?_;rintro e w4 ⟨rfl,⟨Dm4,h4⟩,hm4'⟩)
    rw[HOA.out,HOB.out]at h4;have hbx4:=hm4'.heap HNB.out HX3.out;have hns:x.slot∉zA (A1++B2):=by
     intro hh;obtain⟨y,hy,e⟩:=zI.1 hh;rcases yI.1 hy with hy | hy
     ·exact HM1.out.law.apart hy (yD) e
     ·exact HNO.out y hy e
    have HPu:=za (Kn h4 hxr.1 hxr.2 hns);have HM4:=za hm4';clear hob3_0 hob3_1 hob3_2 hob3_3 hob3_4 hob3_5 hob3_f hob3_l;clear hbx3_0 hbx3_f hbx3_l;clear H_hob3 H_hbx3 h4 hm4' hlw hns;obtain⟨hbx4_0,hbx4_f,hbx4_l,H_hbx4⟩:=cr1 hbx4;clear hbx4;go_upto_region 8 with(go_at_call 139;refine HPu.out.mono ?_;rintro e w5 ⟨rfl,⟨D5,D05,Dm5,h5,hg5⟩,hm5⟩)
    have sz34:w3.heap.size≤w4.heap.size:=HM4.out.size;have sz3:wr.heap.size≤w3.heap.size:=HP3.out.size;have sz5:w4.heap.size≤w5.heap.size:=hm5.size;have hmr5:Mod D' wr w5:=((Mod.of_pure HP3.out).trans HM4.out).trans hm5;have hg5':vO D' D5 wr:=fun k hk=>(hg5 k hk).imp id (fun e=>by omega)
    have hrow5:w5.ownsRow 0 89 1 (.slice a m c) m (zY g1):=by
     have:=HI.out.row;unfold yu at this;rw[HMm.out]at this;exact zz this hmr5 (fun g hg hk=>(HOF.out g (by rw[HMm.out];exact hg)).1 hk)
    have hbx5:=hm5.heap HNB.out H_hbx4.out;have HR5:=za hrow5;have HM5:=za hmr5;have HG5:=za hg5';have H5:=za h5;have HX5:=za hbx5;clear hbx4_0 hbx4_f hbx4_l;clear H_hbx4 hm5 hmr5 hg5 hg5' hrow5 hbx5 h5
    go_wp2_with (at_builtin;refine uX _ rfl _ _ 157 rfl 89 i0 _ 1 4 underlying157 hi iz0 iz1 iz2 rfl (by decide) (.slice a m c) m _ rfl (zz HR5.out ((Mod.refl (fun _=>False) w5).alloc _) (fun _ _ h=>h)) _ [.int .u32 (x.slot:Nat)] 1 rfl (zr.of_block 1 1 1 (zk rfl) (by rfl) (by simp[Value.oneCell'])) rfl (by unfold maxLen;omega) (by omega) ?_;intro a7 c7 w7 hr7 hg7 hb7)
    go_roundw
    case rel =>
     have hp57:Mod (fun k=>(Value.slice a m c).ownBlock=some k) w5 w7:=((Mod.refl _ w5).alloc _).trans (Mod.of_grown (S:=fun k'=>(Value.slice a m c).ownBlock=some k') hg7 (fun k e _=>e));have hsl : ∀ g,(Value.slice a m c).ownBlock=some g → ¬ D' g∧W1.heap.size≤g:=fun g hg=>HOF.out g (by rw[HMm.out];exact hg)
     have hslw : ∀ g,(Value.slice a m c).ownBlock=some g→g<wr.heap.size:=fun g hg=>by
      have:=HI.out.row;unfold yu at this;rw[HMm.out]at this;exact xV this hg
     have n5 : ∀ k,D5 k → ¬ (Value.slice a m c).ownBlock=some k:=fun k hk e=>by
      rcases HG5.out k hk with e2 | e2
      ·exact(hsl k e).1 e2
      ·have:=hslw k e;omega
     refine⟨a7,c7,A1++[x],B2,g1++[x.slot],by simp[HMm.out],⟨⟨D5,D05,D1',Dm5,H5.out.frame hp57 n5,HG1.out.trans' HG5.out szr,fun g hg => ?_⟩,?_,?_,?_,?_⟩,?_⟩
     ·rw[zT,HMm.out]at hg;rcases hb7 with e | e
      ·have hg':(Value.slice a m c).ownBlock=some g:=by rw[← e];exact hg
       exact⟨fun hk=>n5 g hk hg',(hsl g hg').2⟩
      ·have hg':g=(w5.alloc (.cells #[.int .u32 (x.slot:Nat)] 89)).heap.size:=by rw[show(Value.slice a7 (m+1) c7).ownBlock=some g from hg]at e;injection e
       refine⟨fun hk => ?_,?_⟩
       ·have:=H5.out.lt hk;simp at hg';omega
       ·simp at hg';omega
     ·unfold yu;rw[zT,HMm.out,qz];exact hr7
     ·exact hp57.heap (fun e=>by have:=(hsl b1 e).2;omega) HX5.out
     ·have:=HI.out.eqn;rw[Vo HND.out]at this;rw[this];simp
     ·refine(HI.out.mod.then HM5.out ?_).then hp57 ?_
      ·intro i hi hk;rcases HG1.out i hk with e | e
       ·exact e
       ·omega
      ·intro i hi hk;exact absurd (hsl i hk).2 (by omega)
     ·have:=HBl.out;simp at this;simp[HMm.out];omega
    case measure=>have:=HBl.out;simp at this;simp;omega
def xu(lim:Int)(A B:List Wt)(x:Wt):List Wt × List Wt × List Nat :=
 if lim = -1 then dem lim (zy A x.slot++[x]) (zy B x.slot)else dem lim (zy A x.slot) (zy B x.slot++[x])
theorem Azr1e {P:Prop}(h:P:=by
 go_wp2_with (first
   | (go_at_call 139;refine HP.out.mono ?_;rintro e w2 ⟨rfl,⟨D2,D02,Dm2,h2,hg2⟩,hm2⟩;have HD:=za (zdF h2))
   | (go_at_call 140;refine HD.out.mono ?_;rintro e w3 ⟨v,rfl,hpost⟩))
 go_ret2;rw[HR2.out]at hpost;exact⟨v,rfl,FIN.out _ _ _ _ _ hg2 hm2 hpost⟩):P:=h
theorem zhI(h:yX w D o lim A B){x y:Wt}(hx:x∈A++B)(hy:y.slot=x.slot)(hc:y.cost≤1099511627776) :
    Calls prog 85 #[lkP o,.int .u32 x.slot,.int .i64 y.cost] w fun e w' => ∃ v,e=.returned (.tuple #[v,.int .i64 0])∧VE w D o lim (xu lim A B y) v w':=by
  obtain⟨l0,l1,bm,D0,D1,Dm,h⟩:=h;have hs:=(h.law.rng x hx).1;have HC:=za (Ji h hs hc);have HT:=za (zbE h hx);have hns:y.slot∉zA (zy A y.slot++zy B y.slot):=by
    intro e;obtain⟨z,hz,e2⟩:=zI.1 e;rw[← qw]at hz;exact(jW.1 hz).2 e2
  have HNS:=za hns;obtain⟨s,c0⟩:=x;obtain⟨s2,c⟩:=y;dsimp only at *;subst hy;clear h hx hns;obtain⟨R,hR⟩:=zf (xu lim A B ⟨s2,c⟩);rw[hR];unfold xu at hR;dsimp only at hR;have HR:=za hR;clear hR;go_enter func85,ntmps85;go_upto_region 7 with(first
    | (go_at_call 83;refine HC.out.mono ?_;rintro e w' ⟨rfl,rfl⟩)
    | (go_at_call 123;refine HT.out.mono ?_;rintro e w1 ⟨rfl,⟨Dm1,h1⟩,hm⟩))
  have hb:=h1.box;have H1:=za h1;have HM:=za hm;clear h1 hm HT HC;generalize zw (zy A s2)=sa at *;generalize zw (zy B s2)=sb at *;have fin : ∀(w2 w3:World) (D2:Nat→Prop) (R:List Wt × List Wt × List Nat) (v:Value),vO D D2 w1→Mod D w1 w2→VE w2 D2 o lim R v w3→VE w D o lim R v w3:=by
    rintro w2 w3 D2 R v hg hm2 ⟨a,cc,rfl,hr,⟨D3,h3,hg3,hf3⟩,hm3⟩;have s1:=HM.out.size;have s2:=hm2.size;refine⟨a,cc,rfl,hr,⟨D3,h3,fun k hk => ?_,fun g hk=>⟨(hf3 g hk).1,by have:=(hf3 g hk).2;omega⟩⟩,(HM.out.trans hm2).then hm3 (fun i hi hk => ?_)⟩
    · rcases hg3 k hk with e | e
      · rcases hg k e with e | e
        · exact .inl e
        · exact .inr (by omega)
      · exact .inr (by omega)
    · rcases hg i hk with e | e
      · exact e
      · omega
  have FIN:=za fin;clear fin;obtain⟨hb_0,hb_1,hb_2,hb_3,hb_4,hb_5,hb_f,hb_l,H_hb⟩:=cr6 hb;clear hb;by_cases hl:lim = -1
  · subst hl
    have hR:=HR.out;rw[zj rfl]at hR;have HR2:=za hR;clear hR;have HP:=za (Kn (x:=⟨s2,c⟩) H1.out hs hc HNS.out);exact Azr1e
  · have hl1:(lim == -1)=false:=by simpa using hl
    have hR:=HR.out;rw[zh hl]at hR;have HR2:=za hR;clear hR;have HP:=za (zh0 (x:=⟨s2,c⟩) H1.out hs hc HNS.out);exact Azr1e
end
end
end Go.Proofs.YtifbnponicgplaaGreatDoor
