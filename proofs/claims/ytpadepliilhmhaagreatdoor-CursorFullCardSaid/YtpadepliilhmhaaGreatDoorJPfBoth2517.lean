/- Lemmas and contracts of functions. No condition. -/
import Derived.Test.YtpadepliilhmhaaGreatDoorJPfBoth2516
namespace Go.Proofs.YtpadepliilhmhaaGreatDoor
open _root_.Go.Proofs.Tryz
set_option maxRecDepth 100000
set_option maxHeartbeats 20000000
set_option linter.all false
section
open Go.RowKit Go.Shelf
section
variable{Fo X S:Nat→Prop}{w w':World}{b:CaB}{s:CaS}
theorem zu.beside(h:zu Fo w b s)(hm:Mod S w w')(hd : ∀ k,b.D k → ¬ S k)(hS : ∀ k,k<w.heap.size→S k→Fo k ∨ ∀ cs fz,w.heap[k]? ≠ some (.cells cs 5 fz))(h0 : ¬ S 0):zu Fo w' b s :=
 ⟨hm.heap (hd _ (.inl rfl)) h.box,h.dict.frameF hm (fun k hk=>hd k (.inr (.inl hk))) (fun k hk hs=>(hS k hk hs).imp .inl (fun e=>e)),hm.heap (hd _ (.inr (.inr (.inl rfl)))) h.ctr,h.order.frame hm (fun k hk=>hd k (.inr (.inr (.inr (.inl hk))))),h.used.frame hm (hd _ (.inr (.inr (.inr (.inr (.inl rfl)))))),h.due.frame hm (fun k hk=>hd k (.inr (.inr (.inr (.inr (.inr (.inl hk))))))),
  (by obtain⟨k0,k1,k2,k3,k4,k5,h1⟩:=h.ev;exact⟨k0,k1,k2,k3,k4,k5,h1.frameF hm (fun k hk=>hd k (.inr (.inr (.inr (.inr (.inr (.inr hk))))))) (fun k hk hs=>(hS k hk hs).imp .inl (fun e=>e))⟩),h.evs,h.sep,h.tab.mod hm h0⟩
theorem zgM(w:World):Calls prog 77 #[] w fun e w'=>e=.returned (.int .u32 4294967295)∧w=w':=by
 go_enter func77,ntmps77;go_wp2;go_ret;exact⟨rfl,rfl⟩
structure FdC(w:World)(p:Nat)(key:ByteArray)(f:Value)(q0:Nat)(i:Bool):Prop where
 z0:w.heap[q0]? = some (.cells #[lkP p] 23 (0,0))
 z1:w.heap[q0+1]? = some (.cells #[.string key] 9 (0,0))
 z2:w.heap[q0+2]? = some (.cells #[f] 164 (0,0))
 z3:w.heap[q0+3]? = some (.cells #[.bool i] 4 (0,0))
def FdS(p d q0:Nat)(key:ByteArray)(Y:World):Prop:=Y.cell? ⟨q0,0,none⟩=some (lkP p)∧Y.cell? ⟨p,0,none⟩=some (yV d)∧Y.cell? ⟨q0+1,0,none⟩=some (.string key)
abbrev fdA(q0:Nat):Array Value:=#[.pointer (some ⟨q0,0,none⟩),.pointer (some ⟨q0+1,0,none⟩),.pointer (some ⟨q0+3,0,none⟩),.pointer (some ⟨q0+2,0,none⟩)]
end
def yN:Nat:=4294967295
section
variable{Fo X S:Nat→Prop}{w w':World}{b:CaB}{s:CaS}
theorem FdC.mod{p q0:Nat}{key:ByteArray}{f:Value}{i:Bool}(h:FdC w p key f q0 i)(hm:Mod S w w')(hS : ∀ j,j≤3 → ¬ S (q0+j)):FdC w' p key f q0 i :=
 ⟨hm.heap (hS 0 (by omega)) h.z0,hm.heap (hS 1 (by omega)) h.z1,hm.heap (hS 2 (by omega)) h.z2,hm.heap (hS 3 (by omega)) h.z3⟩
def zls(Fo:Nat→Prop)(w:World)(b:CaB)(s':CaS)(e:Ending)(w':World):Prop:=e=.returned (.bool false) ∧ ∃ b',zu Fo w' b' s'∧zx w w' b b'
def QZ(Fo X:Nat→Prop)(w W:World)(b1:CaB)(Q:CaS→World→Prop)(e:Ending)(w':World):Prop :=
 e=.returned (.tuple #[]) ∧ ∃(s2:CaS) (b2:CaB) (R:World→Prop),zu Fo w' b2 s2∧uk X W w' b1 b2∧kR s2 yN∧R w'∧(∀ W1 W2 (S:Nat→Prop),R W1→Mod S W1 W2→(∀ k,S k→b2.D k∨w'.heap.size≤k∨(w.heap.size≤k∧k<W.heap.size))→R W2) ∧ ∀ Y,R Y→Q s2 Y
theorem QZ.plain{W:World}{b1 b2:CaB}{Q:CaS→World→Prop}{s2:CaS}(hC:zu Fo w' b2 s2)(hT:uk X W w' b1 b2)(hR:kR s2 yN)(hQ : ∀ Y,Q s2 Y):QZ Fo X w W b1 Q (.returned (.tuple #[])) w' :=
 ⟨rfl,s2,b2,fun _=>True,hC,hT,hR,trivial,fun _ _ _ _ _ _=>trivial,fun Y _=>hQ Y⟩
def zk7(Fo X:Nat→Prop)(w:World)(b:CaB)(Q:CaS→World→Prop)(e:Ending)(w':World):Prop :=
 e=.returned (.bool true) ∧ ∃ s2 b',zu Fo w' b' (pkS (evS s2 yN))∧uk X w w' b b'∧Q s2 w'
end
section
variable{Fo:Nat→Prop}{w w':World}{b:CaB}{s:CaS}
theorem zf9(h:zu Fo w b s):Calls prog 21 #[lkP b.p] w fun e w'=>e=.returned (.int .u64 s.now)∧w=w':=by
  have HN:=za (YC h);have HD:=za (h.due.nowOk);have hb:=h.box;clear h;obtain⟨hb_0,hb_1,hb_2,hb_3,hb_4,hb_5,hb_6,hb_7,hb_8,hb_9,hb_10,hb_f,hb_l,H_hb⟩:=xz hb;clear hb;go_enter func21,ntmps21
  go_wp2_with (first
    | (go_at_call 35;refine HN.out.mono ?_;rintro e w' ⟨rfl,rfl⟩)
    | (go_at_call 38;refine HD.out.mono ?_;rintro e w' ⟨rfl,rfl⟩))
  go_ret;exact⟨rfl,rfl⟩
theorem zij(h:zu Fo w b s):Calls prog 82 #[lkP b.p] w fun e w'=>e=.returned (.int .u64 s.births)∧w=w':=by
  have HN:=za (YC h);have HD:=za (zak h.ctr);have hb:=h.box;clear h;obtain⟨hb_0,hb_1,hb_2,hb_3,hb_4,hb_5,hb_6,hb_7,hb_8,hb_9,hb_10,hb_f,hb_l,H_hb⟩:=xz hb;clear hb;go_enter func82,ntmps82
  go_wp2_with (first
    | (go_at_call 35;refine HN.out.mono ?_;rintro e w' ⟨rfl,rfl⟩)
    | (go_at_call 51;refine HD.out.mono ?_;rintro e w' ⟨rfl,rfl⟩))
  go_ret;exact⟨rfl,rfl⟩
def vi:List Int→Int
 | []=>0
 | e::l=>if e=0 then vi l else e
theorem zgp(r:Bool)(e0:Int)(w:World):Calls prog 50 #[.bool r,.int .i64 e0] w fun e w'=>e=.returned (.int .i64 (if r=true then 0 else e0))∧w=w':=by
 cases r
 all_goals
  go_enter func50,ntmps50;go_wp2;go_ret;exact⟨rfl,rfl⟩
end
def jT(l:List Int):List Value:=l.map (fun e=>(.int .i64 e:Value))
theorem zdq(l:List Int) : ∀ u∈jT l,u.oneCell'=true:=fun u hu=>by obtain⟨q,_,rfl⟩:=zD.1 hu;rfl
theorem VZ : ∀ {l:List Int} {k:Nat},(∀ i e,i<k→l[i]? = some e→e=0)→vi l=vi (l.drop k)
 | l,0,_=>rfl
 | [],k+1,_=>rfl
 | e::l,k+1,h=>by
  have h0:e=0:=h 0 e (by omega) rfl;subst h0
  show vi l=vi (l.drop k)
  exact VZ (fun i e hi he=>h (i+1) e (by omega) (by simpa using he))
section
variable{Fo:Nat→Prop}{w w':World}{b:CaB}{s:CaS}
theorem zi9{a:Option Addr}{n c:Nat}{l:List Int}(h:zn w (.slice a n c) 1 (jT l))(hn:l.length=n)(hl:n≤1000):Calls prog 89 #[.slice a n c] w fun e w'=>e=.returned (.int .i64 (vi l))∧w=w':=by
 have HR:=za h;have HN:=za hn;clear h hn;go_enter func89,ntmps89;go_upto_region 2 with fail
 go_loopw [7] (fun v7 wr => ∃ j:Nat,v7=.int .i64 (j:Nat)∧j≤n∧w=wr ∧ ∀ i e,i<j→l[i]? = some e→e=0) (fun v7 _=>n-(intOf v7).toNat)
 case atStart=>exact⟨0,rfl,yk _,rfl,fun i e h=>by omega⟩
 case round =>
  obtain⟨j,rfl,hj,rfl,hno⟩:=hrel;have HNO:=za hno;clear hno;by_cases hlt:j<n
  ·have hlt':(j:Int)<(n:Int):=by omega
   have j0:(0:Int)≤(j:Int):=by omega
   have wj:IntKind.i64.wrap ((j:Int)+1)=(j:Int)+1:=zo _ (by omega);obtain⟨x,hx⟩ : ∃ x,l[j]? = some x:=⟨_,zQ (by rw[HN.out];exact hlt)⟩;obtain⟨ad,had,z0⟩ : ∃ ad,a=some ad∧w.cell? (ad.add j)=some (.int .i64 x):=by
    obtain⟨a',n',c',e,hl',_,h0,hc⟩:=HR.out;injection e with e1 e2 e3
    subst e1 e2 e3;have hu:(jT l)[j]? = some (.int .i64 x):=by unfold jT;rw[yu,hx];rfl
    cases a with
    | none=>have:=h0 rfl;omega
    | some ad=>exact⟨ad,rfl,hc ad rfl _ _ hu⟩
   subst had;have HX:=za hx;have hdr:vi l=vi (l.drop j):=VZ HNO.out;have hdr2:l.drop j=x::l.drop (j+1):=by
    obtain⟨g1,g2⟩:=zC.1 hx;rw[ja g1,g2]
   rw[hdr2]at hdr;clear hx hdr2;by_cases h0:x=0
   ·subst h0;clear hdr;go_wp2;go_roundw
    case rel=>exact⟨j+1,by first | rfl | simp,hlt,by first | rfl | trivial,fun i e hi he=>by
     by_cases c:i=j
     ·subst c;rw[HX.out]at he;injection he with he;exact he.symm
     ·exact HNO.out i e (by omega) he⟩
    case measure=>simp[intOf];omega
   ·have h0':(x==0)=false:=kr.2 h0;have h0'':(x != 0)=true:=by simpa using h0
    have hdr3:vi l=x:=by rw[hdr];unfold vi;rw[zf h0]
    have HD:=za hdr3;clear hdr hdr3 h0;go_wp2;go_ret;exact⟨by rw[HD.out];rfl,rfl⟩
  ·have hlt' : ¬ (j:Int)<(n:Int):=by omega
   obtain rfl:j=n:=by omega
   have HD:Hid (vi l=0):=za (by rw[VZ HNO.out,ZK (by rw[HN.out];exact zH _)];rfl);go_wp2;go_ret;exact⟨by rw[HD.out];rfl,rfl⟩
def ub(s:CaS):Int:=if 1048576<s.evs.length+zV (zF s.L)then 7 else 0
theorem zfk:(prog.info? 31).map (fun i=>(i.zero,i.size,i.bytes))=some (some (.int .i64 0),1,8):=by kernel_rfl
def CkS(p v d:Nat)(Y:World):Prop:=Y.cell? ⟨p,5,none⟩=some (lkP v)∧Y.cell? ⟨p,0,none⟩=some (yV d)
theorem UZ(h:zu Fo w b s){a:Option Addr}{n c:Nat}{l:List Int}(ho:w.ownsRow 0 31 1 (.slice a n c) n (jT l))(hn:l.length=n)(hl:n≤100)(hev:s.evs.length≤1048576) :
    Calls prog 49 #[lkP b.p,.slice a n c] w fun e w'=>e=.returned (.int .i64 (vi (l++[ub s])))∧Mod (fun k=>(Value.slice a n c).ownBlock=some k) w w':=by
  have HN:=za (YC h);have HL:=za (fun(Y:World) (hY:zb w Y)=>UJ (h.pure hY).dict);have hevl:b.ns.length=s.evs.length:=by have:=congrArg List.length h.evs;unfold Yi at this;rw[yB]at this;exact this
  have HE:Hid (∀ Y,zb w Y→Calls prog 87 #[lkP b.v] Y fun e w'=>e=.returned (.int .i64 s.evs.length)∧Y=w'):=za (fun Y hY=>by
    obtain⟨k0,k1,k2,k3,k4,k5,h1⟩:=(h.pure hY).ev;rw[← hevl];exact zdu h1)
  have hlv:zV (zF s.L)≤4194304:=by
    have h1:=Jj (zF s.L);have h2:=h.dict.ok.len;omega
  have HS:=za (fun(Y:World) (hY:zb w Y)=>(⟨zj Y b.p 5 _ _ (0,0) (hY.heap (fun h=>h) h.box),zj Y b.p 0 _ _ (0,0) (hY.heap (fun h=>h) h.box)⟩:CkS b.p b.v b.d Y));obtain⟨i0,hi,iz0,iz1,iz2⟩:=xy zfk;have HO:=za ho;have HNn:=za hn;obtain⟨room,hroom⟩:=zc (ub s);rw[hroom];unfold ub at hroom;obtain⟨ne,hne⟩:=zc s.evs.length;obtain⟨nl,hnl⟩:=zc (zV (zF s.L));simp only[hne]at HE;simp only[hnl]at HL;rw[hne,hnl]at hroom;rw[hne]at hev;rw[hnl]at hlv;have wsum:IntKind.i64.wrap ((ne:Int)+(nl:Int))=(ne:Int)+(nl:Int):=zo _ (by omega);have HF:=za (fun(Y:World) (a7:Option Addr) (c7:Nat) (hr:zn Y (.slice a7 (n+1) c7) 1 (jT (l++[room])))=>zi9 hr (by rw[zN,hn];rfl) (by omega));have hcat:jT (l++[room])=jT l++[.int .i64 room]:=by unfold jT;rw[xT];rfl
  have HCAT:=za hcat;clear h ho hn hne hnl hevl hcat;have hcs:(1048576<ne+nl∧room=7)∨(¬ 1048576<ne+nl∧room=0):=by
    by_cases e:1048576<ne+nl
    · rw[zh e]at hroom;exact .inl ⟨e,hroom.symm⟩
    · rw[zf e]at hroom;exact .inr ⟨e,hroom.symm⟩
  clear hroom;rcases hcs with⟨e1,rfl⟩ | ⟨e1,rfl⟩
  all_goals
    have d1:=e1
    first
      | (have d2:(1048576:Int)<(ne:Int)+(nl:Int):=(by omega))
      | (have d2 : ¬ (1048576:Int)<(ne:Int)+(nl:Int):=(by omega))
    clear e1 d1 hev hlv;go_enter func49,ntmps49;go_upto_region 4 with(go_at_call 35;refine HN.out.mono ?_;rintro e w' ⟨rfl,rfl⟩)
    refine rHd (S:=CkS b.p b.v b.d) (HS.out _ (Mod.refl _ _).drew) (fun h_ => ?_);refine hTk 0 ?_;refine hTk 1 ?_;refine hTk 2 ?_;refine hTk 3 ?_;refine hLd 4 ?_;refine hTk 6 ?_;refine hTk 7 ?_;refine hTk 8 ?_;refine hTk 9 ?_;refine hLd 10 ?_
    (refine hSt 5 (fun K hK => ?_);go_simp;refine zm (HE.out _ (Mod.refl _ _).drew) ?_;rintro e u1 ⟨rfl,rfl⟩;refine hK.out _ _ ?_ (fun h_ => ?_);(· exact HS.out _ (Mod.refl _ _).drew);clear hK K;refine clA ?_)
    (refine hSt 11 (fun K hK => ?_);go_simp;refine zm (HL.out _ (Mod.refl _ _).drew) ?_;rintro e u2 ⟨rfl,rfl⟩;refine hK.out _ _ ?_ (fun h_ => ?_);(· exact HS.out _ (Mod.refl _ _).drew);clear hK K;refine clA ?_)
    refine hTk 12 ?_;refine hTk 13 ?_;refine hDn ?_;clear h_
    go_wp2_with (first
      | (at_builtin;refine uE _ rfl _ _ 151 rfl 31 i0 _ 1 8 underlying151 hi iz0 iz1 iz2 rfl (by decide) (.slice a n c) n _ rfl (zA HO.out (((Mod.refl (fun _=>False) w).drew).alloc _) (fun _ _ h=>h)) _ [_] 1 rfl (zn.of_block 1 1 1 (zi rfl) (by rfl) (by simp[Value.oneCell'])) rfl (by unfold maxLen;omega) (by omega) ?_;intro a7 c7 w7 hr7 hg7 hb7;rw[← HCAT.out]at hr7;have HF7:=za (HF.out w7 a7 c7 (zn.of_owns hr7 (zdq _))))
      | (go_at_call 89;refine HF7.out.mono ?_;rintro e w8 ⟨rfl,rfl⟩))
    go_ret;exact⟨rfl,(((Mod.refl (fun _=>False) w).drew).alloc _ |> Mod.of_pure).then (Mod.of_grown (S:=fun k=>(Value.slice a n c).ownBlock=some k) hg7 (fun k e _=>e)) (fun _ _ h=>h)⟩
end
section
variable{Fo:Nat→Prop}{w w':World}{b:CaB}{s:CaS}
theorem uk.none{w1:World}{b1:CaB}(h:uk (fun _=>False) w w1 b b1):zx w w1 b b1:=⟨h.p,h.mod.mono (fun _ _ e=>e.elim (fun e=>e) (fun e=>e.elim)),h.grew⟩
theorem zaj(h:zu Fo w b s){t:Nat}(ht:t≤18446744073709551615)(hlv:uN 1 (tmS s t) (xk s t))(hR:kR (zy s t) yN) :
  Calls prog 56 #[lkP b.p,.int .u64 t,.func (.func 77) #[] #[]] w (ZH Fo w b (pkS (evS (zy s t) yN))):=by
 refine(K8 h ht hlv (X:=fun _=>False) (fun k hk=>hk.elim) (enters_of func77 (by kernel_rfl) rfl) (QE:=fun keep s2 _=>keep=yN∧s2=zy s t) (fun W b1 hC hT => ?_)).mono ?_
 ·refine(zgM W).mono ?_;rintro e w' ⟨rfl,rfl⟩;exact⟨yN,zy s t,b1,fun _=>True,rfl,hC,(zx.pure (Mod.refl _ _)).toX,hR,trivial,fun _ _ _ _ _ _=>trivial,fun _ _=>⟨rfl,rfl⟩⟩
 ·rintro e w' ⟨rfl,keep,s2,b',hC,hT,rfl,rfl⟩;exact⟨rfl,b',hC,hT.none⟩
end
def ZR(k:ByteArray):Int:=if kJ k.size=true then 0 else 2
theorem zfY{w:World}{T:TypeId}{v:Value}(h1:v.oneCell'=true):(w.alloc (.cells #[v] T)).ownsRow 0 T 1 (.slice (some ⟨w.heap.size,0,none⟩) 1 1) 1 [v] :=
 ⟨rfl,.inr ⟨_,_,#[v],rfl,yk _,heap_alloc_new w _,zH _,by simp[maxLen],by simp,by simp⟩⟩
section
variable{Fo:Nat→Prop}{w w':World}{b:CaB}{s:CaS}
def zkV(Fo:Nat→Prop)(w:World)(b:CaB)(r:Bool)(s':CaS)(e:Ending)(w':World):Prop:=e=.returned (.tuple #[.bool r,.int .i64 0]) ∧ ∃ b',zu Fo w' b' s'∧zx w w' b b'
end
section
variable{Fo:Nat→Prop}{w w':World}{b:CaB}{s:CaS}
def Kx(G:Nat→Prop)(w:World)(q:Nat)(x:CE):Prop := ∃ a n c,w.heap[q]? = some (.cells #[.string x.key,.slice a n c,.int .u64 x.dl,.int .u64 x.birth] 47 (0,0))∧yy w (.slice a n c) (zS x.val) ∧ ∀ g,(Value.slice a n c).ownBlock=some g→G g
theorem Kx.mod{G:Nat→Prop}{q:Nat}{x:CE}{S:Nat→Prop}(h:Kx G w q x)(hm:Mod S w w')(h1 : ¬ S q)(h2 : ∀ g,G g → ¬ S g):Kx G w' q x:=by
 obtain⟨a,n,c,k1,k2,k3⟩:=h;exact⟨a,n,c,hm.heap h1 k1,zA k2 hm (fun g hg=>h2 g (k3 g hg)),k3⟩
theorem zfD(h:zu Fo w b s):Calls prog 32 #[lkP b.p] w fun e w'=>e=.returned s.cfg.v∧zb w w':=by
 dsimp only[Cfg.v];have hal:zb w (w.alloc (.cells #[.int .i64 0,.int .i64 0,.int .i64 0,.int .u64 0,.bool false] 29)):=(Mod.refl _ w).alloc _;have z:=zi (w:=w) (o := .cells #[.int .i64 0,.int .i64 0,.int .i64 0,.int .u64 0,.bool false] 29 (0,0)) rfl;have HN:=za (YC (h.pure hal));have hb:=(h.pure hal).box;have HP:=za hal;have Z:=za z;clear h hal;generalize s.cfg.count=g0 at *;generalize s.cfg.bytes=g1 at *;generalize s.cfg.prot=g2 at *;generalize s.cfg.seed=g3 at *;generalize s.cfg.same=g4 at *;go_enter func32,ntmps32;go_upto_region 1 with fail
 generalize w.alloc (.cells #[.int .i64 0,.int .i64 0,.int .i64 0,.int .u64 0,.bool false] 29)=W1 at *;obtain⟨q,hq⟩:=zc w.heap.size;rw[hq]at z Z ⊢;have HQ:=za hq;clear hq;obtain⟨hb_0,hb_1,hb_2,hb_3,hb_4,hb_5,hb_6,hb_7,hb_8,hb_9,hb_10,hb_f,hb_l,H_hb⟩:=xz hb;clear hb;obtain⟨z_0,z_1,z_2,z_3,z_4,z_f,z_l,H_z⟩:=cr5 z;clear z
 go_wp2_with (go_at_call 35;refine HN.out.mono ?_;rintro e w' ⟨rfl,rfl⟩)
 have hx:=zar (.int .i64 g0) (.int .i64 g1) (.int .i64 g2) (.int .u64 g3) (.bool g4) Z.out;have hm:Mod (fun i=>i=q) W1 (((((W1.setCell ⟨q,0,none⟩ (.int .i64 g0)).setCell ⟨q,1,none⟩ (.int .i64 g1)).setCell ⟨q,2,none⟩ (.int .i64 g2)).setCell ⟨q,3,none⟩ (.int .u64 g3)).setCell ⟨q,4,none⟩ (.bool g4)):=(((((Mod.refl (fun i=>i=q) W1).setCell (p:=⟨q,0,none⟩) (fun _=>rfl) _).setCell (p:=⟨q,1,none⟩) (fun _=>rfl) _).setCell (p:=⟨q,2,none⟩) (fun _=>rfl) _).setCell (p:=⟨q,3,none⟩) (fun _=>rfl) _).setCell (p:=⟨q,4,none⟩) (fun _=>rfl) _;generalize((((W1.setCell ⟨q,0,none⟩ (.int .i64 g0)).setCell ⟨q,1,none⟩ (.int .i64 g1)).setCell ⟨q,2,none⟩ (.int .i64 g2)).setCell ⟨q,3,none⟩ (.int .u64 g3)).setCell ⟨q,4,none⟩ (.bool g4)=Y at *;obtain⟨hx_0,hx_1,hx_2,hx_3,hx_4,hx_f,hx_l,H_hx⟩:=cr5 hx;clear hx;exact zM (v := .agg #[.int .i64 g0,.int .i64 g1,.int .i64 g2,.int .u64 g3,.bool g4]) (by simp[results,results32,go_sem,hx_0,hx_1,hx_2,hx_3,hx_4]) rfl ⟨rfl,HP.out.then hm (fun i hi e=>by have:=HQ.out;omega)⟩
end


section
variable{Fo:Nat→Prop}{w w':World}{b:CaB}{s:CaS}
theorem Azidh {P:Prop}(h:P:=by
 rintro e w' ⟨rfl,hm⟩;exact⟨rfl,hal.then hm (fun i hi e=>by
  have e2:(some Y.heap.size:Option Nat)=some i:=e;have e3:=YA e2;omega)⟩):P:=h
theorem zkW(h:zu Fo w b s)(e0:Int)(hev:s.evs.length≤1048576)(Y:World)(hY:zb w Y):Calls prog 49 #[lkP b.p,.slice (some ⟨Y.heap.size,0,none⟩) 1 1] (Y.alloc (.cells #[.int .i64 e0] 31)) fun e w'=>e=.returned (.int .i64 (vi [e0,ub s]))∧zb Y w':=by
 have hal:zb Y (Y.alloc (.cells #[.int .i64 e0] 31)):=(Mod.refl _ Y).alloc _;refine(UZ (h.pure (hY.trans hal)) (a:=some ⟨Y.heap.size,0,none⟩) (n:=1) (c:=1) (l:=[e0]) (zfY rfl) rfl (by omega) hev).mono ?_;exact Azidh
theorem zie{w:World}{T:TypeId}{v u:Value}(h1:v.oneCell'=true)(h2:u.oneCell'=true):(w.alloc (.cells #[v,u] T)).ownsRow 0 T 1 (.slice (some ⟨w.heap.size,0,none⟩) 2 2) 2 [v,u] :=
 ⟨rfl,.inr ⟨_,_,#[v,u],rfl,yk _,heap_alloc_new w _,zH _,by simp[maxLen],by simp,by simp⟩⟩
theorem zeg(h:zu Fo w b s)(e0 e1:Int)(hev:s.evs.length≤1048576)(Y:World)(hY:zb w Y):Calls prog 49 #[lkP b.p,.slice (some ⟨Y.heap.size,0,none⟩) 2 2] (Y.alloc (.cells #[.int .i64 e0,.int .i64 e1] 31)) fun e w'=>e=.returned (.int .i64 (vi [e0,e1,ub s]))∧zb Y w':=by
 have hal:zb Y (Y.alloc (.cells #[.int .i64 e0,.int .i64 e1] 31)):=(Mod.refl _ Y).alloc _;refine(UZ (h.pure (hY.trans hal)) (a:=some ⟨Y.heap.size,0,none⟩) (n:=2) (c:=2) (l:=[e0,e1]) (zie rfl rfl) rfl (by omega) hev).mono ?_;exact Azidh
def JX(Fo:Nat→Prop)(w:World)(b:CaB)(x:CE)(s':CaS)(e:Ending)(w':World):Prop := ∃ a n c,e=.returned (.tuple #[ceV x (.slice a n c),.bool true,.int .i64 0])∧yy w' (.slice a n c) (zS x.val)∧vo w (.slice a n c) ∧ ∃ b',zu Fo w' b' s'∧zx w w' b b'
end
section
variable{Fo:Nat→Prop}{w w':World}{b:CaB}{s:CaS}
def zkO(Fo:Nat→Prop)(w:World)(b:CaB)(x:CE)(s':CaS)(e:Ending)(w':World):Prop := ∃ a n c,e=.returned (.tuple #[.slice a n c,.bool true,.int .i64 0])∧yy w' (.slice a n c) (zS x.val)∧vo w (.slice a n c) ∧ ∃ b',zu Fo w' b' s'∧zx w w' b b'
def zll(Fo:Nat→Prop)(w:World)(b:CaB)(s':CaS)(e:Ending)(w':World):Prop:=e=.returned (.tuple #[.slice none 0 0,.bool false,.int .i64 0]) ∧ ∃ b',zu Fo w' b' s'∧zx w w' b b'
end
end
end Go.Proofs.YtpadepliilhmhaaGreatDoor
