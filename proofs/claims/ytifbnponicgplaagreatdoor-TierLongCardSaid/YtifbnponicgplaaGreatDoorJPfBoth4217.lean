/- Lemmas and contracts of functions. No condition. -/
import Derived.Test.YtifbnponicgplaaGreatDoorJPfBoth4216
namespace Go.Proofs.YtifbnponicgplaaGreatDoor
open _root_.Go.Proofs.Tryz
set_option maxRecDepth 100000
set_option maxHeartbeats 20000000
set_option linter.all false
section
open Go.RowKit Go.Shelf
section
variable{Fo X S:Nat→Prop}{w w':World}{b:CaB}{s:CaS}
theorem zo.beside(h:zo Fo w b s)(hm:Mod S w w')(hd : ∀ k,b.D k → ¬ S k)(hS : ∀ k,k<w.heap.size→S k→Fo k ∨ ∀ cs fz,w.heap[k]? ≠ some (.cells cs 5 fz))(h0 : ¬ S 0):zo Fo w' b s :=
 ⟨hm.heap (hd _ (.inl rfl)) h.box,h.dict.frameF hm (fun k hk=>hd k (.inr (.inl hk))) (fun k hk hs=>(hS k hk hs).imp .inl (fun e=>e)),hm.heap (hd _ (.inr (.inr (.inl rfl)))) h.ctr,h.order.frame hm (fun k hk=>hd k (.inr (.inr (.inr (.inl hk))))),h.used.frame hm (hd _ (.inr (.inr (.inr (.inr (.inl rfl)))))),h.due.frame hm (fun k hk=>hd k (.inr (.inr (.inr (.inr (.inr (.inl hk))))))),
  (by obtain⟨k0,k1,k2,k3,k4,k5,h1⟩:=h.ev;exact⟨k0,k1,k2,k3,k4,k5,h1.frameF hm (fun k hk=>hd k (.inr (.inr (.inr (.inr (.inr (.inr hk))))))) (fun k hk hs=>(hS k hk hs).imp .inl (fun e=>e))⟩),h.evs,h.sep,h.tab.mod hm h0⟩
theorem zjv(w:World):Calls prog 63 #[] w fun e w'=>e=.returned (.int .u32 4294967295)∧w=w':=by
 go_enter func63,ntmps63;go_wp2;go_ret;exact⟨rfl,rfl⟩
structure FdC(w:World)(p:Nat)(key:ByteArray)(f:Value)(q0:Nat)(i:Bool):Prop where
 z0:w.heap[q0]? = some (.cells #[lkP p] 41 (0,0))
 z1:w.heap[q0+1]? = some (.cells #[.string key] 9 (0,0))
 z2:w.heap[q0+2]? = some (.cells #[f] 87 (0,0))
 z3:w.heap[q0+3]? = some (.cells #[.bool i] 4 (0,0))
def FdS(p d q0:Nat)(key:ByteArray)(Y:World):Prop:=Y.cell? ⟨q0,0,none⟩=some (lkP p)∧Y.cell? ⟨p,0,none⟩=some (xr d)∧Y.cell? ⟨q0+1,0,none⟩=some (.string key)
abbrev fdA(q0:Nat):Array Value:=#[.pointer (some ⟨q0,0,none⟩),.pointer (some ⟨q0+1,0,none⟩),.pointer (some ⟨q0+3,0,none⟩),.pointer (some ⟨q0+2,0,none⟩)]
theorem zfR(h:zo Fo w b s){key:ByteArray}{f:Value}{q0:Nat}{i0:Bool}(hq:FdC w b.p key f q0 i0)(hk:key.size≤140737488355328)(hf:yN (zP s.L) key=none)(hn : ¬ b.D (q0+3)) :
  Calls prog 73 (fdA q0) w fun e w'=>e=.returned (.int .u32 4294967295)∧zo Fo w' b s∧Mod (fun k=>k=q0+3) w w'∧FdC w' b.p key f q0 false:=by
 have hfv:uM (zP s.L) key=(0,9):=by unfold uM;rw[hf]
 have HFi:=za (fun(Y:World) (hY:zb w Y)=>Uk (h.dict.pure hY) key hk);unfold Z6 at HFi;rw[hfv]at HFi;have HS:=za (fun(Y:World) (hY:zb w Y)=>(⟨zi Y q0 0 _ _ (0,0) (hY.heap (fun h=>h) hq.z0),zi Y b.p 0 _ _ (0,0) (hY.heap (fun h=>h) h.box),zi Y (q0+1) 0 _ _ (0,0) (hY.heap (fun h=>h) hq.z1)⟩:FdS b.p b.d q0 key Y));have HH:=za h;have HQ:=za hq;have HN:=za hn;clear h hq hk hf hn hfv;go_enter func73,ntmps73;go_upto_region 1 with fail
 refine rHd (S:=FdS b.p b.d q0 key) (HS.out _ (Mod.refl _ _).drew) (fun h_ => ?_);refine hLd 0 ?_;refine hTk 1 ?_;refine hTk 2 ?_;refine hTk 3 ?_;refine hLd 4 ?_;refine hLd 5 ?_
 (refine hSt 6 (fun K hK => ?_);go_simp;refine zq (HFi.out _ (Mod.refl _ _).drew) ?_;rintro e u1 ⟨rfl,hq1⟩;refine hK.out _ _ ?_ (fun h_ => ?_);(· exact HS.out _ ((Mod.refl (fun _=>False) w).drew.trans hq1));clear hK K;refine clA ?_)
 refine hTk 7 ?_;refine hTk 8 ?_;refine hTk 9 ?_;refine hTk 10 ?_;refine hTk 11 ?_;refine hDn ?_;clear h_;have hp1:zb w u1:=(Mod.refl (fun _=>False) w).drew.trans hq1;have g3:=hp1.heap (fun h=>h) HQ.out.z3;have G3:=za g3;have HP1:=za hp1;clear hq1 hp1;obtain⟨g3_0,g3_f,g3_l,H_g3⟩:=cr1 g3;clear g3;go_wp2;have h9:=zX u1 (q0+3) 0 _ _ (.bool false) G3.out;have hm9:Mod (fun k=>k=q0+3) u1 (u1.setCell ⟨q0+3,0,none⟩ (.bool false)):=(Mod.refl (fun k=>k=q0+3) u1).setCell (p:=⟨q0+3,0,none⟩) (fun _=>rfl) _;have hm:=Mod.trans' HP1.out hm9 (T:=fun k=>k=q0+3) (U:=fun k=>k=q0+3) (fun _ _ h=>h.elim) (fun _ _ h=>h);go_ret;refine⟨rfl,HH.out.beside hm (fun k hk e=>by subst e;exact HN.out hk) (fun k _ e => .inr (fun cs fz hb=>by subst e;rw[HQ.out.z3]at hb;injection hb with hb;injection hb with _ hb;exact absurd hb (by decide))) (by omega),hm,⟨hm.heap (by omega) HQ.out.z0,hm.heap (by omega) HQ.out.z1,hm.heap (by omega) HQ.out.z2,by simpa using h9⟩⟩
theorem zkT(h:zo Fo w b s){key:ByteArray}{gf:Nat}{lf:Array Value}{q0:Nat}{i0:Bool}(hq:FdC w b.p key (.func (.func gf) #[] lf) q0 i0)(hk:key.size≤140737488355328){sl:Nat}(hf:yN (zP s.L) key=some sl)(hn : ¬ b.D (q0+3))
  (eg : ∀ args w,(callFunc gf args).run prog w=.ok (.enter gf args) w) {P:World→Prop} (hE : ∀ W,zo Fo W b s→Mod (fun k=>k=q0+3) w W→FdC W b.p key (.func (.func gf) #[] lf) q0 true→Calls prog gf (#[.int .u32 sl]++lf) W (fun e w'=>e=.returned (.tuple #[])∧P w')) :
  Calls prog 73 (fdA q0) w fun e w'=>e=.returned (.int .u32 4294967295)∧P w':=by
 have hfv:uM (zP s.L) key=(sl,0):=by unfold uM;rw[hf]
 have HFi:=za (fun(Y:World) (hY:zb w Y)=>Uk (h.dict.pure hY) key hk);unfold Z6 at HFi;rw[hfv]at HFi;have HS:=za (fun(Y:World) (hY:zb w Y)=>(⟨zi Y q0 0 _ _ (0,0) (hY.heap (fun h=>h) hq.z0),zi Y b.p 0 _ _ (0,0) (hY.heap (fun h=>h) h.box),zi Y (q0+1) 0 _ _ (0,0) (hY.heap (fun h=>h) hq.z1)⟩:FdS b.p b.d q0 key Y));have HH:=za h;have HQ:=za hq;have HN:=za hn;have HE:=za hE;clear h hq hk hf hn hfv hE;go_enter func73,ntmps73;go_upto_region 1 with fail
 refine rHd (S:=FdS b.p b.d q0 key) (HS.out _ (Mod.refl _ _).drew) (fun h_ => ?_);refine hLd 0 ?_;refine hTk 1 ?_;refine hTk 2 ?_;refine hTk 3 ?_;refine hLd 4 ?_;refine hLd 5 ?_
 (refine hSt 6 (fun K hK => ?_);go_simp;refine zq (HFi.out _ (Mod.refl _ _).drew) ?_;rintro e u1 ⟨rfl,hq1⟩;refine hK.out _ _ ?_ (fun h_ => ?_);(· exact HS.out _ ((Mod.refl (fun _=>False) w).drew.trans hq1));clear hK K;refine clA ?_)
 refine hTk 7 ?_;refine hTk 8 ?_;refine hTk 9 ?_;refine hTk 10 ?_;refine hTk 11 ?_;refine hDn ?_;clear h_;have hp1:zb w u1:=(Mod.refl (fun _=>False) w).drew.trans hq1;have g3:=hp1.heap (fun h=>h) HQ.out.z3;have G3:=za g3;have HP1:=za hp1;clear hq1 hp1;obtain⟨g3_0,g3_f,g3_l,H_g3⟩:=cr1 g3;clear g3;go_upto_region 3 with fail
 have h9:=zX u1 (q0+3) 0 _ _ (.bool true) G3.out;have hm9:Mod (fun k=>k=q0+3) u1 (u1.setCell ⟨q0+3,0,none⟩ (.bool true)):=(Mod.refl (fun k=>k=q0+3) u1).setCell (p:=⟨q0+3,0,none⟩) (fun _=>rfl) _;have hm:=Mod.trans' HP1.out hm9 (T:=fun k=>k=q0+3) (U:=fun k=>k=q0+3) (fun _ _ h=>h.elim) (fun _ _ h=>h);clear g3_0 g3_f g3_l;clear H_g3;have hq9:FdC (u1.setCell ⟨q0+3,0,none⟩ (.bool true)) b.p key (.func (.func gf) #[] lf) q0 true:=⟨hm.heap (by omega) HQ.out.z0,hm.heap (by omega) HQ.out.z1,hm.heap (by omega) HQ.out.z2,by simpa using h9⟩;have hc9:=HH.out.beside hm (fun k hk e=>by subst e;exact HN.out hk) (fun k _ e => .inr (fun cs fz hb=>by subst e;rw[HQ.out.z3]at hb;injection hb with hb;injection hb with _ hb;exact absurd hb (by decide))) (by omega);have HEf:=za (HE.out _ hc9 hm hq9);have r2:=hq9.z2;have r3:=hq9.z3;clear h9 hm9 hm hq9 hc9;generalize u1.setCell ⟨q0+3,0,none⟩ (.bool true)=W9 at *;obtain⟨r2_0,r2_f,r2_l,H_r2⟩:=cr1 r2;clear r2;obtain⟨r3_0,r3_f,r3_l,H_r3⟩:=cr1 r3;clear r3
 go_wp2_with (go_at_fn gf;refine HEf.out.mono ?_;rintro e w6 ⟨rfl,hP6⟩)
 go_ret;exact⟨rfl,hP6⟩
end
def yp:Nat:=4294967295
section
variable{Fo X S:Nat→Prop}{w w':World}{b:CaB}{s:CaS}
theorem FdC.mod{p q0:Nat}{key:ByteArray}{f:Value}{i:Bool}(h:FdC w p key f q0 i)(hm:Mod S w w')(hS : ∀ j,j≤3 → ¬ S (q0+j)):FdC w' p key f q0 i :=
 ⟨hm.heap (hS 0 (by omega)) h.z0,hm.heap (hS 1 (by omega)) h.z1,hm.heap (hS 2 (by omega)) h.z2,hm.heap (hS 3 (by omega)) h.z3⟩
def zlB(Fo:Nat→Prop)(w:World)(b:CaB)(s':CaS)(e:Ending)(w':World):Prop:=e=.returned (.bool false) ∧ ∃ b',zo Fo w' b' s'∧zu w w' b b'
theorem Kl(h:zo Fo w b s){t:Nat}(ht:t≤18446744073709551615)(hlv:vm 1 (tmS s t) (yT s t)){key:ByteArray}(hk:key.size≤140737488355328){gf:Nat}{lf:Array Value}(hf:yN (zP (zl s t).L) key=none)(hR:vx (zl s t) yp) :
  Calls prog 40 #[lkP b.p,.int .u64 t,.string key,.func (.func gf) #[] lf] w (zlB Fo w b (pkS (evS (zl s t) yp))):=by
 have hp0:zb w ((((w.alloc (.cells #[lkP b.p] 41)).alloc (.cells #[.string key] 9)).alloc (.cells #[.func (.func gf) #[] lf] 87)).alloc (.cells #[.bool false] 4)):=((((Mod.refl _ w).alloc _).alloc _).alloc _).alloc _;have hq:FdC ((((w.alloc (.cells #[lkP b.p] 41)).alloc (.cells #[.string key] 9)).alloc (.cells #[.func (.func gf) #[] lf] 87)).alloc (.cells #[.bool false] 4)) b.p key (.func (.func gf) #[] lf) w.heap.size false :=
  ⟨zK (zK (zK (zk rfl))),zK (zK (zk (by simp))),zK (zk (by simp)),zk (by simp)⟩
 have hnd : ∀ j,¬ b.D (w.heap.size+j):=fun j e=>by have:=h.lt e;omega
 obtain⟨n0,hn0⟩:=zf w.heap.size;have hrun : ∀ W,zb w W→FdC W b.p key (.func (.func gf) #[] lf) n0 false→Calls prog 62 #[lkP b.p,.int .u64 t,.func (.func 73) #[] (fdA n0)] W (Ky Fo (fun k=>k=n0+3) W b (fun keep s2 Y=>keep=yp∧s2=zl s t∧Y.heap[n0+3]? = some (.cells #[.bool false] 4 (0,0)))):=fun W hW hqW=>by
  refine Xp (h.pure hW) ht hlv (fun k hk => ?_) (enters_of func73 (by kernel_rfl) rfl) (fun Y b1 hC hT => ?_)
  ·subst hk;exact⟨by have:=hnd 3;rw[hn0]at this;exact this,zm hqW.z3⟩
  ·have hq1:FdC Y b1.p key (.func (.func gf) #[] lf) n0 false:=by
    rw[hT.p];exact hqW.mod hT.mod (fun j _=>by have:=hnd j;rw[hn0]at this;exact this)
   have hn1 : ¬ b1.D (n0+3):=hT.nd (by have:=hnd 3;rw[hn0]at this;exact this) (zm hqW.z3);refine(zfR hC hq1 hk hf hn1).mono ?_;rintro e Y' ⟨rfl,h1,h2,h3⟩;exact⟨yp,zl s t,b1,fun Z=>Z.heap[n0+3]? = some (.cells #[.bool false] 4 (0,0)),rfl,h1,⟨rfl,h2.mono (fun _ _ e => .inr e),fun _ e => .inl e⟩,hR,h3.z3,fun W1 W2 S hR hm hS=>hm.heap (fun e=>(hS _ e).elim hn1 (fun e=>by have:=zm h3.z3;omega)) hR,fun Z hZ=>⟨rfl,rfl,hZ⟩⟩
 have HND:=za (fun(e:b.D (n0+3))=>hnd 3 (by rw[hn0];exact e));have HRun:=za hrun;have HP:=za hp0;have HQ:=za hq;have HN0:=za hn0;have HR1:=za (hrun _ hp0 (by rw[← hn0];exact hq));have hq0:=hq.z0;have hq3:=hq.z3;rw[hn0]at hq0 hq3;clear h ht hlv hf hR hp0 hq hnd hrun;go_enter func40,ntmps40;go_upto_region 1 with fail
 generalize(((w.alloc (.cells #[lkP b.p] 41)).alloc (.cells #[.string key] 9)).alloc (.cells #[.func (.func gf) #[] lf] 87)).alloc (.cells #[.bool false] 4)=W4 at *;rw[show n0+1+1+1=n0+3 from rfl,show n0+1+1=n0+2 from rfl];clear hn0;obtain⟨hq0_0,hq0_f,hq0_l,H_hq0⟩:=cr1 hq0;clear hq0;go_upto_region 2 with(go_at_call 62;refine HR1.out.mono ?_;rintro e w6 ⟨rfl,keep,s2,b6,C6,T6,rfl,rfl,Q6⟩)
 have HC6:=za C6;have HT6:=za T6;have Q6':=za Q6;clear hq0_0 hq0_f hq0_l;clear H_hq0 C6 T6 hq3;obtain⟨Q6_0,Q6_f,Q6_l,H_Q6⟩:=cr1 Q6;clear Q6;go_wp2;have h9:=zX w6 (n0+3) 0 _ _ (.bool false) Q6'.out;have hm9:Mod (fun k=>k=n0+3) w6 (w6.setCell ⟨n0+3,0,none⟩ (.bool false)):=(Mod.refl (fun k=>k=n0+3) w6).setCell (p:=⟨n0+3,0,none⟩) (fun _=>rfl) _;have hl4:n0+3<W4.heap.size:=by have h8:=HQ.out.z3;rw[HN0.out]at h8;exact zm h8
 have hn6 : ¬ b6.D (n0+3):=HT6.out.nd HND.out hl4;have hc9:=HC6.out.beside hm9 (fun k hk e=>by subst e;exact hn6 hk) (fun k _ e => .inr (fun cs fz hb=>by subst e;rw[Q6'.out]at hb;injection hb with hb;injection hb with _ hb;exact absurd hb (by decide))) (by omega);have ht9:zu w (w6.setCell ⟨n0+3,0,none⟩ (.bool false)) b b6:=⟨HT6.out.p,Mod.trans' (Mod.trans' HP.out HT6.out.mod (U:=fun k=>b.D k∨k=n0+3) (fun _ _ h=>h.elim) (fun _ _ h=>h)) hm9 (fun i hi e=>e.elim (fun e=>e) (fun e=>by have:=HN0.out;omega)) (fun i hi e=>by have:=HN0.out;omega),fun k hk=>(HT6.out.grew k hk).imp (fun e=>e) (fun e=>zF HP.out.size e)⟩;generalize w6.setCell ⟨n0+3,0,none⟩ (.bool false)=W9 at *;have g9:W9.heap[n0+3]? = some (.cells #[.bool false] 4 (0,0)):=by simpa using h9
 have c0:=zi W9 (n0+3) 0 _ _ _ g9;exact zR (v := .bool false) (by simp[results,results40,go_sem,c0]) rfl ⟨rfl,b6,hc9,ht9⟩
def YS(Fo X:Nat→Prop)(w W:World)(b1:CaB)(Q:CaS→World→Prop)(e:Ending)(w':World):Prop :=
 e=.returned (.tuple #[]) ∧ ∃(s2:CaS) (b2:CaB) (R:World→Prop),zo Fo w' b2 s2∧vH X W w' b1 b2∧vx s2 yp∧R w'∧(∀ W1 W2 (S:Nat→Prop),R W1→Mod S W1 W2→(∀ k,S k→b2.D k∨w'.heap.size≤k∨(w.heap.size≤k∧k<W.heap.size))→R W2) ∧ ∀ Y,R Y→Q s2 Y
theorem YS.plain{W:World}{b1 b2:CaB}{Q:CaS→World→Prop}{s2:CaS}(hC:zo Fo w' b2 s2)(hT:vH X W w' b1 b2)(hR:vx s2 yp)(hQ : ∀ Y,Q s2 Y):YS Fo X w W b1 Q (.returned (.tuple #[])) w' :=
 ⟨rfl,s2,b2,fun _=>True,hC,hT,hR,trivial,fun _ _ _ _ _ _=>trivial,fun Y _=>hQ Y⟩
def zkz(Fo X:Nat→Prop)(w:World)(b:CaB)(Q:CaS→World→Prop)(e:Ending)(w':World):Prop :=
 e=.returned (.bool true) ∧ ∃ s2 b',zo Fo w' b' (pkS (evS s2 yp))∧vH X w w' b b'∧Q s2 w'
theorem find_some(h:zo Fo w b s){t:Nat}(ht:t≤18446744073709551615)(hlv:vm 1 (tmS s t) (yT s t)){key:ByteArray}(hk:key.size≤140737488355328)(hX : ∀ k,X k → ¬ b.D k∧k<w.heap.size){gf:Nat}{lf:Array Value}{sl:Nat}(hf:yN (zP (zl s t).L) key=some sl)
  (eg : ∀ args w,(callFunc gf args).run prog w=.ok (.enter gf args) w) {Q:CaS→World→Prop}
  (hE : ∀ W b1,zo Fo W b1 (zl s t)→zu w W b b1→Calls prog gf (#[.int .u32 sl]++lf) W (YS Fo X w W b1 Q)) :
  Calls prog 40 #[lkP b.p,.int .u64 t,.string key,.func (.func gf) #[] lf] w (zkz Fo X w b Q):=by
 have hp0:zb w ((((w.alloc (.cells #[lkP b.p] 41)).alloc (.cells #[.string key] 9)).alloc (.cells #[.func (.func gf) #[] lf] 87)).alloc (.cells #[.bool false] 4)):=((((Mod.refl _ w).alloc _).alloc _).alloc _).alloc _;have hq:FdC ((((w.alloc (.cells #[lkP b.p] 41)).alloc (.cells #[.string key] 9)).alloc (.cells #[.func (.func gf) #[] lf] 87)).alloc (.cells #[.bool false] 4)) b.p key (.func (.func gf) #[] lf) w.heap.size false :=
  ⟨zK (zK (zK (zk rfl))),zK (zK (zk (by simp))),zK (zk (by simp)),zk (by simp)⟩
 have hnd : ∀ j,¬ b.D (w.heap.size+j):=fun j e=>by have:=h.lt e;omega
 obtain⟨n0,hn0⟩:=zf w.heap.size;have hxl : ∀ k,X k→k≠n0+3:=fun k hk e=>by have:=(hX k hk).2;omega
 have hrun : ∀ W,zb w W→FdC W b.p key (.func (.func gf) #[] lf) n0 false→Calls prog 62 #[lkP b.p,.int .u64 t,.func (.func 73) #[] (fdA n0)] W (Ky Fo (fun k=>X k∨k=n0+3) W b (fun keep s2 Y=>keep=yp∧Y.heap[n0+3]? = some (.cells #[.bool true] 4 (0,0)) ∧ ∃ R:World→Prop,R Y∧(∀ W1 W2,R W1→Mod (fun k=>k=n0+3) W1 W2→R W2) ∧ ∀ Y,R Y→Q s2 Y)):=fun W hW hqW=>by
  refine Xp (h.pure hW) ht hlv (fun k hk => ?_) (enters_of func73 (by kernel_rfl) rfl) (fun Y b1 hC hT => ?_)
  ·rcases hk with hk | rfl
   ·exact⟨(hX k hk).1,vh (hX k hk).2 hW.size⟩
   ·exact⟨by have:=hnd 3;rw[hn0]at this;exact this,zm hqW.z3⟩
  ·have hq1:FdC Y b1.p key (.func (.func gf) #[] lf) n0 false:=by
    rw[hT.p];exact hqW.mod hT.mod (fun j _=>by have:=hnd j;rw[hn0]at this;exact this)
   have hn1 : ¬ b1.D (n0+3):=hT.nd (by have:=hnd 3;rw[hn0]at this;exact this) (zm hqW.z3);have h9:=zkT hC hq1 hk hf hn1 eg (P:=fun w' => ∃(s2:CaS) (b2:CaB) (R:World→Prop),zo Fo w' b2 s2∧vH (fun k=>X k∨k=n0+3) Y w' b1 b2∧vx s2 yp ∧ ¬ b2.D (n0+3)∧w'.heap[n0+3]? = some (.cells #[.bool true] 4 (0,0))∧R w'∧(∀ W1 W2 (S:Nat→Prop),R W1→Mod S W1 W2→(∀ k,S k→b2.D k∨w'.heap.size≤k∨k=n0+3)→R W2) ∧ ∀ Y,R Y→Q s2 Y) (fun W2 hC2 hm2 hq2=>by
    have hto:zu w W2 b b1:=⟨hT.p,Mod.trans' (((zu.pure hW).trans hT).mod) hm2 (fun _ _ h=>h) (fun i hi e=>by omega),fun k hk=>(((zu.pure hW).trans hT).grew k hk)⟩;refine(hE W2 b1 hC2 hto).mono ?_;rintro e w' ⟨rfl,s2,b2,R,k1,k2,k3,k4,k5,k6⟩;have hlt3:n0+3<W2.heap.size:=zm hq2.z3;refine⟨rfl,s2,b2,R,k1,⟨k2.p,Mod.trans' hm2 k2.mod (fun _ _ e => .inr (.inr e)) (fun _ _ e=>e.imp (fun e=>e) .inl),fun k hk=>(k2.grew k hk).imp (fun e=>e) (fun e=>zF hm2.size e)⟩,k3,k2.nd hn1 hlt3,?_,k4,fun W1 W3 S h1 h2 h3=>k5 W1 W3 S h1 h2 (fun k hk=>(h3 k hk).imp (fun e=>e) (fun e=>e.imp (fun e=>e) (fun e=>by subst e;exact⟨by omega,hlt3⟩))),k6⟩;exact k2.mod.heap (fun e=>e.elim (fun e=>hn1 e) (fun e=>hxl _ e rfl)) hq2.z3)
   refine h9.mono ?_;rintro e Y' ⟨rfl,s2,b2,R,k1,k2,k3,k4,k5,k6,k7,k8⟩;exact⟨yp,s2,b2,fun Z=>Z.heap[n0+3]? = some (.cells #[.bool true] 4 (0,0))∧R Z,rfl,k1,k2,k3,⟨k5,k6⟩,fun W1 W2 S h1 h2 h3=>⟨h2.heap (fun e=>(h3 _ e).elim k4 (fun e=>by have:=zm k5;omega)) h1.1,k7 W1 W2 S h1.2 h2 (fun k hk=>(h3 k hk).imp (fun e=>e) .inl)⟩,fun Z hZ=>⟨rfl,hZ.1,R,hZ.2,fun W1 W2 h1 h2=>k7 W1 W2 _ h1 h2 (fun k e => .inr (.inr e)),k8⟩⟩
 have HND:=za (fun(e:b.D (n0+3))=>hnd 3 (by rw[hn0];exact e));have HRun:=za hrun;have HP:=za hp0;have HQ:=za hq;have HN0:=za hn0;have HX:=za hX;have HXL:=za hxl;have HR1:=za (hrun _ hp0 (by rw[← hn0];exact hq));have hq0:=hq.z0;have hq3:=hq.z3;rw[hn0]at hq0 hq3;clear h ht hlv hf hE hX hxl eg hp0 hq hnd hrun;go_enter func40,ntmps40;go_upto_region 1 with fail
 generalize(((w.alloc (.cells #[lkP b.p] 41)).alloc (.cells #[.string key] 9)).alloc (.cells #[.func (.func gf) #[] lf] 87)).alloc (.cells #[.bool false] 4)=W4 at *;rw[show n0+1+1+1=n0+3 from rfl,show n0+1+1=n0+2 from rfl];clear hn0;obtain⟨hq0_0,hq0_f,hq0_l,H_hq0⟩:=cr1 hq0;clear hq0;go_upto_region 2 with(go_at_call 62;refine HR1.out.mono ?_;rintro e w6 ⟨rfl,keep,s2,b6,C6,T6,rfl,Q6,RR,QQ6,RS,RQ⟩)
 have HC6:=za C6;have HT6:=za T6;have Q6':=za Q6;have QQ:=za QQ6;have HRS:=za RS;have HRQ:=za RQ;clear hq0_0 hq0_f hq0_l;clear H_hq0 C6 T6 hq3 QQ6 RS RQ;obtain⟨Q6_0,Q6_f,Q6_l,H_Q6⟩:=cr1 Q6;clear Q6;go_wp2;have h9:=zX w6 (n0+3) 0 _ _ (.bool true) Q6'.out;have hm9:Mod (fun k=>k=n0+3) w6 (w6.setCell ⟨n0+3,0,none⟩ (.bool true)):=(Mod.refl (fun k=>k=n0+3) w6).setCell (p:=⟨n0+3,0,none⟩) (fun _=>rfl) _;have hl4:n0+3<W4.heap.size:=by have h8:=HQ.out.z3;rw[HN0.out]at h8;exact zm h8
 have hn6 : ¬ b6.D (n0+3):=HT6.out.nd HND.out hl4;have hc9:=HC6.out.beside hm9 (fun k hk e=>by subst e;exact hn6 hk) (fun k _ e => .inr (fun cs fz hb=>by subst e;rw[Q6'.out]at hb;injection hb with hb;injection hb with _ hb;exact absurd hb (by decide))) (by omega);have ht9:vH X w (w6.setCell ⟨n0+3,0,none⟩ (.bool true)) b b6:=⟨HT6.out.p,Mod.trans' (Mod.trans' HP.out HT6.out.mod (U:=fun k=>b.D k∨(X k∨k=n0+3)) (fun _ _ h=>h.elim) (fun _ _ h=>h)) hm9 (fun i hi e=>e.imp (fun e=>e) (fun e=>e.elim (fun e=>e) (fun e=>by have:=HN0.out;omega))) (fun i hi e=>by have:=HN0.out;omega),fun k hk=>(HT6.out.grew k hk).imp (fun e=>e) (fun e=>zF HP.out.size e)⟩;have hqq:=HRQ.out _ (HRS.out _ _ QQ.out hm9);generalize w6.setCell ⟨n0+3,0,none⟩ (.bool true)=W9 at *;have g9:W9.heap[n0+3]? = some (.cells #[.bool true] 4 (0,0)):=by simpa using h9
 have c0:=zi W9 (n0+3) 0 _ _ _ g9;exact zR (v := .bool true) (by simp[results,results40,go_sem,c0]) rfl ⟨rfl,s2,b6,hc9,ht9,hqq⟩
end
section
variable{Fo:Nat→Prop}{w w':World}{b:CaB}{s:CaS}
theorem zef(h:zo Fo w b s):Calls prog 33 #[lkP b.p] w fun e w'=>e=.returned (.int .u64 s.now)∧w=w':=by
  have HN:=za (Zs h);have HD:=za (h.due.nowOk);have hb:=h.box;clear h;obtain⟨hb_0,hb_1,hb_2,hb_3,hb_4,hb_5,hb_6,hb_7,hb_8,hb_9,hb_10,hb_f,hb_l,H_hb⟩:=xW hb;clear hb;go_enter func33,ntmps33
  go_wp2_with (first
    | (go_at_call 49;refine HN.out.mono ?_;rintro e w' ⟨rfl,rfl⟩)
    | (go_at_call 61;refine HD.out.mono ?_;rintro e w' ⟨rfl,rfl⟩))
  go_ret;exact⟨rfl,rfl⟩
theorem zi6(h:zo Fo w b s):Calls prog 95 #[lkP b.p] w fun e w'=>e=.returned (.int .u64 s.births)∧w=w':=by
  have HN:=za (Zs h);have HD:=za (zc8 h.ctr);have hb:=h.box;clear h;obtain⟨hb_0,hb_1,hb_2,hb_3,hb_4,hb_5,hb_6,hb_7,hb_8,hb_9,hb_10,hb_f,hb_l,H_hb⟩:=xW hb;clear hb;go_enter func95,ntmps95
  go_wp2_with (first
    | (go_at_call 49;refine HN.out.mono ?_;rintro e w' ⟨rfl,rfl⟩)
    | (go_at_call 114;refine HD.out.mono ?_;rintro e w' ⟨rfl,rfl⟩))
  go_ret;exact⟨rfl,rfl⟩
def xE:List Int→Int
 | []=>0
 | e::l=>if e=0 then xE l else e
theorem zcF(r:Bool)(e0:Int)(w:World):Calls prog 72 #[.bool r,.int .i64 e0] w fun e w'=>e=.returned (.int .i64 (if r=true then 0 else e0))∧w=w':=by
 cases r
 all_goals
  go_enter func72,ntmps72;go_wp2;go_ret;exact⟨rfl,rfl⟩
end
def qs(l:List Int):List Value:=l.map (fun e=>(.int .i64 e:Value))
theorem ze8(l:List Int) : ∀ u∈qs l,u.oneCell'=true:=fun u hu=>by obtain⟨q,_,rfl⟩:=zI.1 hu;rfl
theorem Kd : ∀ {l:List Int} {k:Nat},(∀ i e,i<k→l[i]? = some e→e=0)→xE l=xE (l.drop k)
 | l,0,_=>rfl
 | [],k+1,_=>rfl
 | e::l,k+1,h=>by
  have h0:e=0:=h 0 e (by omega) rfl;subst h0
  show xE l=xE (l.drop k)
  exact Kd (fun i e hi he=>h (i+1) e (by omega) (by simpa using he))
section
variable{Fo:Nat→Prop}{w w':World}{b:CaB}{s:CaS}
theorem zkP{a:Option Addr}{n c:Nat}{l:List Int}(h:zr w (.slice a n c) 1 (qs l))(hn:l.length=n)(hl:n≤1000):Calls prog 71 #[.slice a n c] w fun e w'=>e=.returned (.int .i64 (xE l))∧w=w':=by
 have HR:=za h;have HN:=za hn;clear h hn;go_enter func71,ntmps71;go_upto_region 2 with fail
 go_loopw [7] (fun v7 wr => ∃ j:Nat,v7=.int .i64 (j:Nat)∧j≤n∧w=wr ∧ ∀ i e,i<j→l[i]? = some e→e=0) (fun v7 _=>n-(intOf v7).toNat)
 case atStart=>exact⟨0,rfl,yq _,rfl,fun i e h=>by omega⟩
 case round =>
  obtain⟨j,rfl,hj,rfl,hno⟩:=hrel;have HNO:=za hno;clear hno;by_cases hlt:j<n
  ·have hlt':(j:Int)<(n:Int):=by omega
   have j0:(0:Int)≤(j:Int):=by omega
   have wj:IntKind.i64.wrap ((j:Int)+1)=(j:Int)+1:=zt _ (by omega);obtain⟨x,hx⟩ : ∃ x,l[j]? = some x:=⟨_,zO (by rw[HN.out];exact hlt)⟩;obtain⟨ad,had,z0⟩ : ∃ ad,a=some ad∧w.cell? (ad.add j)=some (.int .i64 x):=by
    obtain⟨a',n',c',e,hl',_,h0,hc⟩:=HR.out;injection e with e1 e2 e3
    subst e1 e2 e3;have hu:(qs l)[j]? = some (.int .i64 x):=by unfold qs;rw[yz,hx];rfl
    cases a with
    | none=>have:=h0 rfl;omega
    | some ad=>exact⟨ad,rfl,hc ad rfl _ _ hu⟩
   subst had;have HX:=za hx;have hdr:xE l=xE (l.drop j):=Kd HNO.out;have hdr2:l.drop j=x::l.drop (j+1):=by
    obtain⟨g1,g2⟩:=zE.1 hx;rw[jK g1,g2]
   rw[hdr2]at hdr;clear hx hdr2;by_cases h0:x=0
   ·subst h0;clear hdr;go_wp2;go_roundw
    case rel=>exact⟨j+1,by first | rfl | simp,hlt,by first | rfl | trivial,fun i e hi he=>by
     by_cases c:i=j
     ·subst c;rw[HX.out]at he;injection he with he;exact he.symm
     ·exact HNO.out i e (by omega) he⟩
    case measure=>simp[intOf];omega
   ·have h0':(x==0)=false:=kQ.2 h0;have h0'':(x != 0)=true:=by simpa using h0
    have hdr3:xE l=x:=by rw[hdr];unfold xE;rw[zh h0]
    have HD:=za hdr3;clear hdr hdr3 h0;go_wp2;go_ret;exact⟨by rw[HD.out];rfl,rfl⟩
  ·have hlt' : ¬ (j:Int)<(n:Int):=by omega
   obtain rfl:j=n:=by omega
   have HD:Hid (xE l=0):=za (by rw[Kd HNO.out,Zp (by rw[HN.out];exact zN _)];rfl);go_wp2;go_ret;exact⟨by rw[HD.out];rfl,rfl⟩
def ve(s:CaS):Int:=if 1048576<s.evs.length+yb (zP s.L)then 7 else 0
theorem ziw:(prog.info? 24).map (fun i=>(i.zero,i.size,i.bytes))=some (some (.int .i64 0),1,8):=by kernel_rfl
def CkS(p v d:Nat)(Y:World):Prop:=Y.cell? ⟨p,5,none⟩=some (lkP v)∧Y.cell? ⟨p,0,none⟩=some (xr d)
theorem XK(h:zo Fo w b s){a:Option Addr}{n c:Nat}{l:List Int}(ho:w.ownsRow 0 24 1 (.slice a n c) n (qs l))(hn:l.length=n)(hl:n≤100)(hev:s.evs.length≤1048576) :
    Calls prog 38 #[lkP b.p,.slice a n c] w fun e w'=>e=.returned (.int .i64 (xE (l++[ve s])))∧Mod (fun k=>(Value.slice a n c).ownBlock=some k) w w':=by
  have HN:=za (Zs h);have HL:=za (fun(Y:World) (hY:zb w Y)=>K4 (h.pure hY).dict);have hevl:b.ns.length=s.evs.length:=by have:=congrArg List.length h.evs;unfold Zj at this;rw[yH]at this;exact this
  have HE:Hid (∀ Y,zb w Y→Calls prog 65 #[lkP b.v] Y fun e w'=>e=.returned (.int .i64 s.evs.length)∧Y=w'):=za (fun Y hY=>by
    obtain⟨k0,k1,k2,k3,k4,k5,h1⟩:=(h.pure hY).ev;rw[← hevl];exact zbd h1)
  have hlv:yb (zP s.L)≤4194304:=by
    have h1:=Je (zP s.L);have h2:=h.dict.ok.len;omega
  have HS:=za (fun(Y:World) (hY:zb w Y)=>(⟨zi Y b.p 5 _ _ (0,0) (hY.heap (fun h=>h) h.box),zi Y b.p 0 _ _ (0,0) (hY.heap (fun h=>h) h.box)⟩:CkS b.p b.v b.d Y));obtain⟨i0,hi,iz0,iz1,iz2⟩:=xB ziw;have HO:=za ho;have HNn:=za hn;obtain⟨room,hroom⟩:=zf (ve s);rw[hroom];unfold ve at hroom;obtain⟨ne,hne⟩:=zf s.evs.length;obtain⟨nl,hnl⟩:=zf (yb (zP s.L));simp only[hne]at HE;simp only[hnl]at HL;rw[hne,hnl]at hroom;rw[hne]at hev;rw[hnl]at hlv;have wsum:IntKind.i64.wrap ((ne:Int)+(nl:Int))=(ne:Int)+(nl:Int):=zt _ (by omega);have HF:=za (fun(Y:World) (a7:Option Addr) (c7:Nat) (hr:zr Y (.slice a7 (n+1) c7) 1 (qs (l++[room])))=>zkP hr (by rw[zT,hn];rfl) (by omega));have hcat:qs (l++[room])=qs l++[.int .i64 room]:=by unfold qs;rw[vr];rfl
  have HCAT:=za hcat;clear h ho hn hne hnl hevl hcat;have hcs:(1048576<ne+nl∧room=7)∨(¬ 1048576<ne+nl∧room=0):=by
    by_cases e:1048576<ne+nl
    · rw[zj e]at hroom;exact .inl ⟨e,hroom.symm⟩
    · rw[zh e]at hroom;exact .inr ⟨e,hroom.symm⟩
  clear hroom;rcases hcs with⟨e1,rfl⟩ | ⟨e1,rfl⟩
  all_goals
    have d1:=e1
    first
      | (have d2:(1048576:Int)<(ne:Int)+(nl:Int):=(by omega))
      | (have d2 : ¬ (1048576:Int)<(ne:Int)+(nl:Int):=(by omega))
    clear e1 d1 hev hlv;go_enter func38,ntmps38;go_upto_region 4 with(go_at_call 49;refine HN.out.mono ?_;rintro e w' ⟨rfl,rfl⟩)
    refine rHd (S:=CkS b.p b.v b.d) (HS.out _ (Mod.refl _ _).drew) (fun h_ => ?_);refine hTk 0 ?_;refine hTk 1 ?_;refine hTk 2 ?_;refine hTk 3 ?_;refine hLd 4 ?_;refine hTk 6 ?_;refine hTk 7 ?_;refine hTk 8 ?_;refine hTk 9 ?_;refine hLd 10 ?_
    (refine hSt 5 (fun K hK => ?_);go_simp;refine zq (HE.out _ (Mod.refl _ _).drew) ?_;rintro e u1 ⟨rfl,rfl⟩;refine hK.out _ _ ?_ (fun h_ => ?_);(· exact HS.out _ (Mod.refl _ _).drew);clear hK K;refine clA ?_)
    (refine hSt 11 (fun K hK => ?_);go_simp;refine zq (HL.out _ (Mod.refl _ _).drew) ?_;rintro e u2 ⟨rfl,rfl⟩;refine hK.out _ _ ?_ (fun h_ => ?_);(· exact HS.out _ (Mod.refl _ _).drew);clear hK K;refine clA ?_)
    refine hTk 12 ?_;refine hTk 13 ?_;refine hDn ?_;clear h_
    go_wp2_with (first
      | (at_builtin;refine uX _ rfl _ _ 135 rfl 24 i0 _ 1 8 underlying135 hi iz0 iz1 iz2 rfl (by decide) (.slice a n c) n _ rfl (zz HO.out (((Mod.refl (fun _=>False) w).drew).alloc _) (fun _ _ h=>h)) _ [_] 1 rfl (zr.of_block 1 1 1 (zk rfl) (by rfl) (by simp[Value.oneCell'])) rfl (by unfold maxLen;omega) (by omega) ?_;intro a7 c7 w7 hr7 hg7 hb7;rw[← HCAT.out]at hr7;have HF7:=za (HF.out w7 a7 c7 (zr.of_owns hr7 (ze8 _))))
      | (go_at_call 71;refine HF7.out.mono ?_;rintro e w8 ⟨rfl,rfl⟩))
    go_ret;exact⟨rfl,(((Mod.refl (fun _=>False) w).drew).alloc _ |> Mod.of_pure).then (Mod.of_grown (S:=fun k=>(Value.slice a n c).ownBlock=some k) hg7 (fun k e _=>e)) (fun _ _ h=>h)⟩
end
section
variable{Fo:Nat→Prop}{w w':World}{b:CaB}{s:CaS}
theorem YB(k:ByteArray)(w:World)(hk:k.size≤140737488355328):Calls prog 39 #[.string k] w fun e w'=>e=.returned (.int .i64 (if xo k.size=true then 0 else 2))∧w=w':=by
  have HV:=za (Ki k w hk);have HU:=za (zcF (xo k.size) 2 w);clear hk;obtain⟨r,hr⟩:=zf ((if xo k.size=true then(0:Int)else 2));rw[hr]at HU ⊢;clear hr;generalize xo k.size=kb at *;go_enter func39,ntmps39
  go_wp2_with (first
    | (go_at_call 31;refine HV.out.mono ?_;rintro e w' ⟨rfl,rfl⟩)
    | (go_at_call 72;refine HU.out.mono ?_;rintro e w' ⟨rfl,rfl⟩))
  go_ret;exact⟨rfl,rfl⟩
theorem vH.none{w1:World}{b1:CaB}(h:vH (fun _=>False) w w1 b b1):zu w w1 b b1:=⟨h.p,h.mod.mono (fun _ _ e=>e.elim (fun e=>e) (fun e=>e.elim)),h.grew⟩
theorem zgS(h:zo Fo w b s){t:Nat}(ht:t≤18446744073709551615)(hlv:vm 1 (tmS s t) (yT s t))(hR:vx (zl s t) yp) :
  Calls prog 62 #[lkP b.p,.int .u64 t,.func (.func 63) #[] #[]] w (ZN Fo w b (pkS (evS (zl s t) yp))):=by
 refine(Xp h ht hlv (X:=fun _=>False) (fun k hk=>hk.elim) (enters_of func63 (by kernel_rfl) rfl) (QE:=fun keep s2 _=>keep=yp∧s2=zl s t) (fun W b1 hC hT => ?_)).mono ?_
 ·refine(zjv W).mono ?_;rintro e w' ⟨rfl,rfl⟩;exact⟨yp,zl s t,b1,fun _=>True,rfl,hC,(zu.pure (Mod.refl _ _)).toX,hR,trivial,fun _ _ _ _ _ _=>trivial,fun _ _=>⟨rfl,rfl⟩⟩
 ·rintro e w' ⟨rfl,keep,s2,b',hC,hT,rfl,rfl⟩;exact⟨rfl,b',hC,hT.none⟩
theorem zfc(h:zo Fo w b s){t:Nat}(ht:t≤18446744073709551615)(hev:s.evs.length≤1048576)(hr:ve s=0)(hlv:vm 1 (tmS s t) (yT s t))(hR:vx (zl s t) yp) :
    Calls prog 34 #[lkP b.p,.int .u64 t] w fun e w'=>e=.returned (.int .i64 0) ∧ ∃ b',zo Fo w' b' (pkS (evS (zl s t) yp))∧zu w w' b b':=by
  have hc:=XK h (a:=none) (n:=0) (c:=0) (l:=[]) (vV _ _ _ _) rfl (by omega) hev;have e7:xE ([]++[ve s])=0:=by rw[hr];rfl
  rw[e7]at hc;have HC:=za hc;have HRn:=za (fun(Y:World) (hY:zb w Y)=>zgS (h.pure hY) ht hlv hR);clear h hev hr hc e7 hlv hR;go_enter func34,ntmps34
  go_wp2_with (first
    | (go_at_call 38;refine HC.out.mono ?_;rintro e w2 ⟨rfl,hm2⟩;have hp2:zb w w2:=hm2.mono (fun k _ e=>by cases e))
    | (go_at_call 62;refine(HRn.out _ hp2).mono ?_;rintro e w3 ⟨rfl,b3,hc3,ht3⟩))
  go_ret;exact⟨rfl,b3,hc3,(zu.pure hp2).trans ht3⟩
end
def ky(k:ByteArray):Int:=if xo k.size=true then 0 else 2
theorem UX{w:World}{T:TypeId}{v:Value}(h1:v.oneCell'=true):(w.alloc (.cells #[v] T)).ownsRow 0 T 1 (.slice (some ⟨w.heap.size,0,none⟩) 1 1) 1 [v] :=
 ⟨rfl,.inr ⟨_,_,#[v],rfl,yq _,heap_alloc_new w _,zN _,by simp[maxLen],by simp,by simp⟩⟩
section
variable{Fo:Nat→Prop}{w w':World}{b:CaB}{s:CaS}
def zas(Fo:Nat→Prop)(w:World)(b:CaB)(r:Bool)(s':CaS)(e:Ending)(w':World):Prop:=e=.returned (.tuple #[.bool r,.int .i64 0]) ∧ ∃ b',zo Fo w' b' s'∧zu w w' b b'
theorem zd6(h:zo Fo w b s){t:Nat}(ht:t≤18446744073709551615)(hev:s.evs.length≤1048576)(hr:ve s=0)(hlv:vm 1 (tmS s t) (yT s t)){key:ByteArray}(hk:key.size≤140737488355328)(hkE:ky key=0){sl:Nat}(hf:yN (zP (zl s t).L) key=some sl)
    (hx : ∃ x,(zl s t).L[sl]? = some (some x)∧(⟨sl,x.cost⟩:Wt)∈(zl s t).A++(zl s t).B∧Ev.Ok ⟨4,x,(zl s t).now⟩∧(zl s t).evs.length<1048576∧(zl s t).U=Bu.of (zl s t).A (zl s t).B) (hR:vx (xe 4 (zl s t) sl) yp) :
    Calls prog 22 #[lkP b.p,.int .u64 t,.string key] w (zas Fo w b true (pkS (evS (xe 4 (zl s t) sl) yp))):=by
  have HK:=za (fun Y=>YB key Y hk);have e2:(if xo key.size=true then(0:Int)else 2)=0:=hkE;rw[e2]at HK;have hal:zb w (w.alloc (.cells #[.int .i64 0] 24)):=(Mod.refl _ w).alloc _;have hc:=XK (h.pure hal) (a:=some ⟨w.heap.size,0,none⟩) (n:=1) (c:=1) (l:=[0]) (UX rfl) rfl (by omega) hev;have e7:xE ([0]++[ve s])=0:=by rw[hr];rfl
  rw[e7]at hc;have HC:=za hc;have HLv:=za (fun Y=>UM b.p 4 Y);have HFd:=za (fun(Y:World) (c1:Nat) (hY:zb w Y) (hq:LvF Y b.p 4 c1 (c1+1)) (hl:w.heap.size≤c1)=>find_some (h.pure hY) ht hlv hk (X:=fun _=>False) (fun k hk=>hk.elim) (gf:=75) (lf:=#[.pointer (some ⟨c1,0,none⟩),.pointer (some ⟨c1+1,0,none⟩)]) hf (enters_of func75 (by kernel_rfl) rfl) (Q:=fun s2 _=>s2=xe 4 (zl s t) sl) (fun W b1 hC hT=>by
    have n1 : ¬ b.D c1:=fun e=>by have:=h.lt e;omega
    have n2 : ¬ b.D (c1+1):=fun e=>by have:=h.lt e;omega
    refine(Kg hC (by rw[hT.p];exact hq.mod hT.mod n1 n2) (hT.nd n1 (zm hq.b1)) (hT.nd n2 (zm hq.b2)) hx).mono ?_;rintro e w' ⟨rfl,b2,k1,k2⟩;exact YS.plain k1 k2.toX hR (fun _=>rfl)))
  have HAL:=za hal;clear h hev hr hc e7 hlv hR hx hf e2 hkE hal;go_enter func22,ntmps22;go_upto_region 4 with(first
    | (go_at_call 39;refine(HK.out _).mono ?_;rintro e w' ⟨rfl,rfl⟩)
    | (go_at_call 38;refine HC.out.mono ?_;rintro e w2 ⟨rfl,hm2⟩))
  have hp2:zb w w2:=HAL.out.then hm2 (fun i hi e=>by
    have e2:(some w.heap.size:Option Nat)=some i:=e;have e3:=vZ e2;omega)
  have HP2:=za hp2;clear hm2 hp2 HC
  go_wp2_with (first
    | (go_at_call 41;refine(HLv.out _).mono ?_;rintro e w3 ⟨rfl,hf3,hp3⟩;have HFx:=za (HFd.out w3 w2.heap.size (HP2.out.trans hp3) hf3 HP2.out.size))
    | (go_at_call 40;refine HFx.out.mono ?_;rintro e w4 ⟨rfl,s2,b4,hc4,ht4,rfl⟩))
  go_ret2;exact⟨rfl,b4,hc4,(zu.pure (HP2.out.trans hp3)).trans ht4.none⟩
theorem zgH(h:zo Fo w b s){t:Nat}(ht:t≤18446744073709551615)(hev:s.evs.length≤1048576)(hr:ve s=0)(hlv:vm 1 (tmS s t) (yT s t)){key:ByteArray}(hk:key.size≤140737488355328)(hkE:ky key=0)(hf:yN (zP (zl s t).L) key=none)(hR:vx (zl s t) yp) :
    Calls prog 22 #[lkP b.p,.int .u64 t,.string key] w (zas Fo w b false (pkS (evS (zl s t) yp))):=by
  have HK:=za (fun Y=>YB key Y hk);have e2:(if xo key.size=true then(0:Int)else 2)=0:=hkE;rw[e2]at HK;have hal:zb w (w.alloc (.cells #[.int .i64 0] 24)):=(Mod.refl _ w).alloc _;have hc:=XK (h.pure hal) (a:=some ⟨w.heap.size,0,none⟩) (n:=1) (c:=1) (l:=[0]) (UX rfl) rfl (by omega) hev;have e7:xE ([0]++[ve s])=0:=by rw[hr];rfl
  rw[e7]at hc;have HC:=za hc;have HLv:=za (fun Y=>UM b.p 4 Y);have HFd:=za (fun(Y:World) (c1:Nat) (hY:zb w Y)=>Kl (h.pure hY) ht hlv hk (gf:=75) (lf:=#[.pointer (some ⟨c1,0,none⟩),.pointer (some ⟨c1+1,0,none⟩)]) hf hR);have HAL:=za hal;clear h hev hr hc e7 hlv hR hf e2 hkE hal;go_enter func22,ntmps22;go_upto_region 4 with(first
    | (go_at_call 39;refine(HK.out _).mono ?_;rintro e w' ⟨rfl,rfl⟩)
    | (go_at_call 38;refine HC.out.mono ?_;rintro e w2 ⟨rfl,hm2⟩))
  have hp2:zb w w2:=HAL.out.then hm2 (fun i hi e=>by
    have e2:(some w.heap.size:Option Nat)=some i:=e;have e3:=vZ e2;omega)
  have HP2:=za hp2;clear hm2 hp2 HC
  go_wp2_with (first
    | (go_at_call 41;refine(HLv.out _).mono ?_;rintro e w3 ⟨rfl,hf3,hp3⟩;have HFx:=za (HFd.out w3 w2.heap.size (HP2.out.trans hp3)))
    | (go_at_call 40;refine HFx.out.mono ?_;rintro e w4 ⟨rfl,b4,hc4,ht4⟩))
  go_ret2;exact⟨rfl,b4,hc4,(zu.pure (HP2.out.trans hp3)).trans ht4⟩
end
section
variable{Fo:Nat→Prop}{w w':World}{b:CaB}{s:CaS}
def JU(w0 w:World)(q:Nat)(x:CE):Prop := ∃ a n c,w.heap[q]? = some (.cells #[.string x.key,.slice a n c,.int .u64 x.dl,.int .u64 x.birth] 70 (0,0))∧zW w (.slice a n c) (zJ x.val)∧xK w0 (.slice a n c)
def js(G:Nat→Prop)(w:World)(q:Nat)(x:CE):Prop := ∃ a n c,w.heap[q]? = some (.cells #[.string x.key,.slice a n c,.int .u64 x.dl,.int .u64 x.birth] 70 (0,0))∧zW w (.slice a n c) (zJ x.val) ∧ ∀ g,(Value.slice a n c).ownBlock=some g→G g
theorem JU.in_{w0:World}{q:Nat}{x:CE}(h:JU w0 w q x):js (fun g=>w0.heap.size≤g∧g<w.heap.size) w q x:=by
 obtain⟨a,n,c,h1,h2,h3⟩:=h;exact⟨a,n,c,h1,h2,fun g hg=>⟨h3 g hg,xV h2 hg⟩⟩
theorem js.mod{G:Nat→Prop}{q:Nat}{x:CE}{S:Nat→Prop}(h:js G w q x)(hm:Mod S w w')(h1 : ¬ S q)(h2 : ∀ g,G g → ¬ S g):js G w' q x:=by
 obtain⟨a,n,c,k1,k2,k3⟩:=h;exact⟨a,n,c,hm.heap h1 k1,zz k2 hm (fun g hg=>h2 g (k3 g hg)),k3⟩
theorem zgF(h:zo Fo w b s){c1 q sl:Nat}{v0 v1 v2 v3:Value}(h1:w.heap[c1]? = some (.cells #[lkP b.p] 41 (0,0)))(h2:w.heap[q]? = some (.cells #[v0,v1,v2,v3] 70 (0,0)))(hq : ¬ b.D q)(h0:q≠0){x:CE}(hx:s.L[sl]? = some (some x))(hs:sl≤4294967295) :
  Calls prog 46 #[.int .u32 sl,.pointer (some ⟨c1,0,none⟩),.pointer (some ⟨q,0,none⟩)] w fun e w'=>e=.returned (.tuple #[])∧zo Fo w' b s∧Mod (fun k=>k=q) w w'∧JU w w' q x:=by
 have HG:=za (JT h.dict (Yq hx));have HH:=za h;have HQ:=za hq;have H2:=za h2;have hb:=h.box;clear h hx hq;obtain⟨hb_0,hb_1,hb_2,hb_3,hb_4,hb_5,hb_6,hb_7,hb_8,hb_9,hb_10,hb_f,hb_l,H_hb⟩:=xW hb;clear hb;obtain⟨h1_0,h1_f,h1_l,H_h1⟩:=cr1 h1;clear h1;go_enter func46,ntmps46
 go_wp2_with (go_at_call 43;refine HG.out.mono ?_;rintro e w2 ⟨a,n,c,rfl,hby,hfr,hp2⟩;have k0:=zi w2 q 0 _ _ (0,0) (hp2.heap (fun h=>h) H2.out);have k1:=zi w2 q 1 _ _ (0,0) (hp2.heap (fun h=>h) H2.out);have k2:=zi w2 q 2 _ _ (0,0) (hp2.heap (fun h=>h) H2.out);have k3:=zi w2 q 3 _ _ (0,0) (hp2.heap (fun h=>h) H2.out);have kf:=fun j=>yS w2 q j _ _ (hp2.heap (fun h=>h) H2.out);have kl:=zm (hp2.heap (fun h=>h) H2.out);simp at k0 k1 k2 k3)
 obtain⟨Y,hY⟩:=zf ((((w2.setCell ⟨q,0,none⟩ (.string x.key)).setCell ⟨q,1,none⟩ (.slice a n c)).setCell ⟨q,2,none⟩ (.int .u64 x.dl)).setCell ⟨q,3,none⟩ (.int .u64 x.birth));have y4:=hp2.heap (fun h=>h) H2.out;obtain⟨g1,g2⟩:=Xa y4 hY;rw[hY];have hm:Mod (fun k=>k=q) w Y:=Mod.trans' hp2 g1 (fun _ _ h=>h.elim) (fun _ _ h=>h)
 go_end0
 refine⟨rfl,HH.out.beside hm (fun k hk e=>by subst e;exact HQ.out hk) (fun k _ e => .inr (fun cs fz hb=>by subst e;rw[H2.out]at hb;injection hb with hb;injection hb with _ hb;exact absurd hb (by decide))) (fun e => ?_),hm,a,n,c,by simpa using g2,?_,hfr⟩
 ·exact h0 e.symm
 ·exact kT hby g1 (fun k _ e cs fz e2=>by subst e;rw[y4]at e2;cases e2)
end
section
variable{Fo:Nat→Prop}{w w':World}{b:CaB}{s:CaS}
theorem zid(h:zo Fo w b s){c1 q sl:Nat}{v0 v1 v2 v3:Value}(h1:w.heap[c1]? = some (.cells #[lkP b.p] 41 (0,0)))(h2:w.heap[q]? = some (.cells #[v0,v1,v2,v3] 70 (0,0)))(hq : ¬ b.D q)(h0:q≠0)(hc1 : ¬ b.D c1)(hc1q:c1≠q){x:CE}(hx:s.L[sl]? = some (some x))(hy:(⟨sl,x.cost⟩:Wt)∈s.A++s.B)(hU:s.U=Bu.of s.A s.B)(hcfg:s.cfg.ok)(hlim:s.lim=s.cfg.part)(hn:(s.A++s.B).length≤1048577) :
    Calls prog 42 #[.int .u32 sl,.pointer (some ⟨c1,0,none⟩),.pointer (some ⟨q,0,none⟩)] w fun e w'=>e=.returned (.tuple #[]) ∧ ∃ b',zo Fo w' b' (vX s ⟨sl,x.cost⟩)∧vH (fun k=>k=q) w w' b b'∧js (fun g=>w.heap.size≤g∧g<w'.heap.size ∧ ¬ b'.D g) w' q x:=by
  have HG:=za (JT h.dict (Yq hx));have HH:=za h;have HQ:=za hq;have H1:=za h1;have H0:=za h0;have HC1:=za hc1;have HNE:=za hc1q;have HY:=za hy;have HU:=za hU;have HCF:=za hcfg;have HLI:=za hlim;have HN:=za hn;have H2:=za h2;have hb:=h.box;clear h hx hq h0 hc1 hc1q hy hU hcfg hlim hn;obtain⟨hb_0,hb_1,hb_2,hb_3,hb_4,hb_5,hb_6,hb_7,hb_8,hb_9,hb_10,hb_f,hb_l,H_hb⟩:=xW hb;clear hb;obtain⟨h1_0,h1_f,h1_l,H_h1⟩:=cr1 h1;clear h1;go_enter func42,ntmps42;go_upto_region 1 with(go_at_call 43;refine HG.out.mono ?_;rintro e w2 ⟨a,n,c,rfl,hby,hfr,hp2⟩;have k0:=zi w2 q 0 _ _ (0,0) (hp2.heap (fun h=>h) H2.out);have k1:=zi w2 q 1 _ _ (0,0) (hp2.heap (fun h=>h) H2.out);have k2:=zi w2 q 2 _ _ (0,0) (hp2.heap (fun h=>h) H2.out);have k3:=zi w2 q 3 _ _ (0,0) (hp2.heap (fun h=>h) H2.out);have kf:=fun j=>yS w2 q j _ _ (hp2.heap (fun h=>h) H2.out);have kl:=zm (hp2.heap (fun h=>h) H2.out);simp at k0 k1 k2 k3)
  obtain⟨Y,hY⟩:=zf ((((w2.setCell ⟨q,0,none⟩ (.string x.key)).setCell ⟨q,1,none⟩ (.slice a n c)).setCell ⟨q,2,none⟩ (.int .u64 x.dl)).setCell ⟨q,3,none⟩ (.int .u64 x.birth));have y4:=hp2.heap (fun h=>h) H2.out;obtain⟨g1,g2⟩:=Xa y4 hY;rw[hY];have hm:Mod (fun k=>k=q) w Y:=Mod.trans' hp2 g1 (fun _ _ h=>h.elim) (fun _ _ h=>h);have hc9:=HH.out.beside hm (fun k hk e=>by subst e;exact HQ.out hk) (fun k _ e => .inr (fun cs fz hb=>by subst e;rw[H2.out]at hb;injection hb with hb;injection hb with _ hb;exact absurd hb (by decide))) (fun e=>H0.out e.symm);have hby9:zW Y (.slice a n c) (zJ x.val):=kT hby g1 (fun k _ e cs fz e2=>by subst e;rw[y4]at e2;cases e2);have HC9:=za hc9;have HM9:=za hm;have HB9:=za hby9;have HE9:=za (show Y.heap[q]? = some (.cells #[.string x.key,.slice a n c,.int .u64 x.dl,.int .u64 x.birth] 70 (0,0)) by simpa using g2);have HFR:=za hfr;have hb9:=hc9.box;have h19:=hm.heap HNE.out H1.out;have HOf:=za (V3 hc9.order HY.out);have HUse:=za (zaF hc9 HY.out (nc:=x.cost) (hc9.order.law.rng _ HY.out).2 HU.out HCF.out HLI.out HN.out);dsimp only at HOf HUse;obtain⟨g,hg⟩:=zf (gOf s.B sl);rw[hg]at HOf;clear hb_0 hb_1 hb_2 hb_3 hb_4 hb_5 hb_6 hb_7 hb_8 hb_9 hb_10 hb_f hb_l;clear h1_0 h1_f h1_l;clear H_hb H_h1 hY hm hc9 hby9 g1 g2 y4 hby hfr k0 k1 k2 k3 kf kl hg hp2;obtain⟨hb9_0,hb9_1,hb9_2,hb9_3,hb9_4,hb9_5,hb9_6,hb9_7,hb9_8,hb9_9,hb9_10,hb9_f,hb9_l,H_hb9⟩:=xW hb9;clear hb9;obtain⟨h19_0,h19_f,h19_l,H_h19⟩:=cr1 h19;clear h19
  go_wp2_with (first
    | (go_at_call 44;refine HOf.out.mono ?_;rintro e w' ⟨rfl,rfl⟩)
    | (go_at_call 45;refine HUse.out.mono ?_;rintro e w4 ⟨rfl,b4,hc4,ht4⟩))
  go_end0
  exact⟨rfl,b4,hc4,⟨ht4.p,Mod.trans' HM9.out ht4.mod (fun _ _ e => .inr e) (fun _ _ e => .inl e),fun k hk=>(ht4.grew k hk).imp (fun e=>e) (fun e=>zF HM9.out.size e)⟩,a,n,c,ht4.mod.heap HQ.out HE9.out,zz HB9.out ht4.mod (fun g hg e=>by have:=HFR.out g hg;have:=HH.out.lt e;omega),fun g hg=>⟨HFR.out g hg,vh (xV HB9.out hg) ht4.mod.size,fun e=>by
    have h1:=HFR.out g hg;have h2:=xV HB9.out hg;rcases ht4.grew g e with e | e
    · have:=HH.out.lt e;omega
    · omega⟩⟩
end
section
variable{Fo:Nat→Prop}{w w':World}{b:CaB}{s:CaS}
def zlJ(Fo:Nat→Prop)(w:World)(b:CaB)(s:CaS)(e:Ending)(w':World):Prop :=
 ∃ a c es,e=.returned (.slice a s.evs.length c)∧es.map Prod.fst=s.evs∧jV w' a c es∧xK w (.slice a s.evs.length c) ∧ ∃ b',zo Fo w' b' {s with evs:=[]}∧zu w w' b b'
theorem zkt(h:zo Fo w b s)(hev:s.evs.length≤1048576):Calls prog 35 #[lkP b.p] w (zlJ Fo w b s):=by
 have hevl:b.ns.length=s.evs.length:=by have:=congrArg List.length h.evs;unfold Zj at this;rw[yH]at this;exact this
 have HN:=za (Zs h);have hD:=h.pure (Mod.refl (fun _=>False) w).drew;have HE:Hid (Calls prog 65 #[lkP b.v] w.drew fun e w'=>e=.returned (.int .i64 s.evs.length)∧w.drew=w'):=za (by
  obtain⟨k0,k1,k2,k3,k4,k5,h1⟩:=hD.ev;rw[← hevl];exact zbd h1)
 have ht:=zjX hD.ev (by omega);rw[hevl]at ht;have HT:=za ht;have HH:=za h;have HEV:=za hevl;have c5:w.drew.cell? ⟨b.p,5,none⟩=some (lkP b.v):=zi w b.p 5 _ _ (0,0) h.box;have HD:=za hD;clear h ht hevl hev hD;go_enter func35,ntmps35;go_upto_region 3 with(go_at_call 49;refine HN.out.mono ?_;rintro e w' ⟨rfl,rfl⟩)
 refine rHd (S:=fun Y=>Y.cell? ⟨b.p,5,none⟩=some (lkP b.v)) c5 (fun h_ => ?_);refine hTk 0 ?_;refine hTk 1 ?_;refine hTk 2 ?_;refine hTk 3 ?_;refine hLd 4 ?_;refine hTk 5 ?_;refine hTk 6 ?_;refine hTk 7 ?_;refine hTk 8 ?_;refine hLd 9 ?_
 (refine hSt 10 (fun K hK => ?_);go_simp;refine HE.out.mono ?_;rintro e u1 ⟨rfl,rfl⟩;refine hK.out _ _ ?_ (fun h_ => ?_);(· exact c5);clear hK K;refine clA ?_)
 (refine hSt 11 (fun K hK => ?_);go_simp;refine HT.out.mono ?_;rintro e w2 ⟨a,c,rfl,hrow,hfr,hev2,hm⟩;refine hK.out _ _ ?_ (fun h_ => ?_);(· exact hm.cell (a:=⟨b.p,5,none⟩) (fun e=>by have e3:b.p=b.v:=e;have e1:=HH.out.sep.v b.v (.inl rfl);have e2:=HH.out.sep.p;rw[e3,e1]at e2;cases e2) c5);clear hK K;refine clA ?_)
 refine hTk 12 ?_;refine hTk 13 ?_;refine hTk 14 ?_;refine hTk 15 ?_;refine hTk 16 ?_;refine hDn ?_;clear h_;have hme:Mod (evD b.v b.ns) w w2:=Mod.trans' (Mod.refl (fun _=>False) w).drew hm (fun _ _ h=>h.elim) (fun _ _ e => .inl e);have hg : ∀ k,evD b.v [] k→evD b.v b.ns k∨w.heap.size≤k:=fun k hk=>by
  rcases hk with e | ⟨n,hn,_⟩
  ·exact .inl (.inl e)
  ·cases hn
 have HC:=za (HH.out.putEv (evs':=[]) hev2 rfl hme hg);have HTo:=za (zu.ofEv hme hg);have HRow:=za hrow;have HFr:=za hfr;clear hrow hfr hev2 hm hme hg c5;go_wp2;go_ret;refine⟨a,c,jG b.ns,by rw[HEV.out];rfl,?_,HRow.out,?_,_,HC.out,HTo.out⟩
 ·rw[← HH.out.evs];unfold jG Zj;rw[qX];rfl
 ·have h9:=HFr.out;rw[HEV.out]at h9;exact h9
end
section
variable{Fo:Nat→Prop}{w w':World}{b:CaB}{s:CaS}
theorem Azv3b {P:Prop}(h:P:=by
 rintro e w' ⟨rfl,hm⟩;exact⟨rfl,hal.then hm (fun i hi e=>by
  have e2:(some Y.heap.size:Option Nat)=some i:=e;have e3:=vZ e2;omega)⟩):P:=h
theorem VX(h:zo Fo w b s)(e0:Int)(hev:s.evs.length≤1048576)(Y:World)(hY:zb w Y):Calls prog 38 #[lkP b.p,.slice (some ⟨Y.heap.size,0,none⟩) 1 1] (Y.alloc (.cells #[.int .i64 e0] 24)) fun e w'=>e=.returned (.int .i64 (xE [e0,ve s]))∧zb Y w':=by
 have hal:zb Y (Y.alloc (.cells #[.int .i64 e0] 24)):=(Mod.refl _ Y).alloc _;refine(XK (h.pure (hY.trans hal)) (a:=some ⟨Y.heap.size,0,none⟩) (n:=1) (c:=1) (l:=[e0]) (UX rfl) rfl (by omega) hev).mono ?_;exact Azv3b
theorem zgU{w:World}{T:TypeId}{v u:Value}(h1:v.oneCell'=true)(h2:u.oneCell'=true):(w.alloc (.cells #[v,u] T)).ownsRow 0 T 1 (.slice (some ⟨w.heap.size,0,none⟩) 2 2) 2 [v,u] :=
 ⟨rfl,.inr ⟨_,_,#[v,u],rfl,yq _,heap_alloc_new w _,zN _,by simp[maxLen],by simp,by simp⟩⟩
theorem QY(h:zo Fo w b s)(e0 e1:Int)(hev:s.evs.length≤1048576)(Y:World)(hY:zb w Y):Calls prog 38 #[lkP b.p,.slice (some ⟨Y.heap.size,0,none⟩) 2 2] (Y.alloc (.cells #[.int .i64 e0,.int .i64 e1] 24)) fun e w'=>e=.returned (.int .i64 (xE [e0,e1,ve s]))∧zb Y w':=by
 have hal:zb Y (Y.alloc (.cells #[.int .i64 e0,.int .i64 e1] 24)):=(Mod.refl _ Y).alloc _;refine(XK (h.pure (hY.trans hal)) (a:=some ⟨Y.heap.size,0,none⟩) (n:=2) (c:=2) (l:=[e0,e1]) (zgU rfl rfl) rfl (by omega) hev).mono ?_;exact Azv3b
theorem zeE(h:zo Fo w b s){t:Nat}{sl c1 q:Nat}{v0 v1 v2 v3:Value}{W0 W:World}{b1:CaB}(hw:zb w W0)(hC:zo Fo W b1 (zl s t))(hT:zu W0 W b b1)(h1:W0.heap[c1]? = some (.cells #[lkP b.p] 41 (0,0)))(h2:W0.heap[q]? = some (.cells #[v0,v1,v2,v3] 70 (0,0)))(n1 : ¬ b.D c1)(nq : ¬ b.D q)(h0:q≠0){x:CE}(hx:(zl s t).L[sl]? = some (some x))(hs:sl≤4294967295)(hR:vx (zl s t) yp) :
  Calls prog 46 #[.int .u32 sl,.pointer (some ⟨c1,0,none⟩),.pointer (some ⟨q,0,none⟩)] W (YS Fo (fun k=>k=q) W0 W b1 (fun s2 Y=>s2=zl s t ∧ ∃ G:Nat→Prop,(∀ g,G g→w.heap.size≤g)∧js G Y q x)):=by
 have nq1 : ¬ b1.D q:=hT.nd nq (zm h2);refine(zgF hC (by rw[hT.p];exact hT.mod.heap n1 h1) (hT.mod.heap nq h2) nq1 h0 hx hs).mono ?_;rintro e w' ⟨rfl,k1,k2,k3⟩;have hq:=zm h2;have hW:=hT.mod.size;have hl : ∀ k,b1.D k→k<W.heap.size:=fun k hk=>hC.lt hk
 refine⟨rfl,_,b1,fun Y=>js (fun g=>W.heap.size≤g∧g<w'.heap.size) Y q x,k1,⟨rfl,k2.mono (fun _ _ e => .inr e),fun _ e => .inl e⟩,hR,k3.in_,fun W1 W2 S h1 h2 h3=>h1.mod h2 (fun e => ?_) (fun g hg e => ?_),fun Y hY=>⟨rfl,_,fun g hg=>zF (zF hw.size hW) hg.1,hY⟩⟩
 ·rcases h3 _ e with c | c | c
  ·exact nq1 c
  ·have:=k2.size;omega
  ·omega
 ·rcases h3 _ e with c | c | c
  ·have:=hl _ c;have:=hg.1;omega
  ·have:=hg.2;omega
  ·have:=hg.1;omega
def zfn(Fo:Nat→Prop)(w:World)(b:CaB)(x:CE)(s':CaS)(e:Ending)(w':World):Prop := ∃ a n c,e=.returned (.tuple #[ceV x (.slice a n c),.bool true,.int .i64 0])∧zW w' (.slice a n c) (zJ x.val)∧xK w (.slice a n c) ∧ ∃ b',zo Fo w' b' s'∧zu w w' b b'
theorem ziD(h:zo Fo w b s){t:Nat}(ht:t≤18446744073709551615)(hev:s.evs.length≤1048576)(hr:ve s=0)(hlv:vm 1 (tmS s t) (yT s t)){key:ByteArray}(hk:key.size≤140737488355328)(hkE:ky key=0){sl:Nat}(hs:sl≤4294967295)(hf:yN (zP (zl s t).L) key=some sl){x:CE}(hx:(zl s t).L[sl]? = some (some x))(hR:vx (zl s t) yp) :
  Calls prog 24 #[lkP b.p,.int .u64 t,.string key] w (zfn Fo w b x (pkS (evS (zl s t) yp))):=by
 have HK:=za (fun Y=>YB key Y hk);have e2:(if xo key.size=true then(0:Int)else 2)=0:=hkE;rw[e2]at HK;have hc:=VX h 0 hev;have e7:xE [0,ve s]=0:=by rw[hr];rfl
 rw[e7]at hc;have HC:=za hc;have HFd:=za (fun(Y:World) (c1 q:Nat) (hY:zb w Y) (h1:Y.heap[c1]? = some (.cells #[lkP b.p] 41 (0,0))) (h2:Y.heap[q]? = some (.cells #[.string ⟨#[]⟩,.slice none 0 0,.int .u64 0,.int .u64 0] 70 (0,0))) (l1:w.heap.size≤c1) (l2:w.heap.size≤q) =>
  have n1 : ¬ b.D c1:=fun e=>by have:=h.lt e;omega
  have nq : ¬ b.D q:=fun e=>by have:=h.lt e;omega
  find_some (h.pure hY) ht hlv hk (X:=fun k=>k=q) (fun k hk=>by subst hk;exact⟨nq,zm h2⟩) (gf:=46) (lf:=#[.pointer (some ⟨c1,0,none⟩),.pointer (some ⟨q,0,none⟩)]) hf (enters_of func46 (by kernel_rfl) rfl) (Q:=fun s2 Z=>s2=zl s t ∧ ∃ G:Nat→Prop,(∀ g,G g→w.heap.size≤g)∧js G Z q x)
   (fun W b1 hC hT=>zeE h hY hC hT h1 h2 n1 nq (by have:=h.pos;omega) hx hs hR))
 have hb1:=zK (o := .cells #[.string ⟨#[]⟩,.slice none 0 0,.int .u64 0,.int .u64 0] 70) (zk (w:=w) (o := .cells #[lkP b.p] 41 (0,0)) rfl);have hb2:=zk (w:=w.alloc (.cells #[lkP b.p] 41)) (o := .cells #[.string ⟨#[]⟩,.slice none 0 0,.int .u64 0,.int .u64 0] 70 (0,0)) (n:=w.heap.size+1) (by simp);have hp0:zb w ((w.alloc (.cells #[lkP b.p] 41)).alloc (.cells #[.string ⟨#[]⟩,.slice none 0 0,.int .u64 0,.int .u64 0] 70)):=((Mod.refl _ w).alloc _).alloc _;have HND:=za (fun k (e:b.D k)=>h.lt e);have HPS:=za h.pos;clear h hev hr hc e7 hlv hR hx hf e2 hkE;go_enter func24,ntmps24;go_upto_region 1 with fail
 generalize(w.alloc (.cells #[lkP b.p] 41)).alloc (.cells #[.string ⟨#[]⟩,.slice none 0 0,.int .u64 0,.int .u64 0] 70)=W1 at *;obtain⟨c1,hc1⟩:=zf w.heap.size;have HC1:=za hc1;rw[hc1]at hb1 hb2 HFd HND ⊢;clear hc1;have HB1:=za hb1;have HB2:=za hb2;have HP0:=za hp0;have HS:=za (fun(Y:World) (hY:zb W1 Y)=>(zi Y c1 0 _ _ (0,0) (hY.heap (fun h=>h) hb1):Y.cell? ⟨c1,0,none⟩=some (lkP b.p)));clear hb1 hb2 hp0;refine rHd (S:=fun Y=>Y.cell? ⟨c1,0,none⟩=some (lkP b.p)) (HS.out _ (Mod.refl _ _).drew) (fun h_ => ?_);refine hLd 0 ?_;refine hTk 1 ?_
 (refine hSt 2 (fun K hK => ?_);go_simp;refine(HK.out _).mono ?_;rintro e u1 ⟨rfl,rfl⟩;refine hK.out _ _ ?_ (fun h_ => ?_);(· exact HS.out _ (Mod.refl _ _).drew);clear hK K;refine clA ?_)
 (refine hSt 3 (fun K hK => ?_);go_simp;refine hK.out _ _ ?_ (fun h_ => ?_);(· exact HS.out _ ((Mod.refl _ _).drew.alloc _));clear hK K;refine clA ?_)
 (refine hSt 4 (fun K hK => ?_);go_simp;refine zq (HC.out _ (HP0.out.trans (Mod.refl (fun _=>False) W1).drew)) ?_;rintro e u2 ⟨rfl,hq2⟩;refine hK.out _ _ ?_ (fun h_ => ?_);(· exact HS.out _ ((Mod.refl (fun _=>False) W1).drew.trans hq2));clear hK K;refine clA ?_)
 refine hTk 5 ?_;refine hDn ?_;clear h_;have hp2:zb W1 u2:=(Mod.refl (fun _=>False) W1).drew.trans hq2;have HP2:=za hp2;clear hq2 hp2 HC;go_upto_region 5 with fail
 have hal:zb u2 (u2.alloc (.cells #[.string ⟨#[]⟩,.slice none 0 0,.int .u64 0,.int .u64 0] 70)):=(Mod.refl _ u2).alloc _;have hq:=zk (w:=u2) (o := .cells #[.string ⟨#[]⟩,.slice none 0 0,.int .u64 0,.int .u64 0] 70 (0,0)) rfl;have hp3:=HP2.out.trans hal;generalize u2.alloc (.cells #[.string ⟨#[]⟩,.slice none 0 0,.int .u64 0,.int .u64 0] 70)=W3 at *;obtain⟨q,hqe⟩:=zf u2.heap.size;rw[hqe]at hq ⊢;have hg1:=hp3.heap (fun h=>h) HB1.out;have hsz:c1+1<q:=by have h1:=HP2.out.heap (fun h=>h) HB2.out;have:=zm h1;omega
 have HF:=za (HFd.out W3 c1 q (HP0.out.trans hp3) hg1 hq (zN _) (by omega));have HP3:=za hp3;have HSZ:=za hsz;have HQ:=za hq;clear hal hqe hp3 HFd hq hsz;obtain⟨hg1_0,hg1_f,hg1_l,H_hg1⟩:=cr1 hg1;clear hg1;go_upto_region 6 with(go_at_call 40;refine HF.out.mono ?_;rintro e w4 ⟨rfl,s2,b4,hc4,ht4,rfl,G,hlo,hE⟩)
 obtain⟨a,n,c,g4,hby,hfr⟩:=hE;have g6:=ht4.mod.heap (fun e=>e.elim (fun e=>by have:=HND.out _ e;have:=HC1.out;omega) (fun e=>by have:=HSZ.out;omega)) (HP3.out.heap (fun h=>h) HB2.out);have HG4:=za g4;have HG6:=za g6;have HBY:=za hby;have HFR:=za hfr;have HC4:=za hc4;have HT4:=za ht4;have HLO:=za hlo;clear hc4 ht4 hby hfr hlo;clear hg1_0 hg1_f hg1_l;clear H_hg1;obtain⟨g4_0,g4_1,g4_2,g4_3,g4_f,g4_l,H_g4⟩:=cr4 g4;clear g4;obtain⟨g6_0,g6_1,g6_2,g6_3,g6_f,g6_l,H_g6⟩:=cr4 g6;clear g6;go_wp2;obtain⟨Y,hY⟩:=zf ((((w4.setCell ⟨c1+1,0,none⟩ (.string x.key)).setCell ⟨c1+1,1,none⟩ (.slice a n c)).setCell ⟨c1+1,2,none⟩ (.int .u64 x.dl)).setCell ⟨c1+1,3,none⟩ (.int .u64 x.birth));obtain⟨g1,g2⟩:=Xa HG6.out hY;rw[hY];have n6 : ¬ b4.D (c1+1):=HT4.out.nd (fun e=>by have:=HND.out _ e;have:=HC1.out;omega) (zm (HP3.out.heap (fun h=>h) HB2.out));have hc9:=HC4.out.beside g1 (fun k hk e=>by subst e;exact n6 hk) (fun k _ e => .inr (fun cs fz hb=>by subst e;rw[HG6.out]at hb;injection hb with hb;injection hb with _ hb;exact absurd hb (by decide))) (by omega);have hby9:zW Y (.slice a n c) (zJ x.val):=kT HBY.out g1 (fun k _ e cs fz e2=>by subst e;rw[HG6.out]at e2;cases e2);obtain⟨g2_0,g2_1,g2_2,g2_3,g2_f,g2_l,H_g2⟩:=cr4 g2;clear g2;refine zR (v := .tuple #[ceV x (.slice a n c),.bool true,.int .i64 0]) (by simp[results,results24,go_sem,g2_0,g2_1,g2_2,g2_3]) rfl ⟨a,n,c,rfl,hby9,fun g hg=>by have:=HLO.out g (HFR.out g hg);have:=HC1.out;omega,b4,hc9,⟨HT4.out.p,?_,fun k hk=>(HT4.out.grew k hk).imp (fun e=>e) (fun e=>zF (HP0.out.trans HP3.out).size e)⟩⟩;refine Mod.trans' (Mod.trans' (HP0.out.trans HP3.out) HT4.out.mod (U:=fun k=>b.D k∨k=q) (fun _ _ h=>h.elim) (fun _ _ h=>h)) g1 (fun i hi e=>e.elim (fun e=>e) (fun e=>by have:=HSZ.out;have:=HC1.out;omega)) (fun i hi e=>by have:=HC1.out;omega)
end
section
variable{Fo:Nat→Prop}{w w':World}{b:CaB}{s:CaS}
theorem zj9(h:zo Fo w b s){t:Nat}{sl c1 q:Nat}{v0 v1 v2 v3:Value}{W0 W:World}{b1:CaB}(hw:zb w W0)(hC:zo Fo W b1 (zl s t))(hT:zu W0 W b b1)(h1:W0.heap[c1]? = some (.cells #[lkP b.p] 41 (0,0)))(h2:W0.heap[q]? = some (.cells #[v0,v1,v2,v3] 70 (0,0)))(n1 : ¬ b.D c1)(nq : ¬ b.D q)(h0:q≠0)(hne:c1≠q){x:CE}(hx:(zl s t).L[sl]? = some (some x))(hy:(⟨sl,x.cost⟩:Wt)∈(zl s t).A++(zl s t).B)(hU:(zl s t).U=Bu.of (zl s t).A (zl s t).B)(hcfg:(zl s t).cfg.ok)(hlim:(zl s t).lim=(zl s t).cfg.part)(hn:((zl s t).A++(zl s t).B).length≤1048577)(hR:vx (vX (zl s t) ⟨sl,x.cost⟩) yp) :
  Calls prog 42 #[.int .u32 sl,.pointer (some ⟨c1,0,none⟩),.pointer (some ⟨q,0,none⟩)] W (YS Fo (fun k=>k=q) W0 W b1 (fun s2 Y=>s2=vX (zl s t) ⟨sl,x.cost⟩ ∧ ∃ G:Nat→Prop,(∀ g,G g→w.heap.size≤g)∧js G Y q x)):=by
 have nq1 : ¬ b1.D q:=hT.nd nq (zm h2);refine(zid hC (by rw[hT.p];exact hT.mod.heap n1 h1) (hT.mod.heap nq h2) nq1 h0 (hT.nd n1 (zm h1)) hne hx hy hU hcfg hlim hn).mono ?_;rintro e w' ⟨rfl,b2,k1,k2,k3⟩;have hq:=zm h2;have hW:=hT.mod.size;have nq2 : ¬ b2.D q:=k2.nd nq1 (vh hq hW);refine⟨rfl,_,b2,fun Y=>js (fun g=>W.heap.size≤g∧g<w'.heap.size ∧ ¬ b2.D g) Y q x,k1,k2,hR,k3,fun W1 W2 S h1 h2 h3=>h1.mod h2 (fun e => ?_) (fun g hg e => ?_),fun Y hY=>⟨rfl,_,fun g hg=>zF (zF hw.size hW) hg.1,hY⟩⟩
 ·rcases h3 _ e with c | c | c
  ·exact nq2 c
  ·have:=k2.mod.size;omega
  ·omega
 ·rcases h3 _ e with c | c | c
  ·exact hg.2.2 c
  ·have:=hg.2.1;omega
  ·have:=hg.1;omega
def zeL(Fo:Nat→Prop)(w:World)(b:CaB)(x:CE)(s':CaS)(e:Ending)(w':World):Prop := ∃ a n c,e=.returned (.tuple #[.slice a n c,.bool true,.int .i64 0])∧zW w' (.slice a n c) (zJ x.val)∧xK w (.slice a n c) ∧ ∃ b',zo Fo w' b' s'∧zu w w' b b'
theorem zc6(h:zo Fo w b s){t:Nat}(ht:t≤18446744073709551615)(hev:s.evs.length≤1048576)(hr:ve s=0)(hlv:vm 1 (tmS s t) (yT s t)){key:ByteArray}(hk:key.size≤140737488355328)(hkE:ky key=0){sl:Nat}(hf:yN (zP (zl s t).L) key=some sl){x:CE}(hx:(zl s t).L[sl]? = some (some x))(hy:(⟨sl,x.cost⟩:Wt)∈(zl s t).A++(zl s t).B)(hU:(zl s t).U=Bu.of (zl s t).A (zl s t).B)(hcfg:(zl s t).cfg.ok)(hlim:(zl s t).lim=(zl s t).cfg.part)(hn:((zl s t).A++(zl s t).B).length≤1048577)(hR:vx (vX (zl s t) ⟨sl,x.cost⟩) yp) :
  Calls prog 23 #[lkP b.p,.int .u64 t,.string key] w (zeL Fo w b x (pkS (evS (vX (zl s t) ⟨sl,x.cost⟩) yp))):=by
 have HK:=za (fun Y=>YB key Y hk);have e2:(if xo key.size=true then(0:Int)else 2)=0:=hkE;rw[e2]at HK;have hc:=VX h 0 hev;have e7:xE [0,ve s]=0:=by rw[hr];rfl
 rw[e7]at hc;have HC:=za hc;have HFd:=za (fun(Y:World) (c1 q:Nat) (hY:zb w Y) (h1:Y.heap[c1]? = some (.cells #[lkP b.p] 41 (0,0))) (h2:Y.heap[q]? = some (.cells #[.string ⟨#[]⟩,.slice none 0 0,.int .u64 0,.int .u64 0] 70 (0,0))) (l1:w.heap.size≤c1) (l2:w.heap.size≤q) (hne:c1≠q) =>
  have n1 : ¬ b.D c1:=fun e=>by have:=h.lt e;omega
  have nq : ¬ b.D q:=fun e=>by have:=h.lt e;omega
  find_some (h.pure hY) ht hlv hk (X:=fun k=>k=q) (fun k hk=>by subst hk;exact⟨nq,zm h2⟩) (gf:=42) (lf:=#[.pointer (some ⟨c1,0,none⟩),.pointer (some ⟨q,0,none⟩)]) hf (enters_of func42 (by kernel_rfl) rfl) (Q:=fun s2 Z=>s2=vX (zl s t) ⟨sl,x.cost⟩ ∧ ∃ G:Nat→Prop,(∀ g,G g→w.heap.size≤g)∧js G Z q x)
   (fun W b1 hC hT=>zj9 h hY hC hT h1 h2 n1 nq (by have:=h.pos;omega) hne hx hy hU hcfg hlim hn hR))
 have hb1:=zk (w:=w) (o := .cells #[lkP b.p] 41 (0,0)) rfl;have hp0:zb w (w.alloc (.cells #[lkP b.p] 41)):=(Mod.refl _ w).alloc _;have HND:=za (fun k (e:b.D k)=>h.lt e);have HPS:=za h.pos;obtain⟨s9,hs9⟩:=zf (pkS (evS (vX (zl s t) ⟨sl,x.cost⟩) yp));have HS9:=za hs9;rw[hs9];clear h hev hr hc e7 hlv hR hx hf e2 hkE hy hU hcfg hlim hn hs9;go_enter func23,ntmps23;go_upto_region 1 with fail
 generalize w.alloc (.cells #[lkP b.p] 41)=W1 at *;obtain⟨c1,hc1⟩:=zf w.heap.size;have HC1:=za hc1;rw[hc1]at hb1 HFd HND ⊢;clear hc1;have HB1:=za hb1;have HP0:=za hp0;have HS:=za (fun(Y:World) (hY:zb W1 Y)=>(zi Y c1 0 _ _ (0,0) (hY.heap (fun h=>h) hb1):Y.cell? ⟨c1,0,none⟩=some (lkP b.p)));clear hb1 hp0;refine rHd (S:=fun Y=>Y.cell? ⟨c1,0,none⟩=some (lkP b.p)) (HS.out _ (Mod.refl _ _).drew) (fun h_ => ?_);refine hLd 0 ?_;refine hTk 1 ?_
 (refine hSt 2 (fun K hK => ?_);go_simp;refine(HK.out _).mono ?_;rintro e u1 ⟨rfl,rfl⟩;refine hK.out _ _ ?_ (fun h_ => ?_);(· exact HS.out _ (Mod.refl _ _).drew);clear hK K;refine clA ?_)
 (refine hSt 3 (fun K hK => ?_);go_simp;refine hK.out _ _ ?_ (fun h_ => ?_);(· exact HS.out _ ((Mod.refl _ _).drew.alloc _));clear hK K;refine clA ?_)
 (refine hSt 4 (fun K hK => ?_);go_simp;refine zq (HC.out _ (HP0.out.trans (Mod.refl (fun _=>False) W1).drew)) ?_;rintro e u2 ⟨rfl,hq2⟩;refine hK.out _ _ ?_ (fun h_ => ?_);(· exact HS.out _ ((Mod.refl (fun _=>False) W1).drew.trans hq2));clear hK K;refine clA ?_)
 refine hTk 5 ?_;refine hDn ?_;clear h_;have hp2:zb W1 u2:=(Mod.refl (fun _=>False) W1).drew.trans hq2;have HP2:=za hp2;clear hq2 hp2 HC;go_upto_region 5 with fail
 have hal:zb u2 (u2.alloc (.cells #[.string ⟨#[]⟩,.slice none 0 0,.int .u64 0,.int .u64 0] 70)):=(Mod.refl _ u2).alloc _;have hq:=zk (w:=u2) (o := .cells #[.string ⟨#[]⟩,.slice none 0 0,.int .u64 0,.int .u64 0] 70 (0,0)) rfl;have hp3:=HP2.out.trans hal;generalize u2.alloc (.cells #[.string ⟨#[]⟩,.slice none 0 0,.int .u64 0,.int .u64 0] 70)=W3 at *;obtain⟨q,hqe⟩:=zf u2.heap.size;rw[hqe]at hq ⊢;have hg1:=hp3.heap (fun h=>h) HB1.out;have hsz:c1<q:=by have h1:=HP2.out.heap (fun h=>h) HB1.out;have:=zm h1;omega
 have HF:=za (HFd.out W3 c1 q (HP0.out.trans hp3) hg1 hq (zN _) (by omega) (by omega));have HP3:=za hp3;have HSZ:=za hsz;have HQ:=za hq;clear hal hqe hp3 HFd hq hsz;obtain⟨hg1_0,hg1_f,hg1_l,H_hg1⟩:=cr1 hg1;clear hg1;go_upto_region 6 with(go_at_call 40;refine HF.out.mono ?_;rintro e w4 ⟨rfl,s2,b4,hc4,ht4,rfl,G,hlo,hE⟩)
 obtain⟨a,n,c,g4,hby,hfr⟩:=hE;rw[HS9.out]at hc4;have HBY:=za hby;have HFR:=za hfr;have HC4:=za hc4;have HT4:=za ht4;have HLO:=za hlo;clear hc4 ht4 hby hfr hlo;clear hg1_0 hg1_f hg1_l;clear H_hg1;obtain⟨g4_0,g4_1,g4_2,g4_3,g4_f,g4_l,H_g4⟩:=cr4 g4;clear g4;go_wp2;refine zR (v := .tuple #[.slice a n c,.bool true,.int .i64 0]) (by simp[results,results23,go_sem]) rfl ⟨a,n,c,rfl,HBY.out,fun g hg=>by have:=HLO.out g (HFR.out g hg);have:=HC1.out;omega,b4,HC4.out,⟨HT4.out.p,?_,fun k hk=>(HT4.out.grew k hk).imp (fun e=>e) (fun e=>zF (HP0.out.trans HP3.out).size e)⟩⟩;exact Mod.trans' (HP0.out.trans HP3.out) HT4.out.mod (fun _ _ h=>h.elim) (fun i hi e=>e.elim (fun e=>e) (fun e=>by have:=HSZ.out;have:=HC1.out;omega))
def zh5(Fo:Nat→Prop)(w:World)(b:CaB)(s':CaS)(e:Ending)(w':World):Prop:=e=.returned (.tuple #[.slice none 0 0,.bool false,.int .i64 0]) ∧ ∃ b',zo Fo w' b' s'∧zu w w' b b'
theorem zbQ(h:zo Fo w b s){t:Nat}(ht:t≤18446744073709551615)(hev:s.evs.length≤1048576)(hr:ve s=0)(hlv:vm 1 (tmS s t) (yT s t)){key:ByteArray}(hk:key.size≤140737488355328)(hkE:ky key=0)(hf:yN (zP (zl s t).L) key=none)(hR:vx (zl s t) yp) :
  Calls prog 23 #[lkP b.p,.int .u64 t,.string key] w (zh5 Fo w b (pkS (evS (zl s t) yp))):=by
 have HK:=za (fun Y=>YB key Y hk);have e2:(if xo key.size=true then(0:Int)else 2)=0:=hkE;rw[e2]at HK;have hc:=VX h 0 hev;have e7:xE [0,ve s]=0:=by rw[hr];rfl
 rw[e7]at hc;have HC:=za hc;have HFd:=za (fun(Y:World) (c1 q:Nat) (hY:zb w Y) =>
  Kl (h.pure hY) ht hlv hk (gf:=42) (lf:=#[.pointer (some ⟨c1,0,none⟩),.pointer (some ⟨q,0,none⟩)]) hf hR)
 have hb1:=zk (w:=w) (o := .cells #[lkP b.p] 41 (0,0)) rfl;have hp0:zb w (w.alloc (.cells #[lkP b.p] 41)):=(Mod.refl _ w).alloc _;have HND:=za (fun k (e:b.D k)=>h.lt e);clear h hev hr hc e7 hlv hR hf e2 hkE;go_enter func23,ntmps23;go_upto_region 1 with fail
 generalize w.alloc (.cells #[lkP b.p] 41)=W1 at *;obtain⟨c1,hc1⟩:=zf w.heap.size;have HC1:=za hc1;rw[hc1]at hb1 HND ⊢;clear hc1;have HB1:=za hb1;have HP0:=za hp0;have HS:=za (fun(Y:World) (hY:zb W1 Y)=>(zi Y c1 0 _ _ (0,0) (hY.heap (fun h=>h) hb1):Y.cell? ⟨c1,0,none⟩=some (lkP b.p)));clear hb1 hp0;refine rHd (S:=fun Y=>Y.cell? ⟨c1,0,none⟩=some (lkP b.p)) (HS.out _ (Mod.refl _ _).drew) (fun h_ => ?_);refine hLd 0 ?_;refine hTk 1 ?_
 (refine hSt 2 (fun K hK => ?_);go_simp;refine(HK.out _).mono ?_;rintro e u1 ⟨rfl,rfl⟩;refine hK.out _ _ ?_ (fun h_ => ?_);(· exact HS.out _ (Mod.refl _ _).drew);clear hK K;refine clA ?_)
 (refine hSt 3 (fun K hK => ?_);go_simp;refine hK.out _ _ ?_ (fun h_ => ?_);(· exact HS.out _ ((Mod.refl _ _).drew.alloc _));clear hK K;refine clA ?_)
 (refine hSt 4 (fun K hK => ?_);go_simp;refine zq (HC.out _ (HP0.out.trans (Mod.refl (fun _=>False) W1).drew)) ?_;rintro e u2 ⟨rfl,hq2⟩;refine hK.out _ _ ?_ (fun h_ => ?_);(· exact HS.out _ ((Mod.refl (fun _=>False) W1).drew.trans hq2));clear hK K;refine clA ?_)
 refine hTk 5 ?_;refine hDn ?_;clear h_;have hp2:zb W1 u2:=(Mod.refl (fun _=>False) W1).drew.trans hq2;have HP2:=za hp2;clear hq2 hp2 HC;go_upto_region 5 with fail
 have hal:zb u2 (u2.alloc (.cells #[.string ⟨#[]⟩,.slice none 0 0,.int .u64 0,.int .u64 0] 70)):=(Mod.refl _ u2).alloc _;have hq:=zk (w:=u2) (o := .cells #[.string ⟨#[]⟩,.slice none 0 0,.int .u64 0,.int .u64 0] 70 (0,0)) rfl;have hp3:=HP2.out.trans hal;generalize u2.alloc (.cells #[.string ⟨#[]⟩,.slice none 0 0,.int .u64 0,.int .u64 0] 70)=W3 at *;obtain⟨q,hqe⟩:=zf u2.heap.size;rw[hqe]at hq ⊢;have hg1:=hp3.heap (fun h=>h) HB1.out;have hsz:c1<q:=by have h1:=HP2.out.heap (fun h=>h) HB1.out;have:=zm h1;omega
 have HF:=za (HFd.out W3 c1 q (HP0.out.trans hp3));have HP3:=za hp3;have HSZ:=za hsz;have HQ:=za hq;clear hal hqe hp3 HFd hq hsz;obtain⟨hg1_0,hg1_f,hg1_l,H_hg1⟩:=cr1 hg1;clear hg1;go_upto_region 6 with(go_at_call 40;refine HF.out.mono ?_;rintro e w4 ⟨rfl,b4,hc4,ht4⟩)
 have g4:=ht4.mod.heap (fun e=>by have:=HND.out _ e;have:=HSZ.out;omega) HQ.out;have HC4:=za hc4;have HT4:=za ht4;clear hc4 ht4;clear hg1_0 hg1_f hg1_l;clear H_hg1;obtain⟨g4_0,g4_1,g4_2,g4_3,g4_f,g4_l,H_g4⟩:=cr4 g4;clear g4;go_wp2;exact zR (v := .tuple #[.slice none 0 0,.bool false,.int .i64 0]) (by simp[results,results23,go_sem]) rfl ⟨rfl,b4,HC4.out,(zu.pure (HP0.out.trans HP3.out)).trans HT4.out⟩
end
end
end Go.Proofs.YtifbnponicgplaaGreatDoor
