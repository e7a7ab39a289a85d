/- Lemmas and contracts of functions. No condition. -/
import Derived.Test.YtdohbogbnheakaaGreatDoorJPfBoth4018
namespace Go.Proofs.YtdohbogbnheakaaGreatDoor
open _root_.Go.Proofs.Tryz
set_option maxRecDepth 100000
set_option maxHeartbeats 20000000
set_option linter.all false
section
open Go.RowKit Go.Shelf
section
variable{Fo X S:Nat→Prop}{w w':World}{b:CaB}{s:CaS}
theorem zr.beside(h:zr Fo w b s)(hm:Mod S w w')(hd : ∀ k,b.D k → ¬ S k)(hS : ∀ k,k<w.heap.size→S k→Fo k ∨ ∀ cs fz,w.heap[k]? ≠ some (.cells cs 5 fz))(h0 : ¬ S 0):zr Fo w' b s :=
 ⟨hm.heap (hd _ (.inl rfl)) h.box,h.dict.frameF hm (fun k hk=>hd k (.inr (.inl hk))) (fun k hk hs=>(hS k hk hs).imp .inl (fun e=>e)),hm.heap (hd _ (.inr (.inr (.inl rfl)))) h.ctr,h.order.frame hm (fun k hk=>hd k (.inr (.inr (.inr (.inl hk))))),h.used.frame hm (hd _ (.inr (.inr (.inr (.inr (.inl rfl)))))),h.due.frame hm (fun k hk=>hd k (.inr (.inr (.inr (.inr (.inr (.inl hk))))))),
  (by obtain⟨k0,k1,k2,k3,k4,k5,h1⟩:=h.ev;exact⟨k0,k1,k2,k3,k4,k5,h1.frameF hm (fun k hk=>hd k (.inr (.inr (.inr (.inr (.inr (.inr hk))))))) (fun k hk hs=>(hS k hk hs).imp .inl (fun e=>e))⟩),h.evs,h.sep,h.tab.mod hm h0⟩
theorem zhY(w:World):Calls prog 85 #[] w fun e w'=>e=.returned (.int .u32 4294967295)∧w=w':=by
 go_enter func85,ntmps85;go_wp2;go_ret;exact⟨rfl,rfl⟩
structure FdC(w:World)(p:Nat)(key:ByteArray)(f:Value)(q0:Nat)(i:Bool):Prop where
 z0:w.heap[q0]? = some (.cells #[lkP p] 46 (0,0))
 z1:w.heap[q0+1]? = some (.cells #[.string key] 9 (0,0))
 z2:w.heap[q0+2]? = some (.cells #[f] 150 (0,0))
 z3:w.heap[q0+3]? = some (.cells #[.bool i] 4 (0,0))
def FdS(p d q0:Nat)(key:ByteArray)(Y:World):Prop:=Y.cell? ⟨q0,0,none⟩=some (lkP p)∧Y.cell? ⟨p,0,none⟩=some (xt d)∧Y.cell? ⟨q0+1,0,none⟩=some (.string key)
abbrev fdA(q0:Nat):Array Value:=#[.pointer (some ⟨q0,0,none⟩),.pointer (some ⟨q0+1,0,none⟩),.pointer (some ⟨q0+3,0,none⟩),.pointer (some ⟨q0+2,0,none⟩)]
theorem zkL(h:zr Fo w b s){key:ByteArray}{f:Value}{q0:Nat}{i0:Bool}(hq:FdC w b.p key f q0 i0)(hk:key.size≤140737488355328)(hf:yV (zS s.L) key=none)(hn : ¬ b.D (q0+3)) :
  Calls prog 110 (fdA q0) w fun e w'=>e=.returned (.int .u32 4294967295)∧zr Fo w' b s∧Mod (fun k=>k=q0+3) w w'∧FdC w' b.p key f q0 false:=by
 have hfv:uP (zS s.L) key=(0,9):=by unfold uP;rw[hf]
 have HFi:=za (fun(Y:World) (hY:zc w Y)=>Uq (h.dict.pure hY) key hk);unfold ZU at HFi;rw[hfv]at HFi;have HS:=za (fun(Y:World) (hY:zc w Y)=>(⟨zi Y q0 0 _ _ (0,0) (hY.heap (fun h=>h) hq.z0),zi Y b.p 0 _ _ (0,0) (hY.heap (fun h=>h) h.box),zi Y (q0+1) 0 _ _ (0,0) (hY.heap (fun h=>h) hq.z1)⟩:FdS b.p b.d q0 key Y));have HH:=za h;have HQ:=za hq;have HN:=za hn;clear h hq hk hf hn hfv;go_enter func110,ntmps110;go_upto_region 1 with fail
 refine rHd (S:=FdS b.p b.d q0 key) (HS.out _ (Mod.refl _ _).drew) (fun h_ => ?_);refine hLd 0 ?_;refine hTk 1 ?_;refine hTk 2 ?_;refine hTk 3 ?_;refine hLd 4 ?_;refine hLd 5 ?_
 (refine hSt 6 (fun K hK => ?_);go_simp;refine zq (HFi.out _ (Mod.refl _ _).drew) ?_;rintro e u1 ⟨rfl,hq1⟩;refine hK.out _ _ ?_ (fun h_ => ?_);(· exact HS.out _ ((Mod.refl (fun _=>False) w).drew.trans hq1));clear hK K;refine clA ?_)
 refine hTk 7 ?_;refine hTk 8 ?_;refine hTk 9 ?_;refine hTk 10 ?_;refine hTk 11 ?_;refine hDn ?_;clear h_;have hp1:zc w u1:=(Mod.refl (fun _=>False) w).drew.trans hq1;have g3:=hp1.heap (fun h=>h) HQ.out.z3;have G3:=za g3;have HP1:=za hp1;clear hq1 hp1;obtain⟨g3_0,g3_f,g3_l,H_g3⟩:=cr1 g3;clear g3;go_wp2;have h9:=ya u1 (q0+3) 0 _ _ (.bool false) G3.out;have hm9:Mod (fun k=>k=q0+3) u1 (u1.setCell ⟨q0+3,0,none⟩ (.bool false)):=(Mod.refl (fun k=>k=q0+3) u1).setCell (p:=⟨q0+3,0,none⟩) (fun _=>rfl) _;have hm:=Mod.trans' HP1.out hm9 (T:=fun k=>k=q0+3) (U:=fun k=>k=q0+3) (fun _ _ h=>h.elim) (fun _ _ h=>h);go_ret;refine⟨rfl,HH.out.beside hm (fun k hk e=>by subst e;exact HN.out hk) (fun k _ e => .inr (fun cs fz hb=>by subst e;rw[HQ.out.z3]at hb;injection hb with hb;injection hb with _ hb;exact absurd hb (by decide))) (by omega),hm,⟨hm.heap (by omega) HQ.out.z0,hm.heap (by omega) HQ.out.z1,hm.heap (by omega) HQ.out.z2,by simpa using h9⟩⟩
theorem zdB(h:zr Fo w b s){key:ByteArray}{gf:Nat}{lf:Array Value}{q0:Nat}{i0:Bool}(hq:FdC w b.p key (.func (.func gf) #[] lf) q0 i0)(hk:key.size≤140737488355328){sl:Nat}(hf:yV (zS s.L) key=some sl)(hn : ¬ b.D (q0+3))
  (eg : ∀ args w,(callFunc gf args).run prog w=.ok (.enter gf args) w) {P:World→Prop} (hE : ∀ W,zr Fo W b s→Mod (fun k=>k=q0+3) w W→FdC W b.p key (.func (.func gf) #[] lf) q0 true→Calls prog gf (#[.int .u32 sl]++lf) W (fun e w'=>e=.returned (.tuple #[])∧P w')) :
  Calls prog 110 (fdA q0) w fun e w'=>e=.returned (.int .u32 4294967295)∧P w':=by
 have hfv:uP (zS s.L) key=(sl,0):=by unfold uP;rw[hf]
 have HFi:=za (fun(Y:World) (hY:zc w Y)=>Uq (h.dict.pure hY) key hk);unfold ZU at HFi;rw[hfv]at HFi;have HS:=za (fun(Y:World) (hY:zc w Y)=>(⟨zi Y q0 0 _ _ (0,0) (hY.heap (fun h=>h) hq.z0),zi Y b.p 0 _ _ (0,0) (hY.heap (fun h=>h) h.box),zi Y (q0+1) 0 _ _ (0,0) (hY.heap (fun h=>h) hq.z1)⟩:FdS b.p b.d q0 key Y));have HH:=za h;have HQ:=za hq;have HN:=za hn;have HE:=za hE;clear h hq hk hf hn hfv hE;go_enter func110,ntmps110;go_upto_region 1 with fail
 refine rHd (S:=FdS b.p b.d q0 key) (HS.out _ (Mod.refl _ _).drew) (fun h_ => ?_);refine hLd 0 ?_;refine hTk 1 ?_;refine hTk 2 ?_;refine hTk 3 ?_;refine hLd 4 ?_;refine hLd 5 ?_
 (refine hSt 6 (fun K hK => ?_);go_simp;refine zq (HFi.out _ (Mod.refl _ _).drew) ?_;rintro e u1 ⟨rfl,hq1⟩;refine hK.out _ _ ?_ (fun h_ => ?_);(· exact HS.out _ ((Mod.refl (fun _=>False) w).drew.trans hq1));clear hK K;refine clA ?_)
 refine hTk 7 ?_;refine hTk 8 ?_;refine hTk 9 ?_;refine hTk 10 ?_;refine hTk 11 ?_;refine hDn ?_;clear h_;have hp1:zc w u1:=(Mod.refl (fun _=>False) w).drew.trans hq1;have g3:=hp1.heap (fun h=>h) HQ.out.z3;have G3:=za g3;have HP1:=za hp1;clear hq1 hp1;obtain⟨g3_0,g3_f,g3_l,H_g3⟩:=cr1 g3;clear g3;go_upto_region 3 with fail
 have h9:=ya u1 (q0+3) 0 _ _ (.bool true) G3.out;have hm9:Mod (fun k=>k=q0+3) u1 (u1.setCell ⟨q0+3,0,none⟩ (.bool true)):=(Mod.refl (fun k=>k=q0+3) u1).setCell (p:=⟨q0+3,0,none⟩) (fun _=>rfl) _;have hm:=Mod.trans' HP1.out hm9 (T:=fun k=>k=q0+3) (U:=fun k=>k=q0+3) (fun _ _ h=>h.elim) (fun _ _ h=>h);clear g3_0 g3_f g3_l;clear H_g3;have hq9:FdC (u1.setCell ⟨q0+3,0,none⟩ (.bool true)) b.p key (.func (.func gf) #[] lf) q0 true:=⟨hm.heap (by omega) HQ.out.z0,hm.heap (by omega) HQ.out.z1,hm.heap (by omega) HQ.out.z2,by simpa using h9⟩;have hc9:=HH.out.beside hm (fun k hk e=>by subst e;exact HN.out hk) (fun k _ e => .inr (fun cs fz hb=>by subst e;rw[HQ.out.z3]at hb;injection hb with hb;injection hb with _ hb;exact absurd hb (by decide))) (by omega);have HEf:=za (HE.out _ hc9 hm hq9);have r2:=hq9.z2;have r3:=hq9.z3;clear h9 hm9 hm hq9 hc9;generalize u1.setCell ⟨q0+3,0,none⟩ (.bool true)=W9 at *;obtain⟨r2_0,r2_f,r2_l,H_r2⟩:=cr1 r2;clear r2;obtain⟨r3_0,r3_f,r3_l,H_r3⟩:=cr1 r3;clear r3
 go_wp2_with (go_at_fn gf;refine HEf.out.mono ?_;rintro e w6 ⟨rfl,hP6⟩)
 go_ret;exact⟨rfl,hP6⟩
end
def yF:Nat:=4294967295
section
variable{Fo X S:Nat→Prop}{w w':World}{b:CaB}{s:CaS}
theorem FdC.mod{p q0:Nat}{key:ByteArray}{f:Value}{i:Bool}(h:FdC w p key f q0 i)(hm:Mod S w w')(hS : ∀ j,j≤3 → ¬ S (q0+j)):FdC w' p key f q0 i :=
 ⟨hm.heap (hS 0 (by omega)) h.z0,hm.heap (hS 1 (by omega)) h.z1,hm.heap (hS 2 (by omega)) h.z2,hm.heap (hS 3 (by omega)) h.z3⟩
def zdy(Fo:Nat→Prop)(w:World)(b:CaB)(s':CaS)(e:Ending)(w':World):Prop:=e=.returned (.bool false) ∧ ∃ b',zr Fo w' b' s'∧zv w w' b b'
theorem zcN(h:zr Fo w b s){t:Nat}(ht:t≤18446744073709551615)(hlv:vL 1 (tmS s t) (xa s t)){key:ByteArray}(hk:key.size≤140737488355328){gf:Nat}{lf:Array Value}(hf:yV (zS (zl s t).L) key=none)(hR:uh (zl s t) yF) :
  Calls prog 74 #[lkP b.p,.int .u64 t,.string key,.func (.func gf) #[] lf] w (zdy Fo w b (pkS (evS (zl s t) yF))):=by
 have hp0:zc w ((((w.alloc (.cells #[lkP b.p] 46)).alloc (.cells #[.string key] 9)).alloc (.cells #[.func (.func gf) #[] lf] 150)).alloc (.cells #[.bool false] 4)):=((((Mod.refl _ w).alloc _).alloc _).alloc _).alloc _;have hq:FdC ((((w.alloc (.cells #[lkP b.p] 46)).alloc (.cells #[.string key] 9)).alloc (.cells #[.func (.func gf) #[] lf] 150)).alloc (.cells #[.bool false] 4)) b.p key (.func (.func gf) #[] lf) w.heap.size false :=
  ⟨zG (zG (zG (zj rfl))),zG (zG (zj (by simp))),zG (zj (by simp)),zj (by simp)⟩
 have hnd : ∀ j,¬ b.D (w.heap.size+j):=fun j e=>by have:=h.lt e;omega
 obtain⟨n0,hn0⟩:=zf w.heap.size;have hrun : ∀ W,zc w W→FdC W b.p key (.func (.func gf) #[] lf) n0 false→Calls prog 84 #[lkP b.p,.int .u64 t,.func (.func 110) #[] (fdA n0)] W (Ja Fo (fun k=>k=n0+3) W b (fun keep s2 Y=>keep=yF∧s2=zl s t∧Y.heap[n0+3]? = some (.cells #[.bool false] 4 (0,0)))):=fun W hW hqW=>by
  refine Xo (h.pure hW) ht hlv (fun k hk => ?_) (enters_of func110 (by kernel_rfl) rfl) (fun Y b1 hC hT => ?_)
  ·subst hk;exact⟨by have:=hnd 3;rw[hn0]at this;exact this,zm hqW.z3⟩
  ·have hq1:FdC Y b1.p key (.func (.func gf) #[] lf) n0 false:=by
    rw[hT.p];exact hqW.mod hT.mod (fun j _=>by have:=hnd j;rw[hn0]at this;exact this)
   have hn1 : ¬ b1.D (n0+3):=hT.nd (by have:=hnd 3;rw[hn0]at this;exact this) (zm hqW.z3);refine(zkL hC hq1 hk hf hn1).mono ?_;rintro e Y' ⟨rfl,h1,h2,h3⟩;exact⟨yF,zl s t,b1,fun Z=>Z.heap[n0+3]? = some (.cells #[.bool false] 4 (0,0)),rfl,h1,⟨rfl,h2.mono (fun _ _ e => .inr e),fun _ e => .inl e⟩,hR,h3.z3,fun W1 W2 S hR hm hS=>hm.heap (fun e=>(hS _ e).elim hn1 (fun e=>by have:=zm h3.z3;omega)) hR,fun Z hZ=>⟨rfl,rfl,hZ⟩⟩
 have HND:=za (fun(e:b.D (n0+3))=>hnd 3 (by rw[hn0];exact e));have HRun:=za hrun;have HP:=za hp0;have HQ:=za hq;have HN0:=za hn0;have HR1:=za (hrun _ hp0 (by rw[← hn0];exact hq));have hq0:=hq.z0;have hq3:=hq.z3;rw[hn0]at hq0 hq3;clear h ht hlv hf hR hp0 hq hnd hrun;go_enter func74,ntmps74;go_upto_region 1 with fail
 generalize(((w.alloc (.cells #[lkP b.p] 46)).alloc (.cells #[.string key] 9)).alloc (.cells #[.func (.func gf) #[] lf] 150)).alloc (.cells #[.bool false] 4)=W4 at *;rw[show n0+1+1+1=n0+3 from rfl,show n0+1+1=n0+2 from rfl];clear hn0;obtain⟨hq0_0,hq0_f,hq0_l,H_hq0⟩:=cr1 hq0;clear hq0;go_upto_region 2 with(go_at_call 84;refine HR1.out.mono ?_;rintro e w6 ⟨rfl,keep,s2,b6,C6,T6,rfl,rfl,Q6⟩)
 have HC6:=za C6;have HT6:=za T6;have Q6':=za Q6;clear hq0_0 hq0_f hq0_l;clear H_hq0 C6 T6 hq3;obtain⟨Q6_0,Q6_f,Q6_l,H_Q6⟩:=cr1 Q6;clear Q6;go_wp2;have h9:=ya w6 (n0+3) 0 _ _ (.bool false) Q6'.out;have hm9:Mod (fun k=>k=n0+3) w6 (w6.setCell ⟨n0+3,0,none⟩ (.bool false)):=(Mod.refl (fun k=>k=n0+3) w6).setCell (p:=⟨n0+3,0,none⟩) (fun _=>rfl) _;have hl4:n0+3<W4.heap.size:=by have h8:=HQ.out.z3;rw[HN0.out]at h8;exact zm h8
 have hn6 : ¬ b6.D (n0+3):=HT6.out.nd HND.out hl4;have hc9:=HC6.out.beside hm9 (fun k hk e=>by subst e;exact hn6 hk) (fun k _ e => .inr (fun cs fz hb=>by subst e;rw[Q6'.out]at hb;injection hb with hb;injection hb with _ hb;exact absurd hb (by decide))) (by omega);have ht9:zv w (w6.setCell ⟨n0+3,0,none⟩ (.bool false)) b b6:=⟨HT6.out.p,Mod.trans' (Mod.trans' HP.out HT6.out.mod (U:=fun k=>b.D k∨k=n0+3) (fun _ _ h=>h.elim) (fun _ _ h=>h)) hm9 (fun i hi e=>e.elim (fun e=>e) (fun e=>by have:=HN0.out;omega)) (fun i hi e=>by have:=HN0.out;omega),fun k hk=>(HT6.out.grew k hk).imp (fun e=>e) (fun e=>zH HP.out.size e)⟩;generalize w6.setCell ⟨n0+3,0,none⟩ (.bool false)=W9 at *;have g9:W9.heap[n0+3]? = some (.cells #[.bool false] 4 (0,0)):=by simpa using h9
 have c0:=zi W9 (n0+3) 0 _ _ _ g9;exact zN (v := .bool false) (by simp[results,results74,go_sem,c0]) rfl ⟨rfl,b6,hc9,ht9⟩
def XW(Fo X:Nat→Prop)(w W:World)(b1:CaB)(Q:CaS→World→Prop)(e:Ending)(w':World):Prop :=
 e=.returned (.tuple #[]) ∧ ∃(s2:CaS) (b2:CaB) (R:World→Prop),zr Fo w' b2 s2∧vG X W w' b1 b2∧uh s2 yF∧R w'∧(∀ W1 W2 (S:Nat→Prop),R W1→Mod S W1 W2→(∀ k,S k→b2.D k∨w'.heap.size≤k∨(w.heap.size≤k∧k<W.heap.size))→R W2) ∧ ∀ Y,R Y→Q s2 Y
theorem XW.plain{W:World}{b1 b2:CaB}{Q:CaS→World→Prop}{s2:CaS}(hC:zr Fo w' b2 s2)(hT:vG X W w' b1 b2)(hR:uh s2 yF)(hQ : ∀ Y,Q s2 Y):XW Fo X w W b1 Q (.returned (.tuple #[])) w' :=
 ⟨rfl,s2,b2,fun _=>True,hC,hT,hR,trivial,fun _ _ _ _ _ _=>trivial,fun Y _=>hQ Y⟩
def zhA(Fo X:Nat→Prop)(w:World)(b:CaB)(Q:CaS→World→Prop)(e:Ending)(w':World):Prop :=
 e=.returned (.bool true) ∧ ∃ s2 b',zr Fo w' b' (pkS (evS s2 yF))∧vG X w w' b b'∧Q s2 w'
theorem find_some(h:zr Fo w b s){t:Nat}(ht:t≤18446744073709551615)(hlv:vL 1 (tmS s t) (xa s t)){key:ByteArray}(hk:key.size≤140737488355328)(hX : ∀ k,X k → ¬ b.D k∧k<w.heap.size){gf:Nat}{lf:Array Value}{sl:Nat}(hf:yV (zS (zl s t).L) key=some sl)
  (eg : ∀ args w,(callFunc gf args).run prog w=.ok (.enter gf args) w) {Q:CaS→World→Prop}
  (hE : ∀ W b1,zr Fo W b1 (zl s t)→zv w W b b1→Calls prog gf (#[.int .u32 sl]++lf) W (XW Fo X w W b1 Q)) :
  Calls prog 74 #[lkP b.p,.int .u64 t,.string key,.func (.func gf) #[] lf] w (zhA Fo X w b Q):=by
 have hp0:zc w ((((w.alloc (.cells #[lkP b.p] 46)).alloc (.cells #[.string key] 9)).alloc (.cells #[.func (.func gf) #[] lf] 150)).alloc (.cells #[.bool false] 4)):=((((Mod.refl _ w).alloc _).alloc _).alloc _).alloc _;have hq:FdC ((((w.alloc (.cells #[lkP b.p] 46)).alloc (.cells #[.string key] 9)).alloc (.cells #[.func (.func gf) #[] lf] 150)).alloc (.cells #[.bool false] 4)) b.p key (.func (.func gf) #[] lf) w.heap.size false :=
  ⟨zG (zG (zG (zj rfl))),zG (zG (zj (by simp))),zG (zj (by simp)),zj (by simp)⟩
 have hnd : ∀ j,¬ b.D (w.heap.size+j):=fun j e=>by have:=h.lt e;omega
 obtain⟨n0,hn0⟩:=zf w.heap.size;have hxl : ∀ k,X k→k≠n0+3:=fun k hk e=>by have:=(hX k hk).2;omega
 have hrun : ∀ W,zc w W→FdC W b.p key (.func (.func gf) #[] lf) n0 false→Calls prog 84 #[lkP b.p,.int .u64 t,.func (.func 110) #[] (fdA n0)] W (Ja Fo (fun k=>X k∨k=n0+3) W b (fun keep s2 Y=>keep=yF∧Y.heap[n0+3]? = some (.cells #[.bool true] 4 (0,0)) ∧ ∃ R:World→Prop,R Y∧(∀ W1 W2,R W1→Mod (fun k=>k=n0+3) W1 W2→R W2) ∧ ∀ Y,R Y→Q s2 Y)):=fun W hW hqW=>by
  refine Xo (h.pure hW) ht hlv (fun k hk => ?_) (enters_of func110 (by kernel_rfl) rfl) (fun Y b1 hC hT => ?_)
  ·rcases hk with hk | rfl
   ·exact⟨(hX k hk).1,ve (hX k hk).2 hW.size⟩
   ·exact⟨by have:=hnd 3;rw[hn0]at this;exact this,zm hqW.z3⟩
  ·have hq1:FdC Y b1.p key (.func (.func gf) #[] lf) n0 false:=by
    rw[hT.p];exact hqW.mod hT.mod (fun j _=>by have:=hnd j;rw[hn0]at this;exact this)
   have hn1 : ¬ b1.D (n0+3):=hT.nd (by have:=hnd 3;rw[hn0]at this;exact this) (zm hqW.z3);have h9:=zdB hC hq1 hk hf hn1 eg (P:=fun w' => ∃(s2:CaS) (b2:CaB) (R:World→Prop),zr Fo w' b2 s2∧vG (fun k=>X k∨k=n0+3) Y w' b1 b2∧uh s2 yF ∧ ¬ b2.D (n0+3)∧w'.heap[n0+3]? = some (.cells #[.bool true] 4 (0,0))∧R w'∧(∀ W1 W2 (S:Nat→Prop),R W1→Mod S W1 W2→(∀ k,S k→b2.D k∨w'.heap.size≤k∨k=n0+3)→R W2) ∧ ∀ Y,R Y→Q s2 Y) (fun W2 hC2 hm2 hq2=>by
    have hto:zv w W2 b b1:=⟨hT.p,Mod.trans' (((zv.pure hW).trans hT).mod) hm2 (fun _ _ h=>h) (fun i hi e=>by omega),fun k hk=>(((zv.pure hW).trans hT).grew k hk)⟩;refine(hE W2 b1 hC2 hto).mono ?_;rintro e w' ⟨rfl,s2,b2,R,k1,k2,k3,k4,k5,k6⟩;have hlt3:n0+3<W2.heap.size:=zm hq2.z3;refine⟨rfl,s2,b2,R,k1,⟨k2.p,Mod.trans' hm2 k2.mod (fun _ _ e => .inr (.inr e)) (fun _ _ e=>e.imp (fun e=>e) .inl),fun k hk=>(k2.grew k hk).imp (fun e=>e) (fun e=>zH hm2.size e)⟩,k3,k2.nd hn1 hlt3,?_,k4,fun W1 W3 S h1 h2 h3=>k5 W1 W3 S h1 h2 (fun k hk=>(h3 k hk).imp (fun e=>e) (fun e=>e.imp (fun e=>e) (fun e=>by subst e;exact⟨by omega,hlt3⟩))),k6⟩;exact k2.mod.heap (fun e=>e.elim (fun e=>hn1 e) (fun e=>hxl _ e rfl)) hq2.z3)
   refine h9.mono ?_;rintro e Y' ⟨rfl,s2,b2,R,k1,k2,k3,k4,k5,k6,k7,k8⟩;exact⟨yF,s2,b2,fun Z=>Z.heap[n0+3]? = some (.cells #[.bool true] 4 (0,0))∧R Z,rfl,k1,k2,k3,⟨k5,k6⟩,fun W1 W2 S h1 h2 h3=>⟨h2.heap (fun e=>(h3 _ e).elim k4 (fun e=>by have:=zm k5;omega)) h1.1,k7 W1 W2 S h1.2 h2 (fun k hk=>(h3 k hk).imp (fun e=>e) .inl)⟩,fun Z hZ=>⟨rfl,hZ.1,R,hZ.2,fun W1 W2 h1 h2=>k7 W1 W2 _ h1 h2 (fun k e => .inr (.inr e)),k8⟩⟩
 have HND:=za (fun(e:b.D (n0+3))=>hnd 3 (by rw[hn0];exact e));have HRun:=za hrun;have HP:=za hp0;have HQ:=za hq;have HN0:=za hn0;have HX:=za hX;have HXL:=za hxl;have HR1:=za (hrun _ hp0 (by rw[← hn0];exact hq));have hq0:=hq.z0;have hq3:=hq.z3;rw[hn0]at hq0 hq3;clear h ht hlv hf hE hX hxl eg hp0 hq hnd hrun;go_enter func74,ntmps74;go_upto_region 1 with fail
 generalize(((w.alloc (.cells #[lkP b.p] 46)).alloc (.cells #[.string key] 9)).alloc (.cells #[.func (.func gf) #[] lf] 150)).alloc (.cells #[.bool false] 4)=W4 at *;rw[show n0+1+1+1=n0+3 from rfl,show n0+1+1=n0+2 from rfl];clear hn0;obtain⟨hq0_0,hq0_f,hq0_l,H_hq0⟩:=cr1 hq0;clear hq0;go_upto_region 2 with(go_at_call 84;refine HR1.out.mono ?_;rintro e w6 ⟨rfl,keep,s2,b6,C6,T6,rfl,Q6,RR,QQ6,RS,RQ⟩)
 have HC6:=za C6;have HT6:=za T6;have Q6':=za Q6;have QQ:=za QQ6;have HRS:=za RS;have HRQ:=za RQ;clear hq0_0 hq0_f hq0_l;clear H_hq0 C6 T6 hq3 QQ6 RS RQ;obtain⟨Q6_0,Q6_f,Q6_l,H_Q6⟩:=cr1 Q6;clear Q6;go_wp2;have h9:=ya w6 (n0+3) 0 _ _ (.bool true) Q6'.out;have hm9:Mod (fun k=>k=n0+3) w6 (w6.setCell ⟨n0+3,0,none⟩ (.bool true)):=(Mod.refl (fun k=>k=n0+3) w6).setCell (p:=⟨n0+3,0,none⟩) (fun _=>rfl) _;have hl4:n0+3<W4.heap.size:=by have h8:=HQ.out.z3;rw[HN0.out]at h8;exact zm h8
 have hn6 : ¬ b6.D (n0+3):=HT6.out.nd HND.out hl4;have hc9:=HC6.out.beside hm9 (fun k hk e=>by subst e;exact hn6 hk) (fun k _ e => .inr (fun cs fz hb=>by subst e;rw[Q6'.out]at hb;injection hb with hb;injection hb with _ hb;exact absurd hb (by decide))) (by omega);have ht9:vG X w (w6.setCell ⟨n0+3,0,none⟩ (.bool true)) b b6:=⟨HT6.out.p,Mod.trans' (Mod.trans' HP.out HT6.out.mod (U:=fun k=>b.D k∨(X k∨k=n0+3)) (fun _ _ h=>h.elim) (fun _ _ h=>h)) hm9 (fun i hi e=>e.imp (fun e=>e) (fun e=>e.elim (fun e=>e) (fun e=>by have:=HN0.out;omega))) (fun i hi e=>by have:=HN0.out;omega),fun k hk=>(HT6.out.grew k hk).imp (fun e=>e) (fun e=>zH HP.out.size e)⟩;have hqq:=HRQ.out _ (HRS.out _ _ QQ.out hm9);generalize w6.setCell ⟨n0+3,0,none⟩ (.bool true)=W9 at *;have g9:W9.heap[n0+3]? = some (.cells #[.bool true] 4 (0,0)):=by simpa using h9
 have c0:=zi W9 (n0+3) 0 _ _ _ g9;exact zN (v := .bool true) (by simp[results,results74,go_sem,c0]) rfl ⟨rfl,s2,b6,hc9,ht9,hqq⟩
end
section
variable{Fo:Nat→Prop}{w w':World}{b:CaB}{s:CaS}
theorem zfq(h:zr Fo w b s):Calls prog 93 #[lkP b.p] w fun e w'=>e=.returned (.int .u64 s.now)∧w=w':=by
  have HN:=za (j9 h);have HD:=za (h.due.nowOk);have hb:=h.box;clear h;obtain⟨hb_0,hb_1,hb_2,hb_3,hb_4,hb_5,hb_6,hb_7,hb_8,hb_9,hb_10,hb_f,hb_l,H_hb⟩:=vg hb;clear hb;go_enter func93,ntmps93
  go_wp2_with (first
    | (go_at_call 69;refine HN.out.mono ?_;rintro e w' ⟨rfl,rfl⟩)
    | (go_at_call 83;refine HD.out.mono ?_;rintro e w' ⟨rfl,rfl⟩))
  go_ret;exact⟨rfl,rfl⟩
theorem zdp(h:zr Fo w b s):Calls prog 156 #[lkP b.p] w fun e w'=>e=.returned (.int .u64 s.births)∧w=w':=by
  have HN:=za (j9 h);have HD:=za (zck h.ctr);have hb:=h.box;clear h;obtain⟨hb_0,hb_1,hb_2,hb_3,hb_4,hb_5,hb_6,hb_7,hb_8,hb_9,hb_10,hb_f,hb_l,H_hb⟩:=vg hb;clear hb;go_enter func156,ntmps156
  go_wp2_with (first
    | (go_at_call 69;refine HN.out.mono ?_;rintro e w' ⟨rfl,rfl⟩)
    | (go_at_call 121;refine HD.out.mono ?_;rintro e w' ⟨rfl,rfl⟩))
  go_ret;exact⟨rfl,rfl⟩
def xP:List Int→Int
 | []=>0
 | e::l=>if e=0 then xP l else e
theorem QW(r:Bool)(e0:Int)(w:World):Calls prog 109 #[.bool r,.int .i64 e0] w fun e w'=>e=.returned (.int .i64 (if r=true then 0 else e0))∧w=w':=by
 cases r
 all_goals
  go_enter func109,ntmps109;go_wp2;go_ret;exact⟨rfl,rfl⟩
end
def qe(l:List Int):List Value:=l.map (fun e=>(.int .i64 e:Value))
theorem zlf(l:List Int) : ∀ u∈qe l,u.oneCell'=true:=fun u hu=>by obtain⟨q,_,rfl⟩:=zz.1 hu;rfl
theorem Ka : ∀ {l:List Int} {k:Nat},(∀ i e,i<k→l[i]? = some e→e=0)→xP l=xP (l.drop k)
 | l,0,_=>rfl
 | [],k+1,_=>rfl
 | e::l,k+1,h=>by
  have h0:e=0:=h 0 e (by omega) rfl;subst h0
  show xP l=xP (l.drop k)
  exact Ka (fun i e hi he=>h (i+1) e (by omega) (by simpa using he))
section
variable{Fo:Nat→Prop}{w w':World}{b:CaB}{s:CaS}
theorem zhc{a:Option Addr}{n c:Nat}{l:List Int}(h:zo w (.slice a n c) 1 (qe l))(hn:l.length=n)(hl:n≤1000):Calls prog 108 #[.slice a n c] w fun e w'=>e=.returned (.int .i64 (xP l))∧w=w':=by
 have HR:=za h;have HN:=za hn;clear h hn;go_enter func108,ntmps108;go_upto_region 2 with fail
 go_loopw [7] (fun v7 wr => ∃ j:Nat,v7=.int .i64 (j:Nat)∧j≤n∧w=wr ∧ ∀ i e,i<j→l[i]? = some e→e=0) (fun v7 _=>n-(intOf v7).toNat)
 case atStart=>exact⟨0,rfl,yi _,rfl,fun i e h=>by omega⟩
 case round =>
  obtain⟨j,rfl,hj,rfl,hno⟩:=hrel;have HNO:=za hno;clear hno;by_cases hlt:j<n
  ·have hlt':(j:Int)<(n:Int):=by omega
   have j0:(0:Int)≤(j:Int):=by omega
   have wj:IntKind.i64.wrap ((j:Int)+1)=(j:Int)+1:=zt _ (by omega);obtain⟨x,hx⟩ : ∃ x,l[j]? = some x:=⟨_,zL (by rw[HN.out];exact hlt)⟩;obtain⟨ad,had,z0⟩ : ∃ ad,a=some ad∧w.cell? (ad.add j)=some (.int .i64 x):=by
    obtain⟨a',n',c',e,hl',_,h0,hc⟩:=HR.out;injection e with e1 e2 e3
    subst e1 e2 e3;have hu:(qe l)[j]? = some (.int .i64 x):=by unfold qe;rw[yC,hx];rfl
    cases a with
    | none=>have:=h0 rfl;omega
    | some ad=>exact⟨ad,rfl,hc ad rfl _ _ hu⟩
   subst had;have HX:=za hx;have hdr:xP l=xP (l.drop j):=Ka HNO.out;have hdr2:l.drop j=x::l.drop (j+1):=by
    obtain⟨g1,g2⟩:=zE.1 hx;rw[jQ g1,g2]
   rw[hdr2]at hdr;clear hx hdr2;by_cases h0:x=0
   ·subst h0;clear hdr;go_wp2;go_roundw
    case rel=>exact⟨j+1,by first | rfl | simp,hlt,by first | rfl | trivial,fun i e hi he=>by
     by_cases c:i=j
     ·subst c;rw[HX.out]at he;injection he with he;exact he.symm
     ·exact HNO.out i e (by omega) he⟩
    case measure=>simp[intOf];omega
   ·have h0':(x==0)=false:=uY.2 h0;have h0'':(x != 0)=true:=by simpa using h0
    have hdr3:xP l=x:=by rw[hdr];unfold xP;rw[zh h0]
    have HD:=za hdr3;clear hdr hdr3 h0;go_wp2;go_ret;exact⟨by rw[HD.out];rfl,rfl⟩
  ·have hlt' : ¬ (j:Int)<(n:Int):=by omega
   obtain rfl:j=n:=by omega
   have HD:Hid (xP l=0):=za (by rw[Ka HNO.out,Zw (by rw[HN.out];exact zI _)];rfl);go_wp2;go_ret;exact⟨by rw[HD.out];rfl,rfl⟩
def ub(s:CaS):Int:=if 1048576<s.evs.length+zZ (zS s.L)then 7 else 0
theorem zfc:(prog.info? 24).map (fun i=>(i.zero,i.size,i.bytes))=some (some (.int .i64 0),1,8):=by kernel_rfl
def CkS(p v d:Nat)(Y:World):Prop:=Y.cell? ⟨p,5,none⟩=some (lkP v)∧Y.cell? ⟨p,0,none⟩=some (xt d)
theorem XH(h:zr Fo w b s){a:Option Addr}{n c:Nat}{l:List Int}(ho:w.ownsRow 0 24 1 (.slice a n c) n (qe l))(hn:l.length=n)(hl:n≤100)(hev:s.evs.length≤1048576) :
    Calls prog 72 #[lkP b.p,.slice a n c] w fun e w'=>e=.returned (.int .i64 (xP (l++[ub s])))∧Mod (fun k=>(Value.slice a n c).ownBlock=some k) w w':=by
  have HN:=za (j9 h);have HL:=za (fun(Y:World) (hY:zc w Y)=>JZ (h.pure hY).dict);have hevl:b.ns.length=s.evs.length:=by have:=congrArg List.length h.evs;unfold kY at this;rw[yn]at this;exact this
  have HE:Hid (∀ Y,zc w Y→Calls prog 71 #[lkP b.v] Y fun e w'=>e=.returned (.int .i64 s.evs.length)∧Y=w'):=za (fun Y hY=>by
    obtain⟨k0,k1,k2,k3,k4,k5,h1⟩:=(h.pure hY).ev;rw[← hevl];exact UB h1)
  have hlv:zZ (zS s.L)≤4194304:=by
    have h1:=Kx (zS s.L);have h2:=h.dict.ok.len;omega
  have HS:=za (fun(Y:World) (hY:zc w Y)=>(⟨zi Y b.p 5 _ _ (0,0) (hY.heap (fun h=>h) h.box),zi Y b.p 0 _ _ (0,0) (hY.heap (fun h=>h) h.box)⟩:CkS b.p b.v b.d Y));obtain⟨i0,hi,iz0,iz1,iz2⟩:=xG zfc;have HO:=za ho;have HNn:=za hn;obtain⟨room,hroom⟩:=zf (ub s);rw[hroom];unfold ub at hroom;obtain⟨ne,hne⟩:=zf s.evs.length;obtain⟨nl,hnl⟩:=zf (zZ (zS s.L));simp only[hne]at HE;simp only[hnl]at HL;rw[hne,hnl]at hroom;rw[hne]at hev;rw[hnl]at hlv;have wsum:IntKind.i64.wrap ((ne:Int)+(nl:Int))=(ne:Int)+(nl:Int):=zt _ (by omega);have HF:=za (fun(Y:World) (a7:Option Addr) (c7:Nat) (hr:zo Y (.slice a7 (n+1) c7) 1 (qe (l++[room])))=>zhc hr (by rw[zV,hn];rfl) (by omega));have hcat:qe (l++[room])=qe l++[.int .i64 room]:=by unfold qe;rw[vh];rfl
  have HCAT:=za hcat;clear h ho hn hne hnl hevl hcat;have hcs:(1048576<ne+nl∧room=7)∨(¬ 1048576<ne+nl∧room=0):=by
    by_cases e:1048576<ne+nl
    · rw[zk e]at hroom;exact .inl ⟨e,hroom.symm⟩
    · rw[zh e]at hroom;exact .inr ⟨e,hroom.symm⟩
  clear hroom;rcases hcs with⟨e1,rfl⟩ | ⟨e1,rfl⟩
  all_goals
    have d1:=e1
    first
      | (have d2:(1048576:Int)<(ne:Int)+(nl:Int):=(by omega))
      | (have d2 : ¬ (1048576:Int)<(ne:Int)+(nl:Int):=(by omega))
    clear e1 d1 hev hlv;go_enter func72,ntmps72;go_upto_region 4 with(go_at_call 69;refine HN.out.mono ?_;rintro e w' ⟨rfl,rfl⟩)
    refine rHd (S:=CkS b.p b.v b.d) (HS.out _ (Mod.refl _ _).drew) (fun h_ => ?_);refine hTk 0 ?_;refine hTk 1 ?_;refine hTk 2 ?_;refine hTk 3 ?_;refine hLd 4 ?_;refine hTk 6 ?_;refine hTk 7 ?_;refine hTk 8 ?_;refine hTk 9 ?_;refine hLd 10 ?_
    (refine hSt 5 (fun K hK => ?_);go_simp;refine zq (HE.out _ (Mod.refl _ _).drew) ?_;rintro e u1 ⟨rfl,rfl⟩;refine hK.out _ _ ?_ (fun h_ => ?_);(· exact HS.out _ (Mod.refl _ _).drew);clear hK K;refine clA ?_)
    (refine hSt 11 (fun K hK => ?_);go_simp;refine zq (HL.out _ (Mod.refl _ _).drew) ?_;rintro e u2 ⟨rfl,rfl⟩;refine hK.out _ _ ?_ (fun h_ => ?_);(· exact HS.out _ (Mod.refl _ _).drew);clear hK K;refine clA ?_)
    refine hTk 12 ?_;refine hTk 13 ?_;refine hDn ?_;clear h_
    go_wp2_with (first
      | (at_builtin;refine uK _ rfl _ _ 194 rfl 24 i0 _ 1 8 underlying194 hi iz0 iz1 iz2 rfl (by decide) (.slice a n c) n _ rfl (zy HO.out (((Mod.refl (fun _=>False) w).drew).alloc _) (fun _ _ h=>h)) _ [_] 1 rfl (zo.of_block 1 1 1 (zj rfl) (by rfl) (by simp[Value.oneCell'])) rfl (by unfold maxLen;omega) (by omega) ?_;intro a7 c7 w7 hr7 hg7 hb7;rw[← HCAT.out]at hr7;have HF7:=za (HF.out w7 a7 c7 (zo.of_owns hr7 (zlf _))))
      | (go_at_call 108;refine HF7.out.mono ?_;rintro e w8 ⟨rfl,rfl⟩))
    go_ret;exact⟨rfl,(((Mod.refl (fun _=>False) w).drew).alloc _ |> Mod.of_pure).then (Mod.of_grown (S:=fun k=>(Value.slice a n c).ownBlock=some k) hg7 (fun k e _=>e)) (fun _ _ h=>h)⟩
end
section
variable{Fo:Nat→Prop}{w w':World}{b:CaB}{s:CaS}
theorem Vq(k:ByteArray)(w:World)(hk:k.size≤140737488355328):Calls prog 73 #[.string k] w fun e w'=>e=.returned (.int .i64 (if xy k.size=true then 0 else 2))∧w=w':=by
  have HV:=za (Vw k w hk);have HU:=za (QW (xy k.size) 2 w);clear hk;obtain⟨r,hr⟩:=zf ((if xy k.size=true then(0:Int)else 2));rw[hr]at HU ⊢;clear hr;generalize xy k.size=kb at *;go_enter func73,ntmps73
  go_wp2_with (first
    | (go_at_call 33;refine HV.out.mono ?_;rintro e w' ⟨rfl,rfl⟩)
    | (go_at_call 109;refine HU.out.mono ?_;rintro e w' ⟨rfl,rfl⟩))
  go_ret;exact⟨rfl,rfl⟩
theorem vG.none{w1:World}{b1:CaB}(h:vG (fun _=>False) w w1 b b1):zv w w1 b b1:=⟨h.p,h.mod.mono (fun _ _ e=>e.elim (fun e=>e) (fun e=>e.elim)),h.grew⟩
theorem zjB(h:zr Fo w b s){t:Nat}(ht:t≤18446744073709551615)(hlv:vL 1 (tmS s t) (xa s t))(hR:uh (zl s t) yF) :
  Calls prog 84 #[lkP b.p,.int .u64 t,.func (.func 85) #[] #[]] w (ZN Fo w b (pkS (evS (zl s t) yF))):=by
 refine(Xo h ht hlv (X:=fun _=>False) (fun k hk=>hk.elim) (enters_of func85 (by kernel_rfl) rfl) (QE:=fun keep s2 _=>keep=yF∧s2=zl s t) (fun W b1 hC hT => ?_)).mono ?_
 ·refine(zhY W).mono ?_;rintro e w' ⟨rfl,rfl⟩;exact⟨yF,zl s t,b1,fun _=>True,rfl,hC,(zv.pure (Mod.refl _ _)).toX,hR,trivial,fun _ _ _ _ _ _=>trivial,fun _ _=>⟨rfl,rfl⟩⟩
 ·rintro e w' ⟨rfl,keep,s2,b',hC,hT,rfl,rfl⟩;exact⟨rfl,b',hC,hT.none⟩
theorem zh9(h:zr Fo w b s){t:Nat}(ht:t≤18446744073709551615)(hev:s.evs.length≤1048576)(hr:ub s=0)(hlv:vL 1 (tmS s t) (xa s t))(hR:uh (zl s t) yF) :
    Calls prog 45 #[lkP b.p,.int .u64 t] w fun e w'=>e=.returned (.int .i64 0) ∧ ∃ b',zr Fo w' b' (pkS (evS (zl s t) yF))∧zv w w' b b':=by
  have hc:=XH h (a:=none) (n:=0) (c:=0) (l:=[]) (vJ _ _ _ _) rfl (by omega) hev;have e7:xP ([]++[ub s])=0:=by rw[hr];rfl
  rw[e7]at hc;have HC:=za hc;have HRn:=za (fun(Y:World) (hY:zc w Y)=>zjB (h.pure hY) ht hlv hR);clear h hev hr hc e7 hlv hR;go_enter func45,ntmps45
  go_wp2_with (first
    | (go_at_call 72;refine HC.out.mono ?_;rintro e w2 ⟨rfl,hm2⟩;have hp2:zc w w2:=hm2.mono (fun k _ e=>by cases e))
    | (go_at_call 84;refine(HRn.out _ hp2).mono ?_;rintro e w3 ⟨rfl,b3,hc3,ht3⟩))
  go_ret;exact⟨rfl,b3,hc3,(zv.pure hp2).trans ht3⟩
end
def jv(k:ByteArray):Int:=if xy k.size=true then 0 else 2
theorem K5{w:World}{T:TypeId}{v:Value}(h1:v.oneCell'=true):(w.alloc (.cells #[v] T)).ownsRow 0 T 1 (.slice (some ⟨w.heap.size,0,none⟩) 1 1) 1 [v] :=
 ⟨rfl,.inr ⟨_,_,#[v],rfl,yi _,heap_alloc_new w _,zI _,by simp[maxLen],by simp,by simp⟩⟩
section
variable{Fo:Nat→Prop}{w w':World}{b:CaB}{s:CaS}
def zbT(Fo:Nat→Prop)(w:World)(b:CaB)(r:Bool)(s':CaS)(e:Ending)(w':World):Prop:=e=.returned (.tuple #[.bool r,.int .i64 0]) ∧ ∃ b',zr Fo w' b' s'∧zv w w' b b'
theorem zdt(h:zr Fo w b s){t:Nat}(ht:t≤18446744073709551615)(hev:s.evs.length≤1048576)(hr:ub s=0)(hlv:vL 1 (tmS s t) (xa s t)){key:ByteArray}(hk:key.size≤140737488355328)(hkE:jv key=0){sl:Nat}(hf:yV (zS (zl s t).L) key=some sl)
    (hx : ∃ x,(zl s t).L[sl]? = some (some x)∧(⟨sl,x.cost⟩:Wt)∈(zl s t).A++(zl s t).B∧Ev.Ok ⟨4,x,(zl s t).now⟩∧(zl s t).evs.length<1048576∧(zl s t).U=Bu.of (zl s t).A (zl s t).B) (hR:uh (xg 4 (zl s t) sl) yF) :
    Calls prog 47 #[lkP b.p,.int .u64 t,.string key] w (zbT Fo w b true (pkS (evS (xg 4 (zl s t) sl) yF))):=by
  have HK:=za (fun Y=>Vq key Y hk);have e2:(if xy key.size=true then(0:Int)else 2)=0:=hkE;rw[e2]at HK;have hal:zc w (w.alloc (.cells #[.int .i64 0] 24)):=(Mod.refl _ w).alloc _;have hc:=XH (h.pure hal) (a:=some ⟨w.heap.size,0,none⟩) (n:=1) (c:=1) (l:=[0]) (K5 rfl) rfl (by omega) hev;have e7:xP ([0]++[ub s])=0:=by rw[hr];rfl
  rw[e7]at hc;have HC:=za hc;have HLv:=za (fun Y=>VE b.p 4 Y);have HFd:=za (fun(Y:World) (c1:Nat) (hY:zc w Y) (hq:LvF Y b.p 4 c1 (c1+1)) (hl:w.heap.size≤c1)=>find_some (h.pure hY) ht hlv hk (X:=fun _=>False) (fun k hk=>hk.elim) (gf:=139) (lf:=#[.pointer (some ⟨c1,0,none⟩),.pointer (some ⟨c1+1,0,none⟩)]) hf (enters_of func139 (by kernel_rfl) rfl) (Q:=fun s2 _=>s2=xg 4 (zl s t) sl) (fun W b1 hC hT=>by
    have n1 : ¬ b.D c1:=fun e=>by have:=h.lt e;omega
    have n2 : ¬ b.D (c1+1):=fun e=>by have:=h.lt e;omega
    refine(Qa hC (by rw[hT.p];exact hq.mod hT.mod n1 n2) (hT.nd n1 (zm hq.b1)) (hT.nd n2 (zm hq.b2)) hx).mono ?_;rintro e w' ⟨rfl,b2,k1,k2⟩;exact XW.plain k1 k2.toX hR (fun _=>rfl)))
  have HAL:=za hal;clear h hev hr hc e7 hlv hR hx hf e2 hkE hal;go_enter func47,ntmps47;go_upto_region 4 with(first
    | (go_at_call 73;refine(HK.out _).mono ?_;rintro e w' ⟨rfl,rfl⟩)
    | (go_at_call 72;refine HC.out.mono ?_;rintro e w2 ⟨rfl,hm2⟩))
  have hp2:zc w w2:=HAL.out.then hm2 (fun i hi e=>by
    have e2:(some w.heap.size:Option Nat)=some i:=e;have e3:=kL e2;omega)
  have HP2:=za hp2;clear hm2 hp2 HC
  go_wp2_with (first
    | (go_at_call 86;refine(HLv.out _).mono ?_;rintro e w3 ⟨rfl,hf3,hp3⟩;have HFx:=za (HFd.out w3 w2.heap.size (HP2.out.trans hp3) hf3 HP2.out.size))
    | (go_at_call 74;refine HFx.out.mono ?_;rintro e w4 ⟨rfl,s2,b4,hc4,ht4,rfl⟩))
  go_ret2;exact⟨rfl,b4,hc4,(zv.pure (HP2.out.trans hp3)).trans ht4.none⟩
theorem zdo(h:zr Fo w b s){t:Nat}(ht:t≤18446744073709551615)(hev:s.evs.length≤1048576)(hr:ub s=0)(hlv:vL 1 (tmS s t) (xa s t)){key:ByteArray}(hk:key.size≤140737488355328)(hkE:jv key=0)(hf:yV (zS (zl s t).L) key=none)(hR:uh (zl s t) yF) :
    Calls prog 47 #[lkP b.p,.int .u64 t,.string key] w (zbT Fo w b false (pkS (evS (zl s t) yF))):=by
  have HK:=za (fun Y=>Vq key Y hk);have e2:(if xy key.size=true then(0:Int)else 2)=0:=hkE;rw[e2]at HK;have hal:zc w (w.alloc (.cells #[.int .i64 0] 24)):=(Mod.refl _ w).alloc _;have hc:=XH (h.pure hal) (a:=some ⟨w.heap.size,0,none⟩) (n:=1) (c:=1) (l:=[0]) (K5 rfl) rfl (by omega) hev;have e7:xP ([0]++[ub s])=0:=by rw[hr];rfl
  rw[e7]at hc;have HC:=za hc;have HLv:=za (fun Y=>VE b.p 4 Y);have HFd:=za (fun(Y:World) (c1:Nat) (hY:zc w Y)=>zcN (h.pure hY) ht hlv hk (gf:=139) (lf:=#[.pointer (some ⟨c1,0,none⟩),.pointer (some ⟨c1+1,0,none⟩)]) hf hR);have HAL:=za hal;clear h hev hr hc e7 hlv hR hf e2 hkE hal;go_enter func47,ntmps47;go_upto_region 4 with(first
    | (go_at_call 73;refine(HK.out _).mono ?_;rintro e w' ⟨rfl,rfl⟩)
    | (go_at_call 72;refine HC.out.mono ?_;rintro e w2 ⟨rfl,hm2⟩))
  have hp2:zc w w2:=HAL.out.then hm2 (fun i hi e=>by
    have e2:(some w.heap.size:Option Nat)=some i:=e;have e3:=kL e2;omega)
  have HP2:=za hp2;clear hm2 hp2 HC
  go_wp2_with (first
    | (go_at_call 86;refine(HLv.out _).mono ?_;rintro e w3 ⟨rfl,hf3,hp3⟩;have HFx:=za (HFd.out w3 w2.heap.size (HP2.out.trans hp3)))
    | (go_at_call 74;refine HFx.out.mono ?_;rintro e w4 ⟨rfl,b4,hc4,ht4⟩))
  go_ret2;exact⟨rfl,b4,hc4,(zv.pure (HP2.out.trans hp3)).trans ht4⟩
end
section
variable{Fo:Nat→Prop}{w w':World}{b:CaB}{s:CaS}
def ZW(G:Nat→Prop)(w:World)(q:Nat)(x:CE):Prop := ∃ a n c,w.heap[q]? = some (.cells #[.string x.key,.slice a n c,.int .u64 x.dl,.int .u64 x.birth] 141 (0,0))∧yq w (.slice a n c) (zQ x.val) ∧ ∀ g,(Value.slice a n c).ownBlock=some g→G g
theorem ZW.mod{G:Nat→Prop}{q:Nat}{x:CE}{S:Nat→Prop}(h:ZW G w q x)(hm:Mod S w w')(h1 : ¬ S q)(h2 : ∀ g,G g → ¬ S g):ZW G w' q x:=by
 obtain⟨a,n,c,k1,k2,k3⟩:=h;exact⟨a,n,c,hm.heap h1 k1,zy k2 hm (fun g hg=>h2 g (k3 g hg)),k3⟩
end
section
variable{Fo:Nat→Prop}{w w':World}{b:CaB}{s:CaS}
theorem zkX(h:zr Fo w b s){c1 q sl:Nat}{v0 v1 v2 v3:Value}(h1:w.heap[c1]? = some (.cells #[lkP b.p] 46 (0,0)))(h2:w.heap[q]? = some (.cells #[v0,v1,v2,v3] 141 (0,0)))(hq : ¬ b.D q)(h0:q≠0)(hc1 : ¬ b.D c1)(hc1q:c1≠q){x:CE}(hx:s.L[sl]? = some (some x))(hy:(⟨sl,x.cost⟩:Wt)∈s.A++s.B)(hU:s.U=Bu.of s.A s.B)(hcfg:s.cfg.ok)(hlim:s.lim=s.cfg.part)(hn:(s.A++s.B).length≤1048577) :
    Calls prog 75 #[.int .u32 sl,.pointer (some ⟨c1,0,none⟩),.pointer (some ⟨q,0,none⟩)] w fun e w'=>e=.returned (.tuple #[]) ∧ ∃ b',zr Fo w' b' (vZ s ⟨sl,x.cost⟩)∧vG (fun k=>k=q) w w' b b'∧ZW (fun g=>w.heap.size≤g∧g<w'.heap.size ∧ ¬ b'.D g) w' q x:=by
  have HG:=za (zcw h.dict (XA hx));have HH:=za h;have HQ:=za hq;have H1:=za h1;have H0:=za h0;have HC1:=za hc1;have HNE:=za hc1q;have HY:=za hy;have HU:=za hU;have HCF:=za hcfg;have HLI:=za hlim;have HN:=za hn;have H2:=za h2;have hb:=h.box;clear h hx hq h0 hc1 hc1q hy hU hcfg hlim hn;obtain⟨hb_0,hb_1,hb_2,hb_3,hb_4,hb_5,hb_6,hb_7,hb_8,hb_9,hb_10,hb_f,hb_l,H_hb⟩:=vg hb;clear hb;obtain⟨h1_0,h1_f,h1_l,H_h1⟩:=cr1 h1;clear h1;go_enter func75,ntmps75;go_upto_region 1 with(go_at_call 76;refine HG.out.mono ?_;rintro e w2 ⟨a,n,c,rfl,hby,hfr,hp2⟩;have k0:=zi w2 q 0 _ _ (0,0) (hp2.heap (fun h=>h) H2.out);have k1:=zi w2 q 1 _ _ (0,0) (hp2.heap (fun h=>h) H2.out);have k2:=zi w2 q 2 _ _ (0,0) (hp2.heap (fun h=>h) H2.out);have k3:=zi w2 q 3 _ _ (0,0) (hp2.heap (fun h=>h) H2.out);have kf:=fun j=>yU w2 q j _ _ (hp2.heap (fun h=>h) H2.out);have kl:=zm (hp2.heap (fun h=>h) H2.out);simp at k0 k1 k2 k3)
  obtain⟨Y,hY⟩:=zf ((((w2.setCell ⟨q,0,none⟩ (.string x.key)).setCell ⟨q,1,none⟩ (.slice a n c)).setCell ⟨q,2,none⟩ (.int .u64 x.dl)).setCell ⟨q,3,none⟩ (.int .u64 x.birth));have y4:=hp2.heap (fun h=>h) H2.out;obtain⟨g1,g2⟩:=Jr y4 hY;rw[hY];have hm:Mod (fun k=>k=q) w Y:=Mod.trans' hp2 g1 (fun _ _ h=>h.elim) (fun _ _ h=>h);have hc9:=HH.out.beside hm (fun k hk e=>by subst e;exact HQ.out hk) (fun k _ e => .inr (fun cs fz hb=>by subst e;rw[H2.out]at hb;injection hb with hb;injection hb with _ hb;exact absurd hb (by decide))) (fun e=>H0.out e.symm);have hby9:yq Y (.slice a n c) (zQ x.val):=jY hby g1 (fun k _ e cs fz e2=>by subst e;rw[y4]at e2;cases e2);have HC9:=za hc9;have HM9:=za hm;have HB9:=za hby9;have HE9:=za (show Y.heap[q]? = some (.cells #[.string x.key,.slice a n c,.int .u64 x.dl,.int .u64 x.birth] 141 (0,0)) by simpa using g2);have HFR:=za hfr;have hb9:=hc9.box;have h19:=hm.heap HNE.out H1.out;have HOf:=za (VL hc9.order HY.out);have HUse:=za (Qm hc9 HY.out (nc:=x.cost) (hc9.order.law.rng _ HY.out).2 HU.out HCF.out HLI.out HN.out);dsimp only at HOf HUse;obtain⟨g,hg⟩:=zf (gOf s.B sl);rw[hg]at HOf;clear hb_0 hb_1 hb_2 hb_3 hb_4 hb_5 hb_6 hb_7 hb_8 hb_9 hb_10 hb_f hb_l;clear h1_0 h1_f h1_l;clear H_hb H_h1 hY hm hc9 hby9 g1 g2 y4 hby hfr k0 k1 k2 k3 kf kl hg hp2;obtain⟨hb9_0,hb9_1,hb9_2,hb9_3,hb9_4,hb9_5,hb9_6,hb9_7,hb9_8,hb9_9,hb9_10,hb9_f,hb9_l,H_hb9⟩:=vg hb9;clear hb9;obtain⟨h19_0,h19_f,h19_l,H_h19⟩:=cr1 h19;clear h19
  go_wp2_with (first
    | (go_at_call 77;refine HOf.out.mono ?_;rintro e w' ⟨rfl,rfl⟩)
    | (go_at_call 78;refine HUse.out.mono ?_;rintro e w4 ⟨rfl,b4,hc4,ht4⟩))
  go_end0
  exact⟨rfl,b4,hc4,⟨ht4.p,Mod.trans' HM9.out ht4.mod (fun _ _ e => .inr e) (fun _ _ e => .inl e),fun k hk=>(ht4.grew k hk).imp (fun e=>e) (fun e=>zH HM9.out.size e)⟩,a,n,c,ht4.mod.heap HQ.out HE9.out,zy HB9.out ht4.mod (fun g hg e=>by have:=HFR.out g hg;have:=HH.out.lt e;omega),fun g hg=>⟨HFR.out g hg,ve (vY HB9.out hg) ht4.mod.size,fun e=>by
    have h1:=HFR.out g hg;have h2:=vY HB9.out hg;rcases ht4.grew g e with e | e
    · have:=HH.out.lt e;omega
    · omega⟩⟩
end
section
variable{Fo:Nat→Prop}{w w':World}{b:CaB}{s:CaS}
def US(Fo:Nat→Prop)(w:World)(b:CaB)(s:CaS)(e:Ending)(w':World):Prop :=
 ∃ a c es,e=.returned (.slice a s.evs.length c)∧es.map Prod.fst=s.evs∧KU w' a c es∧vf w (.slice a s.evs.length c) ∧ ∃ b',zr Fo w' b' {s with evs:=[]}∧zv w w' b b'
theorem Az0fk {P:Prop}(h:P:=by
 go_upto_region 3 with(go_at_call 69;refine HN.out.mono ?_;rintro e w' ⟨rfl,rfl⟩)
 refine rHd (S:=fun Y=>Y.cell? ⟨b.p,5,none⟩=some (lkP b.v)) c5 (fun h_ => ?_);refine hTk 0 ?_;refine hTk 1 ?_;refine hTk 2 ?_;refine hTk 3 ?_;refine hLd 4 ?_;refine hTk 5 ?_;refine hTk 6 ?_;refine hTk 7 ?_;refine hTk 8 ?_;refine hLd 9 ?_
 (refine hSt 10 (fun K hK => ?_);go_simp;refine HE.out.mono ?_;rintro e u1 ⟨rfl,rfl⟩;refine hK.out _ _ ?_ (fun h_ => ?_);(· exact c5);clear hK K;refine clA ?_)
 (refine hSt 11 (fun K hK => ?_);go_simp;refine HT.out.mono ?_;rintro e w2 ⟨a,c,rfl,hrow,hfr,hev2,hm⟩;refine hK.out _ _ ?_ (fun h_ => ?_);(· exact hm.cell (a:=⟨b.p,5,none⟩) (fun e=>by have e3:b.p=b.v:=e;have e1:=HH.out.sep.v b.v (.inl rfl);have e2:=HH.out.sep.p;rw[e3,e1]at e2;cases e2) c5);clear hK K;refine clA ?_)
 refine hTk 12 ?_;refine hTk 13 ?_;refine hTk 14 ?_;refine hTk 15 ?_;refine hTk 16 ?_;refine hDn ?_;clear h_;have hme:Mod (evD b.v b.ns) w w2:=Mod.trans' (Mod.refl (fun _=>False) w).drew hm (fun _ _ h=>h.elim) (fun _ _ e => .inl e);have hg : ∀ k,evD b.v [] k→evD b.v b.ns k∨w.heap.size≤k:=fun k hk=>by
  rcases hk with e | ⟨n,hn,_⟩
  ·exact .inl (.inl e)
  ·cases hn
 have HC:=za (HH.out.putEv (evs':=[]) hev2 rfl hme hg);have HTo:=za (zv.ofEv hme hg);have HRow:=za hrow;have HFr:=za hfr;clear hrow hfr hev2 hm hme hg c5;go_wp2;go_ret;refine⟨a,c,uZ b.ns,by rw[HEV.out];rfl,?_,HRow.out,?_,_,HC.out,HTo.out⟩
 ·rw[← HH.out.evs];unfold uZ kY;rw[jP];rfl
 ·have h9:=HFr.out;rw[HEV.out]at h9;exact h9):P:=h
theorem zkW(h:zr Fo w b s)(hev:s.evs.length≤1048576):Calls prog 37 #[lkP b.p] w (US Fo w b s):=by
 have hevl:b.ns.length=s.evs.length:=by have:=congrArg List.length h.evs;unfold kY at this;rw[yn]at this;exact this
 have HN:=za (j9 h);have hD:=h.pure (Mod.refl (fun _=>False) w).drew;have HE:Hid (Calls prog 71 #[lkP b.v] w.drew fun e w'=>e=.returned (.int .i64 s.evs.length)∧w.drew=w'):=za (by
  obtain⟨k0,k1,k2,k3,k4,k5,h1⟩:=hD.ev;rw[← hevl];exact UB h1)
 have ht:=Ku hD.ev (by omega);rw[hevl]at ht;have HT:=za ht;have HH:=za h;have HEV:=za hevl;have c5:w.drew.cell? ⟨b.p,5,none⟩=some (lkP b.v):=zi w b.p 5 _ _ (0,0) h.box;have HD:=za hD;clear h ht hevl hev hD;go_enter func37,ntmps37;exact Az0fk
end
section
variable{Fo:Nat→Prop}{w w':World}{b:CaB}{s:CaS}
theorem Azf1u {P:Prop}(h:P:=by
 rintro e w' ⟨rfl,hm⟩;exact⟨rfl,hal.then hm (fun i hi e=>by
  have e2:(some Y.heap.size:Option Nat)=some i:=e;have e3:=kL e2;omega)⟩):P:=h
theorem zdd(h:zr Fo w b s)(e0:Int)(hev:s.evs.length≤1048576)(Y:World)(hY:zc w Y):Calls prog 72 #[lkP b.p,.slice (some ⟨Y.heap.size,0,none⟩) 1 1] (Y.alloc (.cells #[.int .i64 e0] 24)) fun e w'=>e=.returned (.int .i64 (xP [e0,ub s]))∧zc Y w':=by
 have hal:zc Y (Y.alloc (.cells #[.int .i64 e0] 24)):=(Mod.refl _ Y).alloc _;refine(XH (h.pure (hY.trans hal)) (a:=some ⟨Y.heap.size,0,none⟩) (n:=1) (c:=1) (l:=[e0]) (K5 rfl) rfl (by omega) hev).mono ?_;exact Azf1u
theorem zj5{w:World}{T:TypeId}{v u:Value}(h1:v.oneCell'=true)(h2:u.oneCell'=true):(w.alloc (.cells #[v,u] T)).ownsRow 0 T 1 (.slice (some ⟨w.heap.size,0,none⟩) 2 2) 2 [v,u] :=
 ⟨rfl,.inr ⟨_,_,#[v,u],rfl,yi _,heap_alloc_new w _,zI _,by simp[maxLen],by simp,by simp⟩⟩
theorem zbN(h:zr Fo w b s)(e0 e1:Int)(hev:s.evs.length≤1048576)(Y:World)(hY:zc w Y):Calls prog 72 #[lkP b.p,.slice (some ⟨Y.heap.size,0,none⟩) 2 2] (Y.alloc (.cells #[.int .i64 e0,.int .i64 e1] 24)) fun e w'=>e=.returned (.int .i64 (xP [e0,e1,ub s]))∧zc Y w':=by
 have hal:zc Y (Y.alloc (.cells #[.int .i64 e0,.int .i64 e1] 24)):=(Mod.refl _ Y).alloc _;refine(XH (h.pure (hY.trans hal)) (a:=some ⟨Y.heap.size,0,none⟩) (n:=2) (c:=2) (l:=[e0,e1]) (zj5 rfl rfl) rfl (by omega) hev).mono ?_;exact Azf1u
end
section
variable{Fo:Nat→Prop}{w w':World}{b:CaB}{s:CaS}
theorem zdW(h:zr Fo w b s){t:Nat}{sl c1 q:Nat}{v0 v1 v2 v3:Value}{W0 W:World}{b1:CaB}(hw:zc w W0)(hC:zr Fo W b1 (zl s t))(hT:zv W0 W b b1)(h1:W0.heap[c1]? = some (.cells #[lkP b.p] 46 (0,0)))(h2:W0.heap[q]? = some (.cells #[v0,v1,v2,v3] 141 (0,0)))(n1 : ¬ b.D c1)(nq : ¬ b.D q)(h0:q≠0)(hne:c1≠q){x:CE}(hx:(zl s t).L[sl]? = some (some x))(hy:(⟨sl,x.cost⟩:Wt)∈(zl s t).A++(zl s t).B)(hU:(zl s t).U=Bu.of (zl s t).A (zl s t).B)(hcfg:(zl s t).cfg.ok)(hlim:(zl s t).lim=(zl s t).cfg.part)(hn:((zl s t).A++(zl s t).B).length≤1048577)(hR:uh (vZ (zl s t) ⟨sl,x.cost⟩) yF) :
  Calls prog 75 #[.int .u32 sl,.pointer (some ⟨c1,0,none⟩),.pointer (some ⟨q,0,none⟩)] W (XW Fo (fun k=>k=q) W0 W b1 (fun s2 Y=>s2=vZ (zl s t) ⟨sl,x.cost⟩ ∧ ∃ G:Nat→Prop,(∀ g,G g→w.heap.size≤g)∧ZW G Y q x)):=by
 have nq1 : ¬ b1.D q:=hT.nd nq (zm h2);refine(zkX hC (by rw[hT.p];exact hT.mod.heap n1 h1) (hT.mod.heap nq h2) nq1 h0 (hT.nd n1 (zm h1)) hne hx hy hU hcfg hlim hn).mono ?_;rintro e w' ⟨rfl,b2,k1,k2,k3⟩;have hq:=zm h2;have hW:=hT.mod.size;have nq2 : ¬ b2.D q:=k2.nd nq1 (ve hq hW);refine⟨rfl,_,b2,fun Y=>ZW (fun g=>W.heap.size≤g∧g<w'.heap.size ∧ ¬ b2.D g) Y q x,k1,k2,hR,k3,fun W1 W2 S h1 h2 h3=>h1.mod h2 (fun e => ?_) (fun g hg e => ?_),fun Y hY=>⟨rfl,_,fun g hg=>zH (zH hw.size hW) hg.1,hY⟩⟩
 ·rcases h3 _ e with c | c | c
  ·exact nq2 c
  ·have:=k2.mod.size;omega
  ·omega
 ·rcases h3 _ e with c | c | c
  ·exact hg.2.2 c
  ·have:=hg.2.1;omega
  ·have:=hg.1;omega
def zk7(Fo:Nat→Prop)(w:World)(b:CaB)(x:CE)(s':CaS)(e:Ending)(w':World):Prop := ∃ a n c,e=.returned (.tuple #[.slice a n c,.bool true,.int .i64 0])∧yq w' (.slice a n c) (zQ x.val)∧vf w (.slice a n c) ∧ ∃ b',zr Fo w' b' s'∧zv w w' b b'
theorem zcs(h:zr Fo w b s){t:Nat}(ht:t≤18446744073709551615)(hev:s.evs.length≤1048576)(hr:ub s=0)(hlv:vL 1 (tmS s t) (xa s t)){key:ByteArray}(hk:key.size≤140737488355328)(hkE:jv key=0){sl:Nat}(hf:yV (zS (zl s t).L) key=some sl){x:CE}(hx:(zl s t).L[sl]? = some (some x))(hy:(⟨sl,x.cost⟩:Wt)∈(zl s t).A++(zl s t).B)(hU:(zl s t).U=Bu.of (zl s t).A (zl s t).B)(hcfg:(zl s t).cfg.ok)(hlim:(zl s t).lim=(zl s t).cfg.part)(hn:((zl s t).A++(zl s t).B).length≤1048577)(hR:uh (vZ (zl s t) ⟨sl,x.cost⟩) yF) :
  Calls prog 38 #[lkP b.p,.int .u64 t,.string key] w (zk7 Fo w b x (pkS (evS (vZ (zl s t) ⟨sl,x.cost⟩) yF))):=by
 have HK:=za (fun Y=>Vq key Y hk);have e2:(if xy key.size=true then(0:Int)else 2)=0:=hkE;rw[e2]at HK;have hc:=zdd h 0 hev;have e7:xP [0,ub s]=0:=by rw[hr];rfl
 rw[e7]at hc;have HC:=za hc;have HFd:=za (fun(Y:World) (c1 q:Nat) (hY:zc w Y) (h1:Y.heap[c1]? = some (.cells #[lkP b.p] 46 (0,0))) (h2:Y.heap[q]? = some (.cells #[.string ⟨#[]⟩,.slice none 0 0,.int .u64 0,.int .u64 0] 141 (0,0))) (l1:w.heap.size≤c1) (l2:w.heap.size≤q) (hne:c1≠q) =>
  have n1 : ¬ b.D c1:=fun e=>by have:=h.lt e;omega
  have nq : ¬ b.D q:=fun e=>by have:=h.lt e;omega
  find_some (h.pure hY) ht hlv hk (X:=fun k=>k=q) (fun k hk=>by subst hk;exact⟨nq,zm h2⟩) (gf:=75) (lf:=#[.pointer (some ⟨c1,0,none⟩),.pointer (some ⟨q,0,none⟩)]) hf (enters_of func75 (by kernel_rfl) rfl) (Q:=fun s2 Z=>s2=vZ (zl s t) ⟨sl,x.cost⟩ ∧ ∃ G:Nat→Prop,(∀ g,G g→w.heap.size≤g)∧ZW G Z q x)
   (fun W b1 hC hT=>zdW h hY hC hT h1 h2 n1 nq (by have:=h.pos;omega) hne hx hy hU hcfg hlim hn hR))
 have hb1:=zj (w:=w) (o := .cells #[lkP b.p] 46 (0,0)) rfl;have hp0:zc w (w.alloc (.cells #[lkP b.p] 46)):=(Mod.refl _ w).alloc _;have HND:=za (fun k (e:b.D k)=>h.lt e);have HPS:=za h.pos;obtain⟨s9,hs9⟩:=zf (pkS (evS (vZ (zl s t) ⟨sl,x.cost⟩) yF));have HS9:=za hs9;rw[hs9];clear h hev hr hc e7 hlv hR hx hf e2 hkE hy hU hcfg hlim hn hs9;go_enter func38,ntmps38;go_upto_region 1 with fail
 generalize w.alloc (.cells #[lkP b.p] 46)=W1 at *;obtain⟨c1,hc1⟩:=zf w.heap.size;have HC1:=za hc1;rw[hc1]at hb1 HFd HND ⊢;clear hc1;have HB1:=za hb1;have HP0:=za hp0;have HS:=za (fun(Y:World) (hY:zc W1 Y)=>(zi Y c1 0 _ _ (0,0) (hY.heap (fun h=>h) hb1):Y.cell? ⟨c1,0,none⟩=some (lkP b.p)));clear hb1 hp0;refine rHd (S:=fun Y=>Y.cell? ⟨c1,0,none⟩=some (lkP b.p)) (HS.out _ (Mod.refl _ _).drew) (fun h_ => ?_);refine hLd 0 ?_;refine hTk 1 ?_
 (refine hSt 2 (fun K hK => ?_);go_simp;refine(HK.out _).mono ?_;rintro e u1 ⟨rfl,rfl⟩;refine hK.out _ _ ?_ (fun h_ => ?_);(· exact HS.out _ (Mod.refl _ _).drew);clear hK K;refine clA ?_)
 (refine hSt 3 (fun K hK => ?_);go_simp;refine hK.out _ _ ?_ (fun h_ => ?_);(· exact HS.out _ ((Mod.refl _ _).drew.alloc _));clear hK K;refine clA ?_)
 (refine hSt 4 (fun K hK => ?_);go_simp;refine zq (HC.out _ (HP0.out.trans (Mod.refl (fun _=>False) W1).drew)) ?_;rintro e u2 ⟨rfl,hq2⟩;refine hK.out _ _ ?_ (fun h_ => ?_);(· exact HS.out _ ((Mod.refl (fun _=>False) W1).drew.trans hq2));clear hK K;refine clA ?_)
 refine hTk 5 ?_;refine hDn ?_;clear h_;have hp2:zc W1 u2:=(Mod.refl (fun _=>False) W1).drew.trans hq2;have HP2:=za hp2;clear hq2 hp2 HC;go_upto_region 5 with fail
 have hal:zc u2 (u2.alloc (.cells #[.string ⟨#[]⟩,.slice none 0 0,.int .u64 0,.int .u64 0] 141)):=(Mod.refl _ u2).alloc _;have hq:=zj (w:=u2) (o := .cells #[.string ⟨#[]⟩,.slice none 0 0,.int .u64 0,.int .u64 0] 141 (0,0)) rfl;have hp3:=HP2.out.trans hal;generalize u2.alloc (.cells #[.string ⟨#[]⟩,.slice none 0 0,.int .u64 0,.int .u64 0] 141)=W3 at *;obtain⟨q,hqe⟩:=zf u2.heap.size;rw[hqe]at hq ⊢;have hg1:=hp3.heap (fun h=>h) HB1.out;have hsz:c1<q:=by have h1:=HP2.out.heap (fun h=>h) HB1.out;have:=zm h1;omega
 have HF:=za (HFd.out W3 c1 q (HP0.out.trans hp3) hg1 hq (zI _) (by omega) (by omega));have HP3:=za hp3;have HSZ:=za hsz;have HQ:=za hq;clear hal hqe hp3 HFd hq hsz;obtain⟨hg1_0,hg1_f,hg1_l,H_hg1⟩:=cr1 hg1;clear hg1;go_upto_region 6 with(go_at_call 74;refine HF.out.mono ?_;rintro e w4 ⟨rfl,s2,b4,hc4,ht4,rfl,G,hlo,hE⟩)
 obtain⟨a,n,c,g4,hby,hfr⟩:=hE;rw[HS9.out]at hc4;have HBY:=za hby;have HFR:=za hfr;have HC4:=za hc4;have HT4:=za ht4;have HLO:=za hlo;clear hc4 ht4 hby hfr hlo;clear hg1_0 hg1_f hg1_l;clear H_hg1;obtain⟨g4_0,g4_1,g4_2,g4_3,g4_f,g4_l,H_g4⟩:=cr4 g4;clear g4;go_wp2;refine zN (v := .tuple #[.slice a n c,.bool true,.int .i64 0]) (by simp[results,results38,go_sem]) rfl ⟨a,n,c,rfl,HBY.out,fun g hg=>by have:=HLO.out g (HFR.out g hg);have:=HC1.out;omega,b4,HC4.out,⟨HT4.out.p,?_,fun k hk=>(HT4.out.grew k hk).imp (fun e=>e) (fun e=>zH (HP0.out.trans HP3.out).size e)⟩⟩;exact Mod.trans' (HP0.out.trans HP3.out) HT4.out.mod (fun _ _ h=>h.elim) (fun i hi e=>e.elim (fun e=>e) (fun e=>by have:=HSZ.out;have:=HC1.out;omega))
def zjG(Fo:Nat→Prop)(w:World)(b:CaB)(s':CaS)(e:Ending)(w':World):Prop:=e=.returned (.tuple #[.slice none 0 0,.bool false,.int .i64 0]) ∧ ∃ b',zr Fo w' b' s'∧zv w w' b b'
theorem QC(h:zr Fo w b s){t:Nat}(ht:t≤18446744073709551615)(hev:s.evs.length≤1048576)(hr:ub s=0)(hlv:vL 1 (tmS s t) (xa s t)){key:ByteArray}(hk:key.size≤140737488355328)(hkE:jv key=0)(hf:yV (zS (zl s t).L) key=none)(hR:uh (zl s t) yF) :
  Calls prog 38 #[lkP b.p,.int .u64 t,.string key] w (zjG Fo w b (pkS (evS (zl s t) yF))):=by
 have HK:=za (fun Y=>Vq key Y hk);have e2:(if xy key.size=true then(0:Int)else 2)=0:=hkE;rw[e2]at HK;have hc:=zdd h 0 hev;have e7:xP [0,ub s]=0:=by rw[hr];rfl
 rw[e7]at hc;have HC:=za hc;have HFd:=za (fun(Y:World) (c1 q:Nat) (hY:zc w Y) =>
  zcN (h.pure hY) ht hlv hk (gf:=75) (lf:=#[.pointer (some ⟨c1,0,none⟩),.pointer (some ⟨q,0,none⟩)]) hf hR)
 have hb1:=zj (w:=w) (o := .cells #[lkP b.p] 46 (0,0)) rfl;have hp0:zc w (w.alloc (.cells #[lkP b.p] 46)):=(Mod.refl _ w).alloc _;have HND:=za (fun k (e:b.D k)=>h.lt e);clear h hev hr hc e7 hlv hR hf e2 hkE;go_enter func38,ntmps38;go_upto_region 1 with fail
 generalize w.alloc (.cells #[lkP b.p] 46)=W1 at *;obtain⟨c1,hc1⟩:=zf w.heap.size;have HC1:=za hc1;rw[hc1]at hb1 HND ⊢;clear hc1;have HB1:=za hb1;have HP0:=za hp0;have HS:=za (fun(Y:World) (hY:zc W1 Y)=>(zi Y c1 0 _ _ (0,0) (hY.heap (fun h=>h) hb1):Y.cell? ⟨c1,0,none⟩=some (lkP b.p)));clear hb1 hp0;refine rHd (S:=fun Y=>Y.cell? ⟨c1,0,none⟩=some (lkP b.p)) (HS.out _ (Mod.refl _ _).drew) (fun h_ => ?_);refine hLd 0 ?_;refine hTk 1 ?_
 (refine hSt 2 (fun K hK => ?_);go_simp;refine(HK.out _).mono ?_;rintro e u1 ⟨rfl,rfl⟩;refine hK.out _ _ ?_ (fun h_ => ?_);(· exact HS.out _ (Mod.refl _ _).drew);clear hK K;refine clA ?_)
 (refine hSt 3 (fun K hK => ?_);go_simp;refine hK.out _ _ ?_ (fun h_ => ?_);(· exact HS.out _ ((Mod.refl _ _).drew.alloc _));clear hK K;refine clA ?_)
 (refine hSt 4 (fun K hK => ?_);go_simp;refine zq (HC.out _ (HP0.out.trans (Mod.refl (fun _=>False) W1).drew)) ?_;rintro e u2 ⟨rfl,hq2⟩;refine hK.out _ _ ?_ (fun h_ => ?_);(· exact HS.out _ ((Mod.refl (fun _=>False) W1).drew.trans hq2));clear hK K;refine clA ?_)
 refine hTk 5 ?_;refine hDn ?_;clear h_;have hp2:zc W1 u2:=(Mod.refl (fun _=>False) W1).drew.trans hq2;have HP2:=za hp2;clear hq2 hp2 HC;go_upto_region 5 with fail
 have hal:zc u2 (u2.alloc (.cells #[.string ⟨#[]⟩,.slice none 0 0,.int .u64 0,.int .u64 0] 141)):=(Mod.refl _ u2).alloc _;have hq:=zj (w:=u2) (o := .cells #[.string ⟨#[]⟩,.slice none 0 0,.int .u64 0,.int .u64 0] 141 (0,0)) rfl;have hp3:=HP2.out.trans hal;generalize u2.alloc (.cells #[.string ⟨#[]⟩,.slice none 0 0,.int .u64 0,.int .u64 0] 141)=W3 at *;obtain⟨q,hqe⟩:=zf u2.heap.size;rw[hqe]at hq ⊢;have hg1:=hp3.heap (fun h=>h) HB1.out;have hsz:c1<q:=by have h1:=HP2.out.heap (fun h=>h) HB1.out;have:=zm h1;omega
 have HF:=za (HFd.out W3 c1 q (HP0.out.trans hp3));have HP3:=za hp3;have HSZ:=za hsz;have HQ:=za hq;clear hal hqe hp3 HFd hq hsz;obtain⟨hg1_0,hg1_f,hg1_l,H_hg1⟩:=cr1 hg1;clear hg1;go_upto_region 6 with(go_at_call 74;refine HF.out.mono ?_;rintro e w4 ⟨rfl,b4,hc4,ht4⟩)
 have g4:=ht4.mod.heap (fun e=>by have:=HND.out _ e;have:=HSZ.out;omega) HQ.out;have HC4:=za hc4;have HT4:=za ht4;clear hc4 ht4;clear hg1_0 hg1_f hg1_l;clear H_hg1;obtain⟨g4_0,g4_1,g4_2,g4_3,g4_f,g4_l,H_g4⟩:=cr4 g4;clear g4;go_wp2;exact zN (v := .tuple #[.slice none 0 0,.bool false,.int .i64 0]) (by simp[results,results38,go_sem]) rfl ⟨rfl,b4,HC4.out,(zv.pure (HP0.out.trans HP3.out)).trans HT4.out⟩
end
end
end Go.Proofs.YtdohbogbnheakaaGreatDoor
