/- Lemmas and contracts of functions. No condition. -/
import Derived.Test.YtdohbogbnheakaaGreatDoorJPfBoth4027
namespace Go.Proofs.YtdohbogbnheakaaGreatDoor
open _root_.Go.Proofs.Tryz
set_option maxRecDepth 100000
set_option maxHeartbeats 20000000
set_option linter.all false
section
open Go.RowKit Go.Shelf Go.Maps
attribute [local go_sem] Oper.semAt_some
def Bsy(x:Ld)(n:Nat):Prop:=x.who=n∨n∈x.ws
abbrev FA(kd:Int)(v:Value)(ld er:Int):Ending := .returned (.tuple #[.agg #[.int .i64 kd,v,.int .i64 ld],.int .i64 er])
def ziD(w0:World)(q p m1 last:Nat)(X:List Ld)(t:Bst)(tt:Nat)(key:ByteArray)(who:Nat)(R:Ending→World→Prop):Prop :=
  ((∃ x∈X,Bsy x who) ∧ ∀ W,FeP w0 q p m1 last X t W→R (FA 0 (.slice none 0 0) 0 11) W) ∨
  ((∀ x∈X,¬ Bsy x who)∧uT key t=0 ∧
    ((∃ x,um (yW t tt) key=some x ∧ ∀ W a n c,yq W (.slice a n c) (zQ x.val)→FeP w0 q p m1 last X (vA (vO (qv (yW t tt) x.birth x.cost) 0)) W→R (FA 1 (.slice a n c) 0 0) W) ∨
     (um (yW t tt) key=none∧((∃ x,X=[x]∧x.key=key∧x.ws.length<1000 ∧ ∀ W wv,FeP w0 q p m1 last [⟨x.num,x.key,x.who,wv,x.ws++[who],x.off,x.blk⟩] (vA (jm t tt)) W→R (FA 3 (.slice none 0 0) x.num 0) W) ∨
      ((∀ x∈X,x.key≠key)∧((64≤X.length ∧ ∀ W,FeP w0 q p m1 last X (vA (jm t tt)) W→R (FA 0 (.slice none 0 0) 0 7) W) ∨
        (X.length<64∧last+1≤100000 ∧ ∀ W b,FeP w0 q p m1 (last+1) (⟨last+1,key,who,.slice none 0 0,[],false,b⟩::X) (vA (jm t tt)) W→R (FA 2 (.slice none 0 0) ((last+1:Nat):Int) 0) W)))))))
theorem zh5:(prog.info? 3).map (fun i=>(i.zero,i.size,i.bytes))=some (some (.int .i64 0),1,8):=by kernel_rfl
section
variable{w w' w1 w2 w0:World}{q p m1 last:Nat}{X X':List Ld}{D1 D1':DataW Unit}{S D0:Nat→Prop}{t t' t1 t2:Bst}
def AsI(X:List Ld)(n:Nat)(W3:World)(pre:List (InL X))(W:World):Prop:=zc W3 W ∧ ∀ y∈pre,¬ Bsy y.1 n
def AsX(X:List Ld)(n c8 c9:Nat)(W3:World)(c:Code)(_:List (InL X))(W:World):Prop:=c=.ret∧Mod (fun k=>k=c8∨k=c9) W3 W∧(∃ x∈X,Bsy x n)∧W.heap[c8]? = some (.cells #[.int .i64 0,.slice none 0 0,.int .i64 0] 34 (0,0))∧W.heap[c9]? = some (.cells #[.int .i64 11] 24 (0,0))
theorem VM(h:FeP w0 q p m1 last X t w){tt who:Nat}{key:ByteArray}(ht:tt≤18446744073709551615)(hw:who≤1000)(hk:key.size≤1000)(hv:xy key.size=true){R:Ending→World→Prop}(hR:ziD w0 q p m1 last X t tt key who R) :
    Calls prog 10 #[lkP q,.int .u64 tt,.string key,.int .i64 who] w R:=by
  obtain⟨D0,D1,h⟩:=h;have y7:=zj (w:=w) (o := .cells #[.int .i64 who] 3 (0,0)) rfl;have y8:=zj (w:=w.alloc (.cells #[.int .i64 who] 3)) (o := .cells #[.int .i64 0,.slice none 0 0,.int .i64 0] 34 (0,0)) (n:=w.heap.size+1) (by simp);have y9:=zj (w:=(w.alloc (.cells #[.int .i64 who] 3)).alloc (.cells #[.int .i64 0,.slice none 0 0,.int .i64 0] 34)) (o := .cells #[.int .i64 0] 24 (0,0)) (n:=w.heap.size+1+1) (by simp);have z7:=zG (o := .cells #[.int .i64 0] 24) (zG (o := .cells #[.int .i64 0,.slice none 0 0,.int .i64 0] 34) y7);have z8:=zG (o := .cells #[.int .i64 0] 24) y8;have hal:zc w (((w.alloc (.cells #[.int .i64 who] 3)).alloc (.cells #[.int .i64 0,.slice none 0 0,.int .i64 0] 34)).alloc (.cells #[.int .i64 0] 24)):=(((Mod.refl _ w).alloc _).alloc _).alloc _;have hD0 : ∀ k,D0 k→k<w.heap.size:=fun k hk=>h.ca.lt hk
  have hw0:w0.heap.size≤w.heap.size:=h.pu.size;have hFD : ∀ k,FeD q m1 X k→k<w.heap.size:=fun k hk=>h.fe.lt hk
  have HFD:=za hFD;have HH:=za h;have Z7:=za z7;have Z8:=za z8;have Z9:=za y9;have HAL:=za hal;have HD0:=za hD0;have HW0:=za hw0;have HRR:=za hR;have HV:=za (fun W=>Vw key W (by omega));rw[hv]at HV;have HWho:=za hw;have HRt:=za (fun W=>Qi hw W);have HT:=za ht;have HK:=za hk;clear hFD h y7 y8 y9 z7 z8 hal hD0 hw0 hR hv hw ht hk
  (refine(yB (n:=0)).1 (callsIn_of_wp_marks func10 rfl trivial (vy.2 ?_) rfl);simp only[ntmps10,List.size_toArray,List.length_cons,List.length_nil,Nat.reduceAdd,Nat.reduceSub,Array.replicate_succ,Array.replicate_zero,List.push_toArray,List.append_toArray,List.nil_append,List.cons_append])
  go_upto_region 1 with fail
  generalize((w.alloc (.cells #[.int .i64 who] 3)).alloc (.cells #[.int .i64 0,.slice none 0 0,.int .i64 0] 34)).alloc (.cells #[.int .i64 0] 24)=W2 at *;obtain⟨c7,hc7⟩:=zf w.heap.size;rw[hc7]at Z7 Z8 Z9 HD0 HW0 HFD ⊢;obtain⟨c8,hc8⟩:=zf (c7+1);rw[hc8]at Z8 Z9 ⊢;obtain⟨c9,hc9⟩:=zf (c8+1);rw[hc9]at Z9 ⊢;have HC:=za (show w.heap.size=c7∧c7+1=c8∧c8+1=c9 from⟨hc7,hc8,hc9⟩);clear hc7 hc8 hc9;have hR2:=HH.out.pure HAL.out;have HN:=za (Zf hR2.fe);have HA:=za (JY hR2.fe);have hal3:zc W2 (W2.alloc (.cells #[.map (some m1)] 47)):=(Mod.refl _ _).alloc _;have HR3:=za (hR2.pure hal3);have HBm:=za (zj (w:=W2) (o := .cells #[.map (some m1)] 47 (0,0)) rfl);have z7:=Z7.out;have Y7:=za (hal3.heap (fun e=>e) Z7.out);have Y8:=za (hal3.heap (fun e=>e) Z8.out);have Y9:=za (hal3.heap (fun e=>e) Z9.out);have HP3:=za (HAL.out.trans hal3);clear hR2 hal3 HH;obtain⟨z7_0,z7_f,z7_l,H_z7⟩:=cr1 z7;clear z7
  go_wp2_with (first
    | (go_at_call 32;refine HN.out.mono ?_;rintro e w' ⟨rfl,rfl⟩)
    | (go_at_call 33;refine(HV.out _).mono ?_;rintro e w' ⟨rfl,rfl⟩)
    | (go_at_call 34;refine(HRt.out _).mono ?_;rintro e w' ⟨rfl,rfl⟩)
    | (go_at_call 35;refine HA.out.mono ?_;rintro e w' ⟨rfl,rfl⟩))
  clear HA HN HAL Z7 Z8 Z9 z7_0 z7_f z7_l H_z7 HV HRt;generalize W2.alloc (.cells #[.map (some m1)] 47)=W3 at *;generalize W2.heap.size=Bm at *;have hl9:c9<W3.heap.size:=zm Y9.out;refine(vy (n:=2)).1 (wpIn_rangeFunc_ownF (n:=2) rfl (by decide) (gf:=105) (lb:=#[lkP Bm]) rfl trivial (enters_of func105 (by kernel_rfl) rfl) (Kz HR3.out.fe HBm.out) (fun h k=>h.trans k) (fun W l o o' _ hl _ hw=>KeepsWalks.putObj o' hl hw) (Below.refl _ _) (fun _=>rfl) (AsI X who W3) (AsX X who c8 c9 W3) ?hI ?hIx ?h0 (fun y => {tmps:=#[lkP q,.int .u64 tt,.string key,.int .i64 who,undef,undef,undef,lkP c7,lkP c8,lkP c9,lkP y.1.blk,undef,undef,undef,undef,.bool false,lkP q,.bool false,undef,.bool false,.string key,.bool true,.bool false,.bool false,.int .i64 who,.bool true,.bool false,.bool false,undef,lkP q,.func (.func 105) #[] #[lkP Bm],lkP y.1.blk,undef,undef,undef,undef,undef,undef,undef,undef,undef,undef,undef,undef,undef,undef,undef,undef,undef,undef,undef,undef,undef,undef,undef,undef,undef,undef,undef,undef,undef,undef,undef,undef,undef,undef,undef,undef,undef,undef,undef,undef,undef,undef,undef,undef,undef,undef,undef,undef,undef,undef,undef,undef,undef,undef,undef,undef,undef,undef,undef,undef,undef,undef,undef,undef,undef,undef,undef,undef,undef,undef,undef,undef,undef,undef,undef,undef,undef,undef,undef,undef,undef,undef,undef,undef,undef,undef,undef,undef,undef,undef,undef,undef,undef,undef],defers:=[]}) ?assign ?body ?done ?stop)
  case hI=>exact Km _
  case hIx =>
    rintro c s A B row ⟨h1,h2,h3,hc8',hc9'⟩ hg hr;have hm:=Mod.of_grown (S:=fun k=>W3.heap.size≤k) hg (fun k e _=>(hr k e).1);exact⟨h1,h2.then hm (fun k hk e=>by omega),h3,hm.heap (fun e=>by have:=HC.out;omega) hc8',hm.heap (fun e=>by omega) hc9'⟩
  case h0=>exact⟨Mod.refl _ _,fun y hy=>by cases hy⟩
  case assign =>
    intro l x W K hK;dsimp only[Vm];gi_wp2;exact hK
  case body =>
    rintro l pre ⟨x,hx⟩ W ⟨hp,hno⟩ _;have hF:=HR3.out.fe.mod hp (fun _ _ e=>e);have hxb:=hF.each x hx;have hrd:=zo.of_owns (hF.wait x hx) (fun u hu=>by unfold vm at hu;obtain⟨n,_,rfl⟩:=zz.1 hu;rfl);obtain⟨r1,r2,r3,r4,r5,r6⟩:=hF.rng x hx;obtain⟨wa,wn,wc,hwv,_⟩:=hrd;have hrd:=zo.of_owns (zy (hF.wait x hx) (Mod.refl (fun _=>False) W).drew (fun _ _ e=>e)) (fun u hu=>by unfold vm at hu;obtain⟨n,_,rfl⟩:=zz.1 hu;rfl);have hct:=zdG hrd who r5;rw[hwv]at hct;have hz7:=hp.heap (fun e=>e) Y7.out;have hz8:=hp.heap (fun e=>e) Y8.out;have hz9:=hp.heap (fun e=>e) Y9.out;unfold ldC at hxb;rw[hwv]at hxb;have HP:=za hp;have HNo:=za hno;have HZ8:=za hz8;have HZ9:=za hz9;have HCt:=za hct;clear hp hno hF hrd hct r1 r2 r3 r4 r5 r6 hwv;have n98 : ¬ c9=c8:=by have:=HC.out;omega
    have n89 : ¬ c8=c9:=by have:=HC.out;omega
    dsimp only;obtain⟨hxb_0,hxb_1,hxb_2,hxb_3,hxb_4,hxb_f,hxb_l,H_hxb⟩:=cr5 hxb;clear hxb;obtain⟨hz7_0,hz7_f,hz7_l,H_hz7⟩:=cr1 hz7;clear hz7;obtain⟨hz8_0,hz8_1,hz8_2,hz8_f,hz8_l,H_hz8⟩:=cr3 hz8;clear hz8;obtain⟨hz9_0,hz9_f,hz9_l,H_hz9⟩:=cr1 hz9;clear hz9;gi_wp2;refine Ud (fun Y=>Y.cell? ⟨x.blk,2,none⟩=some (.int .i64 x.who)∧Y.cell? ⟨x.blk,3,none⟩=some (.slice wa wn wc)∧Y.cell? ⟨c7,0,none⟩=some (.int .i64 who)) (by kernel_rfl) (by kernel_rfl) ?hL ⟨hxb_2,hxb_3,hz7_0⟩ (fun h_ => ?_)
    case hL=>rintro⟨a,w,h⟩;exact h
    refine hTk 0 ?_;refine hTk 1 ?_;refine hTk 2 ?_;refine hLd 3 ?_;refine hLd 4 ?_;by_cases e1:x.who=who
    · have e1':(x.who:Int)=(who:Int):=by rw[e1]
      refine hTk 5 ?_;refine hTk 6 ?_;refine hSk 7 ?_;refine hSk 8 ?_;refine hSk 9 ?_;refine hSk 10 ?_;refine hSk 11 ?_;refine hSk 12 ?_;refine hTk 13 ?_;refine hDn ?_;clear h_;gi_wp2;have hmm:Mod (fun k=>k=c8∨k=c9) W3 (((((W.setCell ⟨c8,0,none⟩ (.int .i64 0)).setCell ⟨c8,1,none⟩ (.slice none 0 0)).setCell ⟨c8,2,none⟩ (.int .i64 0)).setCell ⟨c9,0,none⟩ (.int .i64 11)).drew):=((HP.out.mono (fun _ _ e=>e.elim)).trans (((((Mod.set1 c8 0 _).trans (Mod.set1 c8 1 _)).trans (Mod.set1 c8 2 _)).mono (fun _ _ e => .inl e)).trans ((Mod.set1 c9 0 _).mono (fun _ _ e => .inr e)))).drew;have v8:=zW (j:=2) (v := .int .i64 0) (zW (j:=1) (v := .slice none 0 0) (zW (j:=0) (v := .int .i64 0) HZ8.out));have v8b:=(Mod.set1 c9 0 (.int .i64 11)).heap (k:=c8) (fun e=>by have:=HC.out;omega) v8;have v9:=zW (j:=0) (v := .int .i64 11) (((Mod.set1 c8 0 (.int .i64 0)).trans ((Mod.set1 c8 1 (.slice none 0 0)).trans (Mod.set1 c8 2 (.int .i64 0)))).heap (k:=c9) (fun e=>by have:=HC.out;omega) HZ9.out);exact⟨(((KeepsOthers.setCell _ _ _).trans (KeepsOthers.setCell _ _ _)).trans ((KeepsOthers.setCell _ _ _).trans (KeepsOthers.setCell _ _ _))).trans (KeepsOthers.drew _),rfl,hmm,⟨x,hx,.inl e1⟩,v8b,v9⟩
    · have e1' : ¬ (x.who:Int)=(who:Int):=fun e=>e1 (kH.1 e)
      have e1b:((x.who:Int)==(who:Int))=false:=uY.2 e1';have e1c:(x.who==who)=false:=uY.2 e1;have e1d:decide (x.who=who)=false:=zR e1;refine hTk 5 ?_;refine hTk 6 ?_;refine hTk 7 ?_;refine hTk 8 ?_;refine hTk 9 ?_;refine hLd 10 ?_;refine hLd 11 ?_
      (refine hSt 12 (fun K hK => ?_);go_simp;refine HCt.out.mono ?_;rintro e w9 ⟨rfl,rfl⟩;refine hK.out _ _ ?_ (fun h_ => ?_);(· exact h_);clear hK K;refine clA ?_)
      by_cases e2:who∈x.ws
      · have e2':decide (who∈x.ws)=true:=zP e2
        refine hTk 13 ?_;refine hDn ?_;clear h_;gi_wp2;have hmm:Mod (fun k=>k=c8∨k=c9) W3 (((((W.setCell ⟨c8,0,none⟩ (.int .i64 0)).setCell ⟨c8,1,none⟩ (.slice none 0 0)).setCell ⟨c8,2,none⟩ (.int .i64 0)).setCell ⟨c9,0,none⟩ (.int .i64 11)).drew):=((HP.out.mono (fun _ _ e=>e.elim)).trans (((((Mod.set1 c8 0 _).trans (Mod.set1 c8 1 _)).trans (Mod.set1 c8 2 _)).mono (fun _ _ e => .inl e)).trans ((Mod.set1 c9 0 _).mono (fun _ _ e => .inr e)))).drew;have v8:=zW (j:=2) (v := .int .i64 0) (zW (j:=1) (v := .slice none 0 0) (zW (j:=0) (v := .int .i64 0) HZ8.out));have v8b:=(Mod.set1 c9 0 (.int .i64 11)).heap (k:=c8) (fun e=>by have:=HC.out;omega) v8;have v9:=zW (j:=0) (v := .int .i64 11) (((Mod.set1 c8 0 (.int .i64 0)).trans ((Mod.set1 c8 1 (.slice none 0 0)).trans (Mod.set1 c8 2 (.int .i64 0)))).heap (k:=c9) (fun e=>by have:=HC.out;omega) HZ9.out);exact⟨(((KeepsOthers.setCell _ _ _).trans (KeepsOthers.setCell _ _ _)).trans ((KeepsOthers.setCell _ _ _).trans (KeepsOthers.setCell _ _ _))).trans (KeepsOthers.drew _),rfl,hmm,⟨x,hx,.inr e2⟩,v8b,v9⟩
      · have e2':decide (who∈x.ws)=false:=zR e2
        refine hTk 13 ?_;refine hDn ?_;clear h_;gi_wp2;exact⟨KeepsOthers.drew _,(KeepsOthers.drew _).walks,HP.out.drew,fun y hy=>(yz.1 hy).elim (HNo.out y) (fun c=>by rw[zF.1 c];exact fun c=>c.elim e1 e2)⟩
  case done =>
    rintro lb xs W hlb hall ⟨hp,hno⟩ hK;have hnb : ∀ x∈X,¬ Bsy x who:=fun x hx=>by
      obtain⟨y,hy,rfl⟩:=hall x hx;exact hno y hy
    rcases HRR.out with⟨⟨x,hx,hb⟩,_⟩ | ⟨_,hke,hpath⟩
    · exact absurd hb (hnb x hx)
    have hR:=HR3.out.pure hp;have hz7:=hp.heap (fun e=>e) Y7.out;have hz8:=hp.heap (fun e=>e) Y8.out;have hz9:=hp.heap (fun e=>e) Y9.out;have HZ7:=za hz7;have hbx:=hR.fe.box;have n7 : ¬ D0 c7:=fun e=>by have:=HD0.out c7 e;omega
    have HN7:=za n7;have nb : ¬ D0 lb:=fun e=>by have:=HD0.out lb e;have:=HC.out;omega
    have n8 : ¬ D0 c8:=fun e=>by have:=HD0.out c8 e;have:=HC.out;omega
    have n9 : ¬ D0 c9:=fun e=>by have:=HD0.out c9 e;have:=HC.out;omega
    have HRc:=za hR;have HZ8:=za hz8;have HZ9:=za hz9;have HKK:=za hK;have HNB:=za nb;have HN8:=za n8;have HN9:=za n9;have HLB:=za (show w0.heap.size≤lb by have:=HW0.out;have:=HC.out;omega);clear n7 hz7 hall hno hnb hp hR hz8 hz9 hK nb n8 n9 hlb HR3 HBm Y7 Y8 Y9 HP3 HRR hl9;have n98 : ¬ c9=c8:=by have:=HC.out;omega
    have n89 : ¬ c8=c9:=by have:=HC.out;omega
    have HWW:=za (show w0.heap.size≤c8∧w0.heap.size≤c9∧w0.heap.size≤lb by have:=HW0.out;have:=HC.out;have:=HLB.out;omega);obtain⟨hbx_0,hbx_1,hbx_2,hbx_f,hbx_l,H_hbx⟩:=cr3 hbx;clear hbx;rcases hpath with⟨x,hl,hRx⟩ | ⟨hl,hpath⟩
    · have HG:=za (HRc.out.ca.getHit HT.out (by have:=HK.out;omega) hke hl rfl)
      have HRx:=za hRx;clear hl hke hRx
      go_wp2_with (go_at_call 38;refine HG.out.mono ?_;rintro e w2 ⟨va,vn,vc,rfl,hby,hg2⟩;obtain⟨D5,hR5,hm5,hgr5⟩:=HRc.out.cago2 hg2;have v8:=hm5.heap HN8.out HZ8.out;have v9:=hm5.heap HN9.out HZ9.out;have HR5:=za hR5;have HM5:=za hm5;have HGR5:=za hgr5;have HBY:=za hby;have V8:=za v8;have V9:=za v9;clear hR5 hm5 hgr5 hby hg2;obtain⟨v8_0,v8_1,v8_2,v8_f,v8_l,H_v8⟩:=cr3 v8;clear v8;obtain⟨v9_0,v9_f,v9_l,H_v9⟩:=cr1 v9;clear v9)
      clear v8_0 v8_1 v8_2 v8_f v8_l H_v8 v9_0 v9_f v9_l H_v9 hbx_0 hbx_1 hbx_2 hbx_f hbx_l H_hbx;have y8:=(Mod.set1 c9 0 (.int .i64 0)).heap (k:=c8) n89 (zW (j:=2) (v := .int .i64 0) (zW (j:=1) (v := .slice va vn vc) (zW (j:=0) (v := .int .i64 1) V8.out)));have y9:=zW (j:=0) (v := .int .i64 0) (((Mod.set1 c8 0 (.int .i64 1)).trans ((Mod.set1 c8 1 (.slice va vn vc)).trans (Mod.set1 c8 2 (.int .i64 0)))).heap (k:=c9) n98 V9.out);refine V1 HR5.out V8.out V9.out (HM5.out.heap HNB.out HKK.out) (((((Mod.set1 c8 0 _).trans (Mod.set1 c8 1 _)).trans (Mod.set1 c8 2 _)).mono (fun _ _ e => .inl e)).trans ((Mod.set1 c9 0 _).mono (fun _ _ e => .inr e))) y8 y9 (fun e=>(HGR5.out _ e).elim HN8.out (fun e=>by have:=zm HZ8.out;omega)) (fun e=>(HGR5.out _ e).elim HN9.out (fun e=>by have:=zm HZ9.out;omega)) (fun e=>(HGR5.out _ e).elim HNB.out (fun e=>by have:=zm HKK.out;omega)) HWW.out (fun W g0 g1 g2 g3=>by simp[results,results10,go_sem,g0,g1,g2,g3]) (fun W hF hmW=>HRx.out W va vn vc (YH HBY.out hmW (fun k e => ?_)) hF);rcases e with e | e | e | e
      · exact HR5.out.ca.nob e
      · subst e;exact vd V8.out (by decide)
      · subst e;exact vd V9.out (by decide)
      · subst e
        intro cs fz e2;rw[HM5.out.heap HNB.out HKK.out]at e2
        cases e2
    · have HG:=za (HRc.out.ca.getMiss HT.out (by have:=HK.out;omega) hke hl rfl)
      have HP:=za hpath;clear hl hke hpath;go_upto_region 15 with(go_at_call 38;refine HG.out.mono ?_;rintro e w2 ⟨rfl,hg2⟩)
      obtain⟨D5,hR5,hm5,hgr5⟩:=HRc.out.cago2 hg2;have v7:=hm5.heap HN7.out HZ7.out;have v8:=hm5.heap HN8.out HZ8.out;have v9:=hm5.heap HN9.out HZ9.out;have vb:=hm5.heap HNB.out HKK.out;have HR5:=za hR5;have V7:=za v7;have V8:=za v8;have V9:=za v9;have VB:=za vb;have HM8:=za (show ¬ D5 c8 from fun e=>(hgr5 _ e).elim HN8.out (fun e=>by have:=zm HZ8.out;omega));have HM9:=za (show ¬ D5 c9 from fun e=>(hgr5 _ e).elim HN9.out (fun e=>by have:=zm HZ9.out;omega));have HMB:=za (show ¬ D5 lb from fun e=>(hgr5 _ e).elim HNB.out (fun e=>by have:=zm HKK.out;omega));clear hR5 hm5 hgr5 v7 v8 v9 vb hg2 HG hbx_0 hbx_1 hbx_2 hbx_f hbx_l H_hbx HRc HZ7 HZ8 HZ9 HKK HN7 HN8 HN9 HNB HLB;have hb5:=HR5.out.fe.box;rcases HP.out with⟨x,hX,hxk,hlen,hRx⟩ | ⟨hnk,hpath⟩
      · obtain⟨num,xkey,xwho,wv,ws,off,blk⟩:=x
        dsimp only at hxk hlen hRx;subst hX;subst hxk;have hlk:=HR5.out.fe.loads.look kX underlying47 Qj (ZS (s:=xkey) (by have:=HK.out;omega)) (x:=some blk) (zF.2 rfl);simp only[xB]at hlk;have hx5:=HR5.out.fe.each _ (zF.2 rfl);have hw5:=HR5.out.fe.wait ⟨num,xkey,xwho,wv,ws,off,blk⟩ (zF.2 rfl);unfold ldC at hx5;unfold Yd at hw5;dsimp only at hx5 hw5;obtain⟨wa,wn,wc,rfl,hwl,_⟩:=zo.of_owns hw5 (fun u hu=>by unfold vm at hu;obtain⟨n,_,rfl⟩:=zz.1 hu;rfl);have hwn:wn=ws.length:=by unfold vm at hwl;rw[yn]at hwl;omega
        subst hwn;have hgo : ∀ g,(Value.slice wa ws.length wc).ownBlock=some g→g≠q∧g≠m1∧blk≠g:=fun g hg=>by
          have h9:=HR5.out.fe.nwq (x:=⟨num,xkey,xwho,.slice wa ws.length wc,ws,off,blk⟩) (b:=g) (zF.2 rfl) hg;exact⟨h9.1,h9.2.1,h9.2.2 _ (zF.2 rfl)⟩
        obtain⟨i0,hi,iz0,iz1,iz2⟩:=xG zh5;have HRx:=za hRx;have HW5:=za hw5;have HX5:=za hx5;have HGO:=za hgo;have HLen:=za hlen;have z7:=V7.out;clear hRx hw5 hwl hgo hlen HP;obtain⟨hb5_0,hb5_1,hb5_2,hb5_f,hb5_l,H_hb5⟩:=cr3 hb5;clear hb5;obtain⟨hx5_0,hx5_1,hx5_2,hx5_3,hx5_4,hx5_f,hx5_l,H_hx5⟩:=cr5 hx5;clear hx5;obtain⟨z7_0,z7_f,z7_l,H_z7⟩:=cr1 z7;clear z7;go_upto_region 17 with fail
        refine Code.wp_mono (fun _ _ _ h=>vV.le h) ?_;refine rHd (S:=fun Y=>Y.cell? ⟨c7,0,none⟩=some (.int .i64 who)) z7_0 (fun h_ => ?_);refine hTk 0 ?_;refine hTk 1 ?_;refine hTk 2 ?_;refine hTk 3 ?_;refine hLd 5 ?_;have a5:zc w2.drew (w2.drew.alloc (.cells #[.int .i64 who] 3)):=(Mod.refl _ _).alloc _;have e3:(w2.drew.alloc (.cells #[.int .i64 who] 3)).cell? ⟨blk,3,none⟩=some (.slice wa ws.length wc):=zi _ blk 3 _ _ (0,0) (a5.heap (fun e=>e) HX5.out);have e7:(w2.drew.alloc (.cells #[.int .i64 who] 3)).cell? ⟨c7,0,none⟩=some (.int .i64 who):=zi _ c7 0 _ _ (0,0) (a5.heap (fun e=>e) V7.out);refine uN (rs:=[4,6]) (by kernel_rfl) (by simp) ?_;refine vR rfl (fun K hK => ?_) (vR rfl (fun K hK => ?_) uM);go_simp;refine hK.out _ _ z7_0 (fun h_ => ?_);clear hK K;refine clA ?_
        (refine hSt 6 (fun K hK => ?_);go_simp;refine hK.out _ _ ?_ (fun h_ => ?_);(· exact e7);clear hK K;refine clA ?_)
        rotate_left 1;go_simp;refine hK.out _ _ e7 (fun h_ => ?_);clear hK K;refine clA ?_
        (refine hSt 4 (fun K hK => ?_);go_simp;refine hK.out _ _ ?_ (fun h_ => ?_);(· exact e7);clear hK K;refine clA ?_)
        all_goals
          have a5d:zc w2 (w2.drew.alloc (.cells #[.int .i64 who] 3)):=((Mod.refl _ w2).drew).alloc _;have hlen:=HLen.out;clear e3 e7;refine uN (rs:=[7]) (by kernel_rfl) (by simp) ?_;refine vR rfl (fun K hK => ?_) uM;refine XU _ (by rfl) _ _ 84 (by rfl) 3 i0 _ 1 8 underlying84 hi iz0 iz1 iz2 rfl (by decide) (.slice wa ws.length wc) ws.length _ (by rfl) (zy HW5.out a5d (fun _ _ e=>e)) (.slice (some ⟨w2.heap.size,0,none⟩) 1 1) [.int .i64 who] 1 (by rfl) (zo.of_block 1 1 1 (zj rfl) (by rfl) (by simp[Value.oneCell'])) rfl (by unfold maxLen;omega) (by omega) ?_;intro a7 k7 w5 hr7 hg7 hb7;have m5:Mod (fun k=>(Value.slice wa ws.length wc).ownBlock=some k) w2 w5:=(a5d.mono (fun _ _ e=>e.elim)).trans (Mod.of_grown (S:=fun k=>(Value.slice wa ws.length wc).ownBlock=some k) hg7 (fun k e _=>e));have hown : ∀ g,(Value.slice wa ws.length wc).ownBlock=some g→FeD q m1 [⟨num,xkey,xwho,.slice wa ws.length wc,ws,off,blk⟩] g:=fun g hg => .inr (.inr (.inr ⟨_,zF.2 rfl,hg⟩))
          have hx6:=m5.heap (fun e=>(HGO.out _ e).2.2 rfl) HX5.out;have v76:=m5.heap (fun e=>by have:=HFD.out _ (hown _ e);omega) V7.out;refine hK.out _ _ (zi w5 c7 0 _ _ (0,0) v76) (fun h_ => ?_);clear hK K a5 h_;have h_:=zi w5 c7 0 _ _ (0,0) v76;refine clA ?_;refine hTk 8 ?_;refine hTk 9 ?_;have hx6':=hx6;have bc:blk≠c7:=fun e=>by have:=HFD.out blk (.inr (.inr (.inl ⟨_,zF.2 rfl,rfl⟩)));omega
          have v77:=(Mod.set1 (w:=w5) blk 3 (.slice a7 (ws.length+1) k7)).heap (fun e=>bc e.symm) v76;obtain⟨hx6_0,hx6_1,hx6_2,hx6_3,hx6_4,hx6_f,hx6_l,H_hx6⟩:=cr5 hx6;clear hx6
          (refine hSt 10 (fun K hK => ?_);go_simp;refine hK.out _ _ ?_ (fun h_ => ?_);(· exact zi _ c7 0 _ _ (0,0) v77);clear hK K;refine clA ?_)
          refine hDn ?_;clear h_ hx6_0 hx6_1 hx6_2 hx6_3 hx6_4 hx6_f hx6_l H_hx6 v77 v76 hlen;refine vV.normal ?_;have hmem:(⟨num,xkey,xwho,.slice wa ws.length wc,ws,off,blk⟩:Ld) ∈ [(⟨num,xkey,xwho,.slice wa ws.length wc,ws,off,blk⟩:Ld)]:=zF.2 rfl;have m6:Mod (fun k=>(Value.slice wa ws.length wc).ownBlock=some k∨k=blk) w2 (w5.setCell ⟨blk,3,none⟩ (.slice a7 (ws.length+1) k7)):=(m5.mono (fun _ _ e => .inl e)).trans ((Mod.set1 blk 3 _).mono (fun _ _ e => .inr e));have hx7:=zW (j:=3) (v := .slice a7 (ws.length+1) k7) hx6';simp at hx7;have hnx : ∀ g,(Value.slice a7 (ws.length+1) k7).ownBlock=some g→(Value.slice wa ws.length wc).ownBlock=some g∨w2.heap.size≤g:=fun g hg=>by
            rcases hb7 with e | e
            · exact .inl (by rw[← e];exact hg)
            · rw[e]at hg;cases hg;exact .inr a5d.size
          have hgb : ∀ g,(Value.slice a7 (ws.length+1) k7).ownBlock=some g→g≠blk:=fun g hg e=>by
            rcases hnx g hg with e9 | e9
            · exact(HGO.out _ e9).2.2 e.symm
            · have:=zm HX5.out;omega
          have how:=zy hr7 (Mod.set1 (w:=w5) blk 3 (.slice a7 (ws.length+1) k7)) (fun g hg e=>hgb g hg e);obtain⟨r1,r2,r3,r4,r5,r6⟩:=HR5.out.fe.rng _ hmem;dsimp only at r6;have hF6:FeM (w5.setCell ⟨blk,3,none⟩ (.slice a7 (ws.length+1) k7)) q p m1 last [⟨num,xkey,xwho,.slice a7 (ws.length+1) k7,ws++[who],off,blk⟩] D1 :=
            HR5.out.fe.turn rfl rfl rfl rfl hx7 (by unfold Yd;dsimp only;have h9:=how;unfold vm at h9 ⊢;simpa using h9) ⟨by have:=HLen.out;simp;omega,fun n hn=>by
              rcases yz.1 hn with h9 | h9
              · exact r6 n h9
              · rw[zF.1 h9];exact HWho.out⟩ m6 (fun e=>e.elim (fun e=>(HGO.out _ e).1 rfl) (fun e=>HR5.out.fe.nbq hmem e.symm)) (fun e=>e.elim (fun e=>(HGO.out _ e).2.1 rfl) (fun e=>HR5.out.fe.nb1 hmem e.symm))
          have hR6:=HR5.out.turned m6 hF6 (fun k e=>e.elim (fun e => .inr (.inl e)) .inl) rfl hnx;have hfd : ∀ k,((Value.slice wa ws.length wc).ownBlock=some k∨k=blk)→FeD q m1 [⟨num,xkey,xwho,.slice wa ws.length wc,ws,off,blk⟩] k:=fun k e=>e.elim (hown k) (fun e => .inr (.inr (.inl ⟨_,hmem,e.symm⟩)))
          have z8:=m6.heap (fun e=>HR5.out.fe.nty V8.out (by decide) (hfd _ e)) V8.out;have z9:=m6.heap (fun e=>HR5.out.fe.nty V9.out (by decide) (hfd _ e)) V9.out;have zb:=m6.heap (fun e=>HR5.out.fe.nod VB.out _ (hfd _ e) rfl) VB.out;have HF8:=za (show ¬ blk=c8 from fun e=>HR5.out.fe.nty V8.out (by decide) (hfd _ (.inr e.symm)));have HF9:=za (show ¬ blk=c9 from fun e=>HR5.out.fe.nty V9.out (by decide) (hfd _ (.inr e.symm)));have HR6:=za hR6;have HX7:=za hx7;have Z8:=za z8;have Z9:=za z9;have ZB:=za zb;clear hmem m6 m5 hx7 hx6' hnx hgb how r1 r2 r3 r4 r5 r6 hF6 hR6 hfd z8 z9 zb hown hr7 hg7 hb7 a5d bc hb5_0 hb5_1 hb5_2 hb5_f hb5_l H_hb5 hx5_0 hx5_1 hx5_2 hx5_3 hx5_4 hx5_f hx5_l H_hx5 z7_0 z7_f z7_l H_z7;generalize w5.setCell ⟨blk,3,none⟩ (.slice a7 (ws.length+1) k7)=w6 at *;have hl6:=HX7.out;have HCS:Hid (∀ Y,Mod (fun k=>k=c8∨k=c9) w6 Y→Y.cell? ⟨blk,0,none⟩=some (.int .i64 num)):=za (fun Y hY=>zi Y blk 0 _ _ (0,0) (hY.heap (fun e=>e.elim HF8.out HF9.out) hl6));have z8:=Z8.out;have z9:=Z9.out;obtain⟨z8_0,z8_1,z8_2,z8_f,z8_l,H_z8⟩:=cr3 z8;clear z8;obtain⟨z9_0,z9_f,z9_l,H_z9⟩:=cr1 z9;clear z9;clear hl6;go_upto_region 18 with fail
          refine Code.wp_mono (fun _ _ _ h=>vV.le h) ?_;refine rHd (S:=fun Y=>Y.cell? ⟨blk,0,none⟩=some (.int .i64 num)) (HCS.out _ (Mod.refl _ _).drew) (fun h_ => ?_);refine hTk 0 ?_;refine hTk 1 ?_;refine hTk 2 ?_;refine hLd 3 ?_
          (refine hSt 4 (fun K hK => ?_);go_simp;refine hK.out _ _ ?_ (fun h_ => ?_);(· exact HCS.out _ (by exact yx));clear hK K;refine clA ?_)
          refine hTk 5 ?_
          (refine hSt 6 (fun K hK => ?_);go_simp;refine hK.out _ _ ?_ (fun h_ => ?_);(· exact HCS.out _ (by exact yx));clear hK K;refine clA ?_)
          refine hTk 7 ?_
          (refine hSt 8 (fun K hK => ?_);go_simp;refine hK.out _ _ ?_ (fun h_ => ?_);(· exact HCS.out _ (by exact yx));clear hK K;refine clA ?_)
          (refine hSt 9 (fun K hK => ?_);go_simp;refine hK.out _ _ ?_ (fun h_ => ?_);(· exact HCS.out _ (by exact yx));clear hK K;refine clA ?_)
          refine hDn ?_;clear h_ HCS z8_0 z8_1 z8_2 z8_f z8_l H_z8 z9_0 z9_f z9_l H_z9;refine vV.normal ?_;have y8:=(Mod.set1 c9 0 (.int .i64 0)).heap (k:=c8) n89 (zW (j:=2) (v := .int .i64 num) (zW (j:=0) (v := .int .i64 3) (zW (j:=2) (v := .int .i64 0) (zW (j:=1) (v := .slice none 0 0) (zW (j:=0) (v := .int .i64 0) Z8.out)))));have y9:=zW (j:=0) (v := .int .i64 0) ((((((Mod.set1 c8 0 (.int .i64 0)).trans (Mod.set1 c8 1 (.slice none 0 0))).trans (Mod.set1 c8 2 (.int .i64 0))).trans (Mod.set1 c8 0 (.int .i64 3))).trans (Mod.set1 c8 2 (.int .i64 num))).heap (k:=c9) n98 Z9.out);go_wp2;simp at y8 y9;refine V1 (kd:=3) (sv := .slice none 0 0) (ld:=(num:Int)) (er:=0) HR6.out Z8.out Z9.out ZB.out ?_ ?_ ?_ HM8.out HM9.out HMB.out HWW.out (fun W g0 g1 g2 g3=>by simp[results,results10,go_sem,g0,g1,g2,g3]) (fun W hF _=>HRx.out W _ hF)
          · exact yx
          · exact Uj y8
          · exact Uj y9
      · have hlk:=HR5.out.fe.loads.look_no kX underlying47 Qj (ZS (s:=key) (by have:=HK.out;omega)) (fun y hy=>by
          obtain⟨z,hz,rfl⟩:=zz.1 hy;exact fun c=>hnk z hz (Yz c))
        simp only[xB]at hlk;have hsz:=HR5.out.fe.loads.size;unfold jr at hsz;rw[yn]at hsz;have hown:=HR5.out.fe.loads.own;rcases hpath with⟨hlen,hRx⟩ | ⟨hlen,hlast,hRx⟩
        · have hge:(64:Int)≤(X.length:Int):=by omega
          have v8:=V8.out;have v9:=V9.out;have HRx:=za hRx;clear HP hRx hlen hnk;obtain⟨hb5_0,hb5_1,hb5_2,hb5_f,hb5_l,H_hb5⟩:=cr3 hb5;clear hb5;obtain⟨v8_0,v8_1,v8_2,v8_f,v8_l,H_v8⟩:=cr3 v8;clear v8;obtain⟨v9_0,v9_f,v9_l,H_v9⟩:=cr1 v9;clear v9
          go_wp2_with (at_len;refine wpList_len_own _ rfl _ 47 rfl 9 92 underlying47 xB.R m1 (jr X).length D1 rfl hown ?_;rw[hsz];go_frame)
          clear v8_0 v8_1 v8_2 v8_f v8_l H_v8 v9_0 v9_f v9_l H_v9 hb5_0 hb5_1 hb5_2 hb5_f hb5_l H_hb5;have y8:=(Mod.set1 c9 0 (.int .i64 7)).heap (k:=c8) n89 (zW (j:=2) (v := .int .i64 0) (zW (j:=1) (v := .slice none 0 0) (zW (j:=0) (v := .int .i64 0) V8.out)));have y9:=zW (j:=0) (v := .int .i64 7) (((Mod.set1 c8 0 (.int .i64 0)).trans ((Mod.set1 c8 1 (.slice none 0 0)).trans (Mod.set1 c8 2 (.int .i64 0)))).heap (k:=c9) n98 V9.out);simp at y8 y9;refine V1 (kd:=0) (sv := .slice none 0 0) (ld:=0) (er:=7) HR5.out V8.out V9.out VB.out ?_ ?_ ?_ HM8.out HM9.out HMB.out HWW.out (fun W g0 g1 g2 g3=>by simp[results,results10,go_sem,g0,g1,g2,g3]) (fun W hF _=>HRx.out W hF)
          · exact yx
          · exact y8
          · exact y9
        · have hge : ¬ (64:Int)≤(X.length:Int):=by omega
          obtain⟨ln,hln⟩:=zf (last+1);have hwr:IntKind.i64.wrap ((last:Int)+1)=(ln:Int):=by rw[show(last:Int)+1=(ln:Int) by omega];exact zt _ (by omega)
          rw[hln]at hlast hRx;have HRx:=za hRx;have HLast:=za (show last≤ln∧ln≤100000∧last<ln from⟨by omega,hlast,by omega⟩);have HLen:=za hlen;have HNK:=za hnk;have HB5:=za hb5;clear HP hRx hlen hnk hlast hln;obtain⟨hb5_0,hb5_1,hb5_2,hb5_f,hb5_l,H_hb5⟩:=cr3 hb5;clear hb5;go_upto_region 22 with(at_len;refine wpList_len_own _ rfl _ 47 rfl 9 92 underlying47 xB.R m1 (jr X).length D1 rfl hown ?_;rw[hsz];go_frame)
          clear hb5_0 hb5_1 hb5_2 hb5_f hb5_l;clear H_hb5 hlk hsz hown hge hwr;obtain⟨w4,hw4⟩:=zf (w2.setCell ⟨q,2,none⟩ (.int .i64 (ln:Int)));have hm4:Mod (fun k=>k=q) w2 w4:=by rw[← hw4];exact Mod.set1 q 2 _
          have hb4:w4.heap[q]? = some (.cells (feC p m1 ln) 49 (0,0)):=by rw[← hw4];exact zW (j:=2) HB5.out
          rw[hw4];have hR4:=HR5.out.bump ⟨HLast.out.1,HLast.out.2.1⟩ hm4 hb4;have f8:=HR5.out.fe.nty V8.out (by decide);have f9:=HR5.out.fe.nty V9.out (by decide);have hq7:c7≠q:=fun e=>by have:=HFD.out q (.inl rfl);omega
          have z7:=hm4.heap hq7 V7.out;have Z8a:=za (hm4.heap (fun e=>f8 (.inl e)) V8.out);have Z9a:=za (hm4.heap (fun e=>f9 (.inl e)) V9.out);have ZBa:=za (hm4.heap (fun e=>HR5.out.fe.nod VB.out _ (.inl rfl) e.symm) VB.out);have HF8q:=za (show ¬ q=c8 from fun e=>f8 (.inl e.symm));have HF9q:=za (show ¬ q=c9 from fun e=>f9 (.inl e.symm));have HM1:=za (show ¬ c8=m1 ∧ ¬ c9=m1 ∧ ¬ lb=m1 from⟨fun e=>f8 (.inr (.inl e)),fun e=>f9 (.inr (.inl e)),fun e=>HR5.out.fe.nod VB.out _ (.inr (.inl rfl)) e.symm⟩);have HNum:=za (fun y (hy:y∈X)=>(HR5.out.fe.rng y hy).2.1);have Z7:=za z7;have HR4:=za hR4;have HB4:=za hb4;have HFD4:=za (fun k (hk:FeD q m1 X k)=>HR5.out.fe.lt hk);have HS4:=za hm4.size;have g1:=zi w4 q 1 _ _ (0,0) hb4;have g2:=zi w4 q 2 _ _ (0,0) hb4;have g7:=zi w4 c7 0 _ _ (0,0) z7;clear hw4 hm4 hb4 hR4 f8 f9 hq7 z7 HB5;refine Code.wp_mono (fun _ _ _ h=>vV.le h) ?_;refine jE (S:=fun Y=>Y.cell? ⟨q,1,none⟩=some (.map (some m1))∧Y.cell? ⟨q,2,none⟩=some (.int .i64 (ln:Int))∧Y.cell? ⟨c7,0,none⟩=some (.int .i64 who)) (by kernel_rfl) ⟨g1,g2,g7⟩ (fun h_ => ?_);clear g1 g2 g7;refine hTk 0 ?_;refine hTk 1 ?_;refine hTk 2 ?_;refine hLd 3 ?_;refine hTk 4 ?_;refine hTk 5 ?_;refine hTk 6 ?_;refine hTk 7 ?_;refine hLd 8 ?_;refine hTk 9 ?_;refine hLd 10 ?_;refine hTk 11 ?_;have al6:zc w4 (w4.drew.alloc (.cells #[.int .i64 (ln:Int),.string key,.int .i64 who,.slice none 0 0,.bool false] 94)):=((Mod.refl _ w4).drew).alloc _;have z6:=zj (w:=w4.drew) (o := .cells #[.int .i64 (ln:Int),.string key,.int .i64 who,.slice none 0 0,.bool false] 94 (0,0)) rfl;have b6:=al6.heap (fun e=>e) HB4.out;have c6:=al6.heap (fun e=>e) Z7.out
          (refine hSt 12 (fun K hK => ?_);go_simp;refine hK.out _ _ ?_ (fun h_ => ?_);(· exact⟨zi _ q 1 _ _ (0,0) b6,zi _ q 2 _ _ (0,0) b6,zi _ c7 0 _ _ (0,0) c6⟩);clear hK K;refine clA ?_)
          have al6':zc w4 ((w4.alloc (.cells #[.int .i64 (ln:Int),.string key,.int .i64 who,.slice none 0 0,.bool false] 94)).drew):=((Mod.refl _ w4).alloc _).drew;have hR6:=HR4.out.pure al6';obtain⟨bk,hbk⟩:=zf w4.heap.size;have z6':((w4.alloc (.cells #[.int .i64 (ln:Int),.string key,.int .i64 who,.slice none 0 0,.bool false] 94)).drew).heap[bk]? = some (.cells #[.int .i64 (ln:Int),.string key,.int .i64 who,.slice none 0 0,.bool false] 94 (0,0)):=by rw[← hbk];exact z6
          obtain⟨w7,hrun,o7,gr7⟩:=hR6.fe.loads.own.update kX underlying47 (by unfold jr;rw[yn];unfold maxLen;have:=HLen.out;omega) (ZS (s:=key) (by have:=HK.out;omega)) (xB.rd (some bk));simp only[xB]at hrun;have m7:Mod (fun k=>k=m1) w4 w7:=(al6'.mono (fun _ _ e=>e.elim)).trans (Mod.of_grown gr7 (fun k e _=>by cases e;rfl));have hm1l:=HFD4.out m1 (.inr (.inl rfl));have hs4:=HS4.out;have hx7:=(Mod.of_grown (S:=fun k=>k=m1) gr7 (fun k e _=>by cases e;rfl)).heap (fun e=>by omega) z6';have hb7:=m7.heap HR4.out.fe.nq1 HR4.out.fe.box;have z77:=m7.heap (fun e=>by have:=HFD.out m1 (.inr (.inl rfl));omega) Z7.out;have hL:=hR6.fe.loads.put kX (zcY key) (x:=some bk) (fun y hy=>by
            obtain⟨z,hz,rfl⟩:=zz.1 hy;exact fun c=>HNK.out z hz (Yz c)) o7
          have hF7:FeM w7 q p m1 ln (⟨ln,key,who,.slice none 0 0,[],false,bk⟩::X) _:=HR4.out.fe.add hb7 ⟨zI _,HLast.out.2.1⟩ hx7 ⟨rfl,rfl⟩ ⟨fun y hy=>by have:=HNum.out y hy;have:=HLast.out.2.2;dsimp only;omega,by have:=HLast.out.2.2;dsimp only;omega,zI _,HK.out,HWho.out⟩ HNK.out (by have:=HLen.out;omega) hL m7 (fun k hk h1 h2 e=>h2 e);have hR7:=HR4.out.to m7 hF7 (fun k hk e=>HR4.out.ap k hk (.inr (.inl e))) (fun k _ e=>HR4.out.fe.nob (.inr (.inl e))) (fun k e=>HR4.out.ge k (.inr (.inl e))) (fun k hk=>by
            rcases hk with e | e | ⟨y,hy,e⟩ | ⟨y,hy,e⟩
            · exact .inl (.inl e)
            · exact .inl (.inr (.inl e))
            · rcases zO.1 hy with rfl | hy
              · exact .inr (by dsimp only at e;omega)
              · exact .inl (.inr (.inr (.inl ⟨y,hy,e⟩)))
            · rcases zO.1 hy with rfl | hy
              · cases e
              · exact .inl (.inr (.inr (.inr ⟨y,hy,e⟩))))
          have HR7:=za hR7;have HB7:=za hb7;have Z8:=za (m7.heap HM1.out.1 Z8a.out);have Z9:=za (m7.heap HM1.out.2.1 Z9a.out);have ZB:=za (m7.heap HM1.out.2.2 ZBa.out);have HF8:=HF8q;have HF9:=HF9q;have HZ77:=za z77;rw[hbk];clear al6' hR6 hbk z6 z6' o7 gr7 m7 hm1l hs4 hx7 hb7 z77 hL hF7 hR7 al6 b6 c6 HR4 HB4 Z7 Z8a Z9a ZBa;refine uN (rs:=[13]) (by kernel_rfl) (by simp) ?_;refine vR rfl (fun K hK => ?_) uM;go_simp;refine hK.out _ _ ⟨zi w7 q 1 _ _ (0,0) HB7.out,zi w7 q 2 _ _ (0,0) HB7.out,zi w7 c7 0 _ _ (0,0) HZ77.out⟩ (fun h_ => ?_);clear hK K hrun;refine clA ?_;refine hDn ?_;clear h_;refine vV.normal ?_;have hl6:=HB7.out;have HCS:Hid (∀ Y,Mod (fun k=>k=c8∨k=c9) w7 Y→Y.cell? ⟨q,2,none⟩=some (.int .i64 (ln:Int))):=za (fun Y hY=>zi Y q 2 _ _ (0,0) (hY.heap (fun e=>e.elim HF8.out HF9.out) hl6));have z8:=Z8.out;have z9:=Z9.out;obtain⟨z8_0,z8_1,z8_2,z8_f,z8_l,H_z8⟩:=cr3 z8;clear z8;obtain⟨z9_0,z9_f,z9_l,H_z9⟩:=cr1 z9;clear z9;clear hl6;go_upto_region 23 with fail
          refine Code.wp_mono (fun _ _ _ h=>vV.le h) ?_;refine jE (S:=fun Y=>Y.cell? ⟨q,2,none⟩=some (.int .i64 (ln:Int))) (by kernel_rfl) (HCS.out _ (Mod.refl _ _).drew) (fun h_ => ?_);refine hTk 0 ?_;refine hTk 1 ?_;refine hTk 2 ?_;refine hLd 3 ?_
          (refine hSt 4 (fun K hK => ?_);go_simp;refine hK.out _ _ ?_ (fun h_ => ?_);(· exact HCS.out _ (by exact yx));clear hK K;refine clA ?_)
          refine hTk 5 ?_
          (refine hSt 6 (fun K hK => ?_);go_simp;refine hK.out _ _ ?_ (fun h_ => ?_);(· exact HCS.out _ (by exact yx));clear hK K;refine clA ?_)
          refine hTk 7 ?_
          (refine hSt 8 (fun K hK => ?_);go_simp;refine hK.out _ _ ?_ (fun h_ => ?_);(· exact HCS.out _ (by exact yx));clear hK K;refine clA ?_)
          (refine hSt 9 (fun K hK => ?_);go_simp;refine hK.out _ _ ?_ (fun h_ => ?_);(· exact HCS.out _ (by exact yx));clear hK K;refine clA ?_)
          refine hDn ?_;clear h_ HCS z8_0 z8_1 z8_2 z8_f z8_l H_z8 z9_0 z9_f z9_l H_z9;refine vV.normal ?_;have y8:=(Mod.set1 c9 0 (.int .i64 0)).heap (k:=c8) n89 (zW (j:=2) (v := .int .i64 (ln:Int)) (zW (j:=0) (v := .int .i64 2) (zW (j:=2) (v := .int .i64 0) (zW (j:=1) (v := .slice none 0 0) (zW (j:=0) (v := .int .i64 0) Z8.out)))));have y9:=zW (j:=0) (v := .int .i64 0) ((((((Mod.set1 c8 0 (.int .i64 0)).trans (Mod.set1 c8 1 (.slice none 0 0))).trans (Mod.set1 c8 2 (.int .i64 0))).trans (Mod.set1 c8 0 (.int .i64 2))).trans (Mod.set1 c8 2 (.int .i64 (ln:Int)))).heap (k:=c9) n98 Z9.out);go_wp2;simp at y8 y9;refine V1 (kd:=2) (sv := .slice none 0 0) (ld:=(ln:Int)) (er:=0) HR7.out Z8.out Z9.out ZB.out ?_ ?_ ?_ HM8.out HM9.out HMB.out HWW.out (fun W g0 g1 g2 g3=>by simp[results,results10,go_sem,g0,g1,g2,g3]) (fun W hF _=>HRx.out W _ hF)
          · exact yx
          · exact Uj y8
          · exact Uj y9
  case stop =>
    rintro lb c pre W hlb _ ⟨rfl,hm,hbs,h8,h9⟩ hK;rcases HRR.out with⟨_,hR⟩ | ⟨hno,_⟩
    · have hs : ∀ k,(k=c8∨k=c9)→c7≤k:=fun k e=>by have:=HC.out;omega
      have hF:FeR w0 D0 q p m1 last X D1 t W:=HR3.out.side hm (fun k hk e=>by have:=HD0.out k hk;have:=hs k e;omega) (fun k hk e=>by have:=HFD.out k hk;have:=hs k e;omega) (fun k _ e=>by
        rcases e with e | e
        · subst e;exact vd Y8.out (by decide)
        · subst e;exact vd Y9.out (by decide)) (fun k e=>by have:=HW0.out;have:=hs k e;omega)
      have nb : ¬ D0 lb:=fun e=>by have:=HD0.out lb e;have:=HC.out;omega
      obtain⟨hR7,hm7⟩:=hF.shut hK nb (by have:=HW0.out;have:=HC.out;omega);have g8:=hm7.heap (fun e=>by have:=HC.out;omega) h8;have g9:=hm7.heap (fun e=>by omega) h9;have g0:=zi _ _ 0 _ _ _ g8;have g1:=zi _ _ 1 _ _ _ g8;have g2:=zi _ _ 2 _ _ _ g8;have g3:=zi _ _ 0 _ _ _ g9;have HG:=za (show _∧_∧_∧_ from⟨g0,g1,g2,g3⟩);have HKK:=za hK;have HRf:=za (hR _ ⟨D0,D1,hR7⟩);clear hm hbs h8 h9 hK hF nb hR7 hm7 g8 g9 g0 g1 g2 g3 hR hs;dsimp only;gi_wp2;obtain⟨g0,g1,g2,g3⟩:=HG.out;exact jy (v := .tuple #[.agg #[.int .i64 0,.slice none 0 0,.int .i64 0],.int .i64 11]) HKK.out (by simp at g0 g1 g2 g3;simp[results,results10,go_sem,g0,g1,g2,g3]) HRf.out
    · obtain⟨x,hx,hb⟩:=hbs
      exact absurd hb (hno x hx)
end
end
section
open Go.RowKit Go.Shelf Go.Maps
attribute [local go_sem] Oper.semAt_some
theorem zlg(a:Option Addr)(c:Nat)(f:Fn)(x y:Array Value)(w:World):Calls prog 143 #[.slice a 0 c,.int .i64 0,.int .i64 0,.func f x y] w fun e w'=>e=.returned (.tuple #[])∧w=w':=by
 go_enter func143,ntmps143;go_upto_region 1 with fail
 refine wp_loop_rounds 1 ?_;rw[rounds_succ];go_wp2
 go_end0
 exact⟨rfl,rfl⟩
theorem zjU(a:Option Addr)(c:Nat)(l:Int)(f:Fn)(x y:Array Value)(w:World):Calls prog 87 #[.slice a 0 c,.int .i64 0,.int .i64 0,.int .i64 l,.func f x y] w fun e w'=>e=.returned (.tuple #[])∧w=w':=by
 have HI:=za (zlg a c f x y w);go_enter func87,ntmps87;go_upto_region 2 with fail
 refine wp_loop_rounds 1 ?_;rw[rounds_succ]
 go_wp2_with (go_at_call 143;refine HI.out.mono ?_;rintro e w' ⟨rfl,rfl⟩)
 exact zN (results_none rfl _ _ _) rfl ⟨rfl,rfl⟩
theorem zkf(a:Option Addr)(c:Nat)(f:Fn)(x y:Array Value)(w:World):Calls prog 51 #[.slice a 0 c,.func f x y] w fun e w'=>e=.returned (.tuple #[])∧w=w':=by
  have HL:=za (fun W=>zcJ 0 (by decide) W);have HP:=za (fun l W=>zjU a c l f x y W);go_enter func51,ntmps51
  go_wp2_with (first
    | (go_at_call 88;refine(HL.out _).mono ?_;rintro e w' ⟨rfl,rfl⟩)
    | (go_at_call 87;refine(HP.out _ _).mono ?_;rintro e w' ⟨rfl,rfl⟩))
  go_end0
  exact⟨rfl,rfl⟩
section
variable{w w' w1 w2 w0:World}{q p m1 last:Nat}{X X':List Ld}{D1 D1':DataW Unit}{S D0:Nat→Prop}{t t' t1 t2:Bst}
theorem zkc(h:FeP w0 q p m1 last [] t w):Calls prog 15 #[lkP q] w fun e w'=>e=.returned (.slice none 0 0)∧zc w0 w':=by
 obtain⟨D0,D1,h⟩:=h;have z3:=zj (w:=w) (o := .cells #[.slice none 0 0] 55 (0,0)) rfl;have hal:zc w (w.alloc (.cells #[.slice none 0 0] 55)):=(Mod.refl _ w).alloc _;have hF2:=h.fe.mod hal (fun _ _ e=>e);have HN:=za (Zf h.fe);have HA:=za (JY hF2);have HPU:=za h.pu;have HF2:=za hF2;have Z3:=za z3;have HAL:=za hal;clear h z3 hal hF2
 (refine(yB (n:=0)).1 (callsIn_of_wp_marks func15 rfl trivial (vy.2 ?_) rfl);simp only[ntmps15,List.size_toArray,List.length_cons,List.length_nil,Nat.reduceAdd,Nat.reduceSub,Array.replicate_succ,Array.replicate_zero,List.push_toArray,List.append_toArray,List.nil_append,List.cons_append])
 go_upto_region 4 with(go_at_call 32;refine HN.out.mono ?_;rintro e w' ⟨rfl,rfl⟩)
 generalize w.alloc (.cells #[.slice none 0 0] 55)=W2 at *;obtain⟨c3,hc3⟩:=zf w.heap.size;rw[hc3]at Z3 ⊢;have HC3:=za hc3;clear hc3;have hal3:zc W2 (W2.alloc (.cells #[.map (some m1)] 47)):=(Mod.refl _ _).alloc _;have HF3:=za (HF2.out.mod hal3 (fun _ _ e=>e));have HBm:=za (zj (w:=W2) (o := .cells #[.map (some m1)] 47 (0,0)) rfl);have Y3:=za (hal3.heap (fun e=>e) Z3.out);have HP3:=za (HAL.out.trans hal3);clear hal3
 go_wp2_with (go_at_call 35;refine HA.out.mono ?_;rintro e w' ⟨rfl,rfl⟩)
 clear HA HN HAL Z3 HF2;generalize W2.alloc (.cells #[.map (some m1)] 47)=W3 at *;generalize W2.heap.size=Bm at *;have hl3:c3<W3.heap.size:=zm Y3.out;refine(vy (n:=2)).1 (wpIn_rangeFunc_ownF (n:=2) rfl (by decide) (gf:=105) (lb:=#[lkP Bm]) rfl trivial (enters_of func105 (by kernel_rfl) rfl) (Kz HF3.out HBm.out) (fun h k=>h.trans k) (fun W l o o' _ hl _ hw=>KeepsWalks.putObj o' hl hw) (Below.refl _ _) (fun _=>rfl) (fun _ W=>zc W3 W∧True) (fun _ _ _=>False) ?hI ?hIx ?h0 (fun _ => {tmps:=#[],defers:=[]}) ?assign ?body ?done ?stop)
 case hI=>exact Km (fun _=>True)
 case hIx=>exact fun c s A B row h hg hr=>h
 case h0=>exact⟨Mod.refl _ _,trivial⟩
 case assign =>
  intro l x;exact absurd x.2 (by simp)
 case body =>
  intro l pre x;exact absurd x.2 (by simp)
 case stop=>exact fun _ _ _ _ _ _ h _=>h.elim
 case done =>
  rintro lb xs W hlb _ ⟨hp,_⟩ hK;have hz3:=hp.heap (fun e=>e) Y3.out;have HK:=za hK;have HLB:=za hlb;have HP:=za hp;clear hK hlb hp;obtain⟨hz3_0,hz3_f,hz3_l,H_hz3⟩:=cr1 hz3;clear hz3
  go_wp2_with (go_at_call 51;refine zq (zkf _ _ _ _ _ _) ?_;rintro e w9 ⟨rfl,rfl⟩)
  have m2:Mod (fun k=>k=lb) W (W.putObj lb (.deferred none)):=⟨rfl,rfl,rfl,by simp,fun k _ hn=>World.putObj_heap_other (fun e=>hn e)⟩;exact jy (v := .slice none 0 0) HK.out (by simp[results,results15,go_sem]) ⟨rfl,((HPU.out.trans HP3.out).trans HP.out).then m2 (fun k hk e=>by have h1:=HLB.out;have h2:=HP3.out.size;have h3:=HPU.out.size;omega)⟩
end
end
end Go.Proofs.YtdohbogbnheakaaGreatDoor
