/- Lemmas and contracts of functions. No condition. -/
import Derived.Test.YtdohbogbnheakaaGreatDoorJPfBoth4026
import Derived.Shelf.Slices.Cells
import Derived.DefersIn
namespace Go.Proofs.YtdohbogbnheakaaGreatDoor
open _root_.Go.Proofs.Tryz
set_option maxRecDepth 100000
set_option maxHeartbeats 20000000
set_option linter.all false
section
open Go.RowKit Go.Shelf Go.Maps
section
variable{w w' w1 w2 w0:World}{q p m1 last:Nat}{X X':List Ld}{D1 D1':DataW Unit}{S D0:Nat→Prop}{t t' t1 t2:Bst}
theorem zjt(h:FeP w0 q p m1 last X t w){tt ttl vn vc:Nat}{va:Option Addr}{ld:Int}(hn : ∀ x∈X,(x.num:Int)≠ld) :
    Calls prog 11 #[lkP q,.int .u64 tt,.int .i64 ld,.slice va vn vc,.int .u64 ttl] w fun e w'=>e=.returned (.tuple #[.slice none 0 0,.int .i64 9])∧FeP w0 q p m1 last X t w'∧zc w w':=by
  obtain⟨D0,D1,h⟩:=h;have hal:zc w (w.alloc (.cells #[.slice va vn vc] 32)):=(Mod.refl _ w).alloc _;have h1:=h.pure hal;have HAL:=za hal;clear hal;have HN:=za (Zf h1.fe);have HF:=za (zez h1.fe hn);have HH:=za h1;clear h h1 hn
  go_enter_defers func11,ntmps11
  go_wp2_with (first
    | (go_at_call 32;refine HN.out.mono ?_;rintro e w' ⟨rfl,rfl⟩)
    | (go_at_call 39;refine HF.out.mono ?_;rintro e w2 ⟨rfl,hp⟩))
  exact⟨.tuple #[.slice none 0 0,.int .i64 9],by simp[results,results11,go_sem],rfl,⟨D0,D1,HH.out.pure hp⟩,HAL.out.trans hp⟩
def U5(t:Bst)(off:Bool)(key:ByteArray)(vs:List UInt8)(n tt ttl:Nat)(t2:Bst):Prop :=
 (off=true∧t2=t)∨(off=false∧U8 t key n ttl=true∧ji t key.size n=0∧XR t tt key vs (dlT ttl)=t2)∨(off=false∧ttl=0∧key.size≤1000 ∧ ∃ er,ji t key.size n=er∧er≠0∧t2=t)
theorem Azzi8 {P:Prop}(h:P:=by
 refine hDn ?_;clear h_;refine vV.normal ?_;have HR5:=za hR5;have Z5:=za z5;have HV5:=za (HVd.out.frame hm5 (HBd.out.off (fun k hk=>HRd.out.ca.nob hk)));have HB5:=za (kx.mod HBd.out hm5 (fun k hk=>HRd.out.ca.nob hk));have HM5:=za (((Mod.refl (fun _=>False) w2).drew.mono (fun _ _ e=>e.elim)).trans hm5);have HG5:=za hgr5;clear hgr5 hR5 z5 hb5 hx5 hm5 hbx_0 hbx_1 hbx_2 hbx_f hbx_l H_hbx hxb_0 hxb_1 hxb_2 hxb_3 hxb_4 hxb_f hxb_l H_hxb z8_0 z8_f z8_l H_z8 HSet;have HG:=za (XJ HR5.out.fe HX.out (fun args W=>enters_of func43 (by kernel_rfl) rfl args W) (V2 (S:=fun k=>k=m1) Z5.out HV5.out (by have:=HVN.out;omega) HM8.out (HB5.out.off (fun k e=>by subst e;exact HR5.out.fe.nob (.inr (.inl rfl))))));dsimp only at HG
 go_wp2_with (go_at_call 42;refine HG.out.mono ?_;rintro e w3 ⟨v,rfl,hgv,hF3⟩)
 obtain⟨g1,g2,g3,g4⟩:=HFin.out _ _ _ v HR5.out hF3 hgv;refine leaves_cons (f:=37) (args:=#[lkP p]) (by simp) (by simp[go_sem]) ?_;refine g3.drain.mono ?_;rintro e u' w' ⟨rfl,⟨v9,rfl⟩,hm,hk⟩;exact⟨.tuple #[v,.int .i64 0],by simp[results,results11,go_sem],v,rfl,g1.mod hm g2 (fun k hk=>g3.ca.nob hk),hk,(((HPW.out.mono (fun _ _ e=>e.elim)).then HM5.out (fun k _ e => .inl e)).then g4 (fun k _ e => .inr e)).then hm (fun k hk e => .inl ((HG5.out k e).elim id (fun e=>by have h9:w2.heap.size≤k:=e;have:=HPW.out.size;omega)))⟩):P:=h
theorem ze1(h:FeR w0 D0 q p m1 last X D1 t w){tt ttl vn vc:Nat}{va:Option Addr}{vs:List UInt8}{num who blk:Nat}{key:ByteArray}{wv:Value}{ws:List Nat}{off:Bool}(hx:(⟨num,key,who,wv,ws,off,blk⟩:Ld)∈X)(hv:zo w (.slice va vn vc) 1 (zQ vs))(hb:kx w (.slice va vn vc))(hvn:vn≤65536)(ht:tt≤18446744073709551615)(hs:U5 t off key vs vn tt ttl t2) :
    Calls prog 11 #[lkP q,.int .u64 tt,.int .i64 num,.slice va vn vc,.int .u64 ttl] w fun e w' => ∃ v,e=.returned (.tuple #[v,.int .i64 0])∧Zj w' who ws 0 vs v∧FeP w0 q p m1 last (vr X num) (vA t2) w'∧Mod (fun k=>D0 k∨k=m1) w w':=by
  have hal:zc w (w.alloc (.cells #[.slice va vn vc] 32)):=(Mod.refl _ w).alloc _;have h1:=h.pure hal;have z8:=zj (w:=w) (o := .cells #[.slice va vn vc] 32 (0,0)) rfl;have hf:=Vo h1.fe hx;dsimp only at hf;have hd8 : ¬ D0 w.heap.size:=fun e=>by have:=h.ca.lt e;omega
  have hm8:w.heap.size≠m1:=fun e=>by have:=h.fe.lt (k:=m1) (.inr (.inl rfl));omega
  have HAL:=za hal;have HN:=za (Zf h1.fe);have HF:=za hf;have HH:=za h1;have Z8:=za z8;have HX:=za hx;have HV:=za (hv.frame hal (fun _ _ e=>e));have HB:=za (kx.mod hb hal (fun _ e=>e.elim));have HD8:=za hd8;have HM8:=za hm8;have HS:=za hs;have HVN:=za hvn;have HT:=za ht;have hlv : ¬ (vn:Int)>65536:=by omega
  clear h h1 hx hal z8 hf hv hb hd8 hm8 hs hvn ht
  go_enter_defers func11,ntmps11
  go_upto_region 1 with fail
  generalize w.alloc (.cells #[.slice va vn vc] 32)=W1 at *;generalize w.heap.size=c8 at *;go_upto_region 6 with(first
    | (go_at_call 32;refine HN.out.mono ?_;rintro e w' ⟨rfl,rfl⟩)
    | (go_at_call 39;refine HF.out.mono ?_;rintro e w2 ⟨rfl,hp⟩))
  have HPW:=za (HAL.out.trans hp);have hR:=HH.out.pure hp;have hbx:=hR.fe.box;have hxb:=hR.fe.each _ HX.out;unfold ldC at hxb;dsimp only at hxb;have z8:=hp.heap (fun e=>e) Z8.out;have HR:=za hR;have HV2:=za (HV.out.frame hp (fun _ _ e=>e));have HB2:=za (kx.mod HB.out hp (fun _ e=>e.elim));have Z82:=za z8;clear hR HH HN HF HV HB Z8 hp;obtain⟨hbx_0,hbx_1,hbx_2,hbx_f,hbx_l,H_hbx⟩:=cr3 hbx;clear hbx;obtain⟨hxb_0,hxb_1,hxb_2,hxb_3,hxb_4,hxb_f,hxb_l,H_hxb⟩:=cr5 hxb;clear hxb;obtain⟨z8_0,z8_f,z8_l,H_z8⟩:=cr1 z8;clear z8;have hz8d : ¬ D0 c8:=HD8.out;have hfin : ∀(D0':Nat→Prop) (W W9:World) (v:Value),FeR w0 D0' q p m1 last X D1 t2 W→FeM W9 q p m1 last (vr X num) (D1.del (xc key))→GvI W m1 who ws 0 vs ws.length v W9→Zj W9 who ws 0 vs v∧(∀ g,v.ownBlock=some g → ¬ D0' g)∧FeR w0 D0' q p m1 last (vr X num) (D1.del (xc key)) t2 W9∧Mod (fun k=>k=m1) W W9:=fun D0' W W9 v hW hF hG=>by
    obtain⟨g1,g2,g3⟩:=hG.out;exact⟨g1,fun g hg hd=>(by have:=g3 g hg;have:=hW.ca.lt hd;omega),hW.gone g2 hF,g2⟩
  have HFin:=za hfin;clear hfin;have HVd:=za (HV2.out.frame ((Mod.refl (fun _=>False) w2).drew) (fun _ _ e=>e));have HBd:=za (kx.mod HB2.out ((Mod.refl (fun _=>False) w2).drew) (fun _ e=>e.elim));have hdr:=HR.out.pure (Mod.refl (fun _=>False) w2).drew;rcases HS.out with⟨ho,e2⟩ | ⟨ho,hok,he,e2⟩ | ⟨ho,h0,hks,er,he,hne,e2⟩
  · rw[ho]at hxb_4
    subst e2;clear HS hdr;have HG:=za (XJ HR.out.fe HX.out (fun args W=>enters_of func43 (by kernel_rfl) rfl args W) (V2 (S:=fun k=>k=m1) Z82.out HV2.out (by have:=HVN.out;omega) HM8.out (HB2.out.off (fun k e=>by subst e;exact HR.out.fe.nob (.inr (.inl rfl))))));dsimp only at HG
    go_wp2_with (go_at_call 42;refine HG.out.mono ?_;rintro e w3 ⟨v,rfl,hgv,hF3⟩)
    obtain⟨g1,g2,g3,g4⟩:=HFin.out _ _ _ v HR.out hF3 hgv;refine leaves_cons (f:=37) (args:=#[lkP p]) (by simp) (by simp[go_sem]) ?_;refine g3.drain.mono ?_;rintro e u' w' ⟨rfl,⟨v9,rfl⟩,hm,hk⟩;exact⟨.tuple #[v,.int .i64 0],by simp[results,results11,go_sem],v,rfl,g1.mod hm g2 (fun k hk=>g3.ca.nob hk),hk,((HPW.out.mono (fun _ _ e=>e.elim)).then g4 (fun k _ e => .inr e)).then hm (fun k _ e => .inl e)⟩
  · rw[ho]at hxb_4
    obtain⟨o1,o2,o3,o4,o5,o6,o7⟩:=zit hok;have hoff:=HB2.out.off (fun k hk=>HR.out.ca.nob hk);have HRd:=za hdr;by_cases h0:ttl=0
    · subst h0
      have hset:=hdr.ca.Set HT.out he o1 HV2.out hoff;rw[← zfM,e2]at hset;have HSet:=za hset;clear HS hdr hset hok he e2 o1 o2 o3 o4 o5 o6 o7 hoff;go_upto_region 12 with fail
      refine Code.wp_mono (fun _ _ _ h=>vV.le h) ?_;refine rHd (S:=fun Y=>Y.cell? ⟨q,0,none⟩=some (lkP p)∧Y.cell? ⟨blk,1,none⟩=some (.string key)∧Y.cell? ⟨c8,0,none⟩=some (.slice va vn vc)) ⟨hbx_0,hxb_1,z8_0⟩ (fun h_ => ?_);refine hTk 0 ?_;refine hTk 1 ?_;refine hTk 2 ?_;refine hLd 3 ?_;refine hTk 4 ?_;refine hTk 5 ?_;refine hTk 6 ?_;refine hTk 7 ?_;refine hLd 8 ?_;refine hLd 9 ?_
      (refine hSt 10 (fun K hK => ?_);go_simp;refine HSet.out.mono ?_;rintro e w5 ⟨rfl,hg⟩;obtain⟨D5,hR5,hm5,hgr5⟩:=HRd.out.cago2 hg;have hb5:=hR5.fe.box;have hx5:=hR5.fe.each _ HX.out;have z5:=hm5.heap HD8.out Z82.out;unfold ldC at hx5;dsimp only at hx5;refine hK.out _ _ ?_ (fun h_ => ?_);(· exact⟨zi w5 q 0 _ _ (0,0) hb5,zi w5 blk 1 _ _ (0,0) hx5,zi w5 c8 0 _ _ (0,0) z5⟩);clear hK K;refine clA ?_)
      exact Azzi8
    · have hset:=hdr.ca.SetTTL HT.out o6 (by omega) he o1 HV2.out hoff o7
      rw[← zhU (by omega),e2]at hset;have hz:((ttl:Int)==0)=false:=by simp;omega
      have HSet:=za hset;clear HS hdr hset hok he e2 o1 o2 o3 o4 o5 o6 o7 hoff h0;go_upto_region 9 with fail
      refine Code.wp_mono (fun _ _ _ h=>vV.le h) ?_;refine rHd (S:=fun Y=>Y.cell? ⟨q,0,none⟩=some (lkP p)∧Y.cell? ⟨blk,1,none⟩=some (.string key)∧Y.cell? ⟨c8,0,none⟩=some (.slice va vn vc)) ⟨hbx_0,hxb_1,z8_0⟩ (fun h_ => ?_);refine hTk 0 ?_;refine hTk 1 ?_;refine hTk 2 ?_;refine hLd 3 ?_;refine hTk 4 ?_;refine hTk 5 ?_;refine hTk 6 ?_;refine hTk 7 ?_;refine hLd 8 ?_;refine hLd 9 ?_;refine hTk 10 ?_
      (refine hSt 11 (fun K hK => ?_);go_simp;refine HSet.out.mono ?_;rintro e w5 ⟨rfl,hg⟩;obtain⟨D5,hR5,hm5,hgr5⟩:=HRd.out.cago2 hg;have hb5:=hR5.fe.box;have hx5:=hR5.fe.each _ HX.out;have z5:=hm5.heap HD8.out Z82.out;unfold ldC at hx5;dsimp only at hx5;refine hK.out _ _ ?_ (fun h_ => ?_);(· exact⟨zi w5 q 0 _ _ (0,0) hb5,zi w5 blk 1 _ _ (0,0) hx5,zi w5 c8 0 _ _ (0,0) z5⟩);clear hK K;refine clA ?_)
      exact Azzi8
  · rw[ho]at hxb_4
    subst h0;subst e2;have HRd:=za hdr;have HSet:=za (hdr.ca.SetErr tt (a:=va) (c:=vc) (n:=vn) (key:=key) (by omega) (by have:=HVN.out;omega) he hne);clear HS hdr he hne;go_upto_region 12 with fail
    refine Code.wp_mono (fun _ _ _ h=>vV.le h) ?_;refine rHd (S:=fun Y=>Y.cell? ⟨q,0,none⟩=some (lkP p)∧Y.cell? ⟨blk,1,none⟩=some (.string key)∧Y.cell? ⟨c8,0,none⟩=some (.slice va vn vc)) ⟨hbx_0,hxb_1,z8_0⟩ (fun h_ => ?_);refine hTk 0 ?_;refine hTk 1 ?_;refine hTk 2 ?_;refine hLd 3 ?_;refine hTk 4 ?_;refine hTk 5 ?_;refine hTk 6 ?_;refine hTk 7 ?_;refine hLd 8 ?_;refine hLd 9 ?_
    (refine hSt 10 (fun K hK => ?_);go_simp;refine HSet.out.mono ?_;rintro e w5 ⟨rfl,hp5⟩;have hR5:=HRd.out.pure hp5;have hb5:=hR5.fe.box;have hx5:=hR5.fe.each _ HX.out;have z5:=hp5.heap (fun e=>e) Z82.out;unfold ldC at hx5;dsimp only at hx5;refine hK.out _ _ ?_ (fun h_ => ?_);(· exact⟨zi w5 q 0 _ _ (0,0) hb5,zi w5 blk 1 _ _ (0,0) hx5,zi w5 c8 0 _ _ (0,0) z5⟩);clear hK K;refine clA ?_)
    refine hDn ?_;clear h_;refine vV.normal ?_;have HR5:=za hR5;have Z5:=za z5;have HV5:=za (HVd.out.frame hp5 (fun _ _ e=>e));have HB5:=za (kx.mod HBd.out hp5 (fun k hk=>hk.elim));have HM5:=za (((Mod.refl (fun _=>False) w2).drew.mono (fun _ _ e=>e.elim)).trans hp5);clear hR5 z5 hb5 hx5 hp5 hbx_0 hbx_1 hbx_2 hbx_f hbx_l H_hbx hxb_0 hxb_1 hxb_2 hxb_3 hxb_4 hxb_f hxb_l H_hxb z8_0 z8_f z8_l H_z8 HSet;have HG:=za (XJ HR5.out.fe HX.out (fun args W=>enters_of func43 (by kernel_rfl) rfl args W) (V2 (S:=fun k=>k=m1) Z5.out HV5.out (by have:=HVN.out;omega) HM8.out (HB5.out.off (fun k e=>by subst e;exact HR5.out.fe.nob (.inr (.inl rfl))))));dsimp only at HG
    go_wp2_with (go_at_call 42;refine HG.out.mono ?_;rintro e w3 ⟨v,rfl,hgv,hF3⟩)
    obtain⟨g1,g2,g3,g4⟩:=HFin.out _ _ _ v HR5.out hF3 hgv;refine leaves_cons (f:=37) (args:=#[lkP p]) (by simp) (by simp[go_sem]) ?_;refine g3.drain.mono ?_;rintro e u' w' ⟨rfl,⟨v9,rfl⟩,hm,hk⟩;exact⟨.tuple #[v,.int .i64 0],by simp[results,results11,go_sem],v,rfl,g1.mod hm g2 (fun k hk=>g3.ca.nob hk),hk,(((HPW.out.mono (fun _ _ e=>e.elim)).then HM5.out (fun k _ e=>e.elim)).then g4 (fun k _ e => .inr e)).then hm (fun k _ e => .inl e)⟩
end
section
variable{w w' w1 w2 w0:World}{q p m1 last:Nat}{X X':List Ld}{D1 D1':DataW Unit}{S D0:Nat→Prop}{t t' t1 t2:Bst}
theorem zeW(h:FeP w0 q p m1 last X t w){tt:Nat}{code:Int}{num who blk:Nat}{key:ByteArray}{wv:Value}{ws:List Nat}{off:Bool}(hx:(⟨num,key,who,wv,ws,off,blk⟩:Ld)∈X)(hc:0<code)(ht:tt≤18446744073709551615)(hr:vj t=0)(ht1:jm t tt=t1) :
    Calls prog 12 #[lkP q,.int .u64 tt,.int .i64 num,.int .i64 code] w fun e w' => ∃ v,e=.returned (.tuple #[v,.int .i64 0])∧Zj w' who ws code [] v∧FeP w0 q p m1 last (vr X num) (vA t1) w':=by
  obtain⟨D0,D1,h⟩:=h;have hal:zc w (w.alloc (.cells #[.int .i64 code] 24)):=(Mod.refl _ w).alloc _;have h1:=h.pure hal;have z8:=zj (w:=w) (o := .cells #[.int .i64 code] 24 (0,0)) rfl;have hf:=Vo h1.fe hx;dsimp only at hf;have hd8 : ¬ D0 w.heap.size:=fun e=>by have:=h.ca.lt e;omega
  have hm8:w.heap.size≠m1:=fun e=>by have:=h.fe.lt (k:=m1) (.inr (.inl rfl));omega
  have HN:=za (Zf h1.fe);have HF:=za hf;have HH:=za h1;have Z8:=za z8;have HX:=za hx;have HD8:=za hd8;have HM8:=za hm8;have HT:=za ht;have HRo:=za hr;have HT1:=za ht1;have hlv : ¬ code≤0:=by omega
  clear h h1 hx hal z8 hf hd8 hm8 ht hr ht1 hc
  go_enter_defers func12,ntmps12
  go_upto_region 1 with fail
  generalize w.alloc (.cells #[.int .i64 code] 24)=W1 at *;generalize w.heap.size=c8 at *;go_upto_region 6 with(first
    | (go_at_call 32;refine HN.out.mono ?_;rintro e w' ⟨rfl,rfl⟩)
    | (go_at_call 39;refine HF.out.mono ?_;rintro e w2 ⟨rfl,hp⟩))
  have hR:=HH.out.pure hp;have hbx:=hR.fe.box;have z8:=hp.heap (fun e=>e) Z8.out;have had:=hR.ca.adv HT.out HRo.out;rw[HT1.out]at had;have HAd:=za had;clear had;have HR:=za hR;have Z82:=za z8;clear hR HH HN HF Z8 hp;obtain⟨hbx_0,hbx_1,hbx_2,hbx_f,hbx_l,H_hbx⟩:=cr3 hbx;clear hbx;obtain⟨z8_0,z8_f,z8_l,H_z8⟩:=cr1 z8;clear z8;go_upto_region 10 with(go_at_call 45;refine HAd.out.mono ?_;rintro e w5 ⟨rfl,hg⟩)
  obtain⟨D5,hR5⟩:=HR.out.cago hg;obtain⟨_,_,hm5,_⟩:=hg;have z5:=hm5.heap HD8.out Z82.out;have HR5:=za hR5;have Z5:=za z5;clear hbx_0 hbx_1 hbx_2 hbx_f hbx_l;clear z8_0 z8_f z8_l;clear H_hbx H_z8 hR5 z5 hm5 HAd HR Z82;have HG:=za (XJ HR5.out.fe HX.out (fun args W=>enters_of func46 (by kernel_rfl) rfl args W) (zf3 (S:=fun k=>k=m1) Z5.out HM8.out));dsimp only at HG
  go_wp2_with (go_at_call 42;refine HG.out.mono ?_;rintro e w3 ⟨v,rfl,hgv,hF3⟩)
  obtain⟨g1,g2,g3⟩:=hgv.out;have hR6:=HR5.out.gone g2 hF3;have hng : ∀ g,v.ownBlock=some g → ¬ D5 g:=fun g hg hd=>by have:=g3 g hg;have:=HR5.out.ca.lt hd;omega
  refine leaves_cons (f:=37) (args:=#[lkP p]) (by simp) (by simp[go_sem]) ?_;refine hR6.drain.mono ?_;rintro e u' w' ⟨rfl,⟨v9,rfl⟩,hm,hk⟩;exact⟨.tuple #[v,.int .i64 0],by simp[results,results12,go_sem],v,rfl,g1.mod hm hng (fun k hk=>hR6.ca.nob hk),hk⟩
end
end
section
open Go.Shelf Go.Proofs
def zdR:Go.Shelf.Ren:=⟨fun | 23=>49 | n=>n,fun | 22=>84 | 3=>3 | 4=>4 | 0=>0 | n=>n,fun | n=>n⟩
theorem zgH:Go.Proofs.Lays2.n23 prog zdR := {
 mixed:=by kernel_rfl
 f23:=func49.trans (congrArg some (by kernel_rfl))
 t0:=underlying0
 a0:=isAgg0
 z0:=sizeOf0
 v0:=zeroValue0
 t3:=underlying3
 a3:=isAgg3
 z3:=sizeOf3
 v3:=zeroValue3
 t4:=underlying4
 a4:=isAgg4
 z4:=sizeOf4
 v4:=zeroValue4
 t22:=underlying84
 a22:=isAgg84
 z22:=sizeOf84
 v22:=zeroValue84
 i3:=by kernel_rfl}
end
section
open Go.RowKit Go.Shelf Go.Maps
theorem Qj(u:World):(zeroValue 92).run prog u=.ok (xB.V none) u:=by kernel_rfl
theorem zgh{t:Bst}{key:ByteArray}(h:uT key t=0):xy key.size=true:=by
 have h1:=(XY h).1;unfold jv at h1;by_cases e:xy key.size=true
 ·exact e
 ·rw[zh e]at h1
  cases h1
section
variable{w w' w1 w2 w0:World}{q p m1 last:Nat}{X X':List Ld}{D1 D1':DataW Unit}{S D0:Nat→Prop}{t t' t1 t2:Bst}{num who blk:Nat}{key:ByteArray}{wv:Value}{ws:List Nat}{off:Bool}
theorem FeR.turned{x x':Ld}(h:FeR w0 D0 q p m1 last [x] D1 t w)(hm:Mod S w w')(hl:FeM w' q p m1 last [x'] D1)(hS : ∀ k,S k→k=x.blk∨x.wv.ownBlock=some k∨w.heap.size≤k)(e4:x'.blk=x.blk)(e5 : ∀ g,x'.wv.ownBlock=some g→x.wv.ownBlock=some g∨w.heap.size≤g):FeR w0 D0 q p m1 last [x'] D1 t w':=by
 have hin : ∀ k,S k→FeD q m1 [x] k∨w.heap.size≤k:=fun k e=>by
  rcases hS k e with e | e | e
  ·exact .inl (.inr (.inr (.inl ⟨x,zF.2 rfl,e.symm⟩)))
  ·exact .inl (.inr (.inr (.inr ⟨x,zF.2 rfl,e⟩)))
  ·exact .inr e
 refine h.to hm hl (fun k hk e => ?_) (fun k hk e => ?_) (fun k e => ?_) (fun k hk => ?_)
 ·rcases hin k e with e | e
  ·exact h.ap k hk e
  ·have:=h.ca.lt hk;omega
 ·rcases hin k e with e | e
  ·exact h.fe.nob e
  ·omega
 ·rcases hin k e with e | e
  ·exact h.ge k e
  ·exact zH h.pu.size e
 ·rcases hk with e | e | ⟨y,hy,e⟩ | ⟨y,hy,e⟩
  ·exact .inl (.inl e)
  ·exact .inl (.inr (.inl e))
  ·rw[zF.1 hy,e4]at e;exact .inl (.inr (.inr (.inl ⟨x,zF.2 rfl,e⟩)))
  ·rw[zF.1 hy]at e;rcases e5 k e with e | e
   ·exact .inl (.inr (.inr (.inr ⟨x,zF.2 rfl,e⟩)))
   ·exact .inr e
theorem zeB(h:FeP w0 q p m1 last [⟨num,key,who,wv,ws,off,blk⟩] t w){tt:Nat}(ht:tt≤18446744073709551615)(hr:uT key t=0){was:Bool}(ht1:Xu t tt key=(was,t1)) :
    Calls prog 13 #[lkP q,.int .u64 tt,.string key] w fun e w'=>e=.returned (.tuple #[.bool was,.int .i64 0])∧FeP w0 q p m1 last [⟨num,key,who,wv,ws,true,blk⟩] (vA t1) w':=by
  obtain⟨D0,D1,h⟩:=h;obtain⟨r1,r2,r3,r4,r5,r6⟩:=h.fe.rng _ (zF.2 rfl);dsimp only at r3 r5 r6;have hv:=zgh hr;have HV:=za (fun W=>Vw key W (by omega));rw[hv]at HV;have HN:=za (Zf h.fe);have hbx:=h.fe.box;have hxb:=h.fe.each _ (zF.2 rfl);have hlk:=h.fe.loads.look kX underlying47 Qj (ZS (s:=key) (by omega)) (x:=some blk) (zF.2 rfl);simp only[xB]at hlk;unfold ldC at hxb;dsimp only at hxb;have hnq:blk≠q:=h.fe.nbq (zF.2 rfl);have hnm:blk≠m1:=h.fe.nb1 (zF.2 rfl);have hm:Mod (fun k=>k=blk) w (w.setCell ⟨blk,4,none⟩ (.bool true)):=Mod.set1 blk 4 _;have hxs:=zW (j:=4) (v := .bool true) hxb;simp at hxs;have hw0:=h.fe.wait ⟨num,key,who,wv,ws,off,blk⟩ (zF.2 rfl);unfold Yd at hw0;dsimp only at hw0;have hF2:FeM (w.setCell ⟨blk,4,none⟩ (.bool true)) q p m1 last [⟨num,key,who,wv,ws,true,blk⟩] D1:=h.fe.turn rfl rfl rfl rfl hxs (zy hw0 hm (fun g hg e=>(h.fe.nwq (x:=⟨num,key,who,wv,ws,off,blk⟩) (zF.2 rfl) hg).2.2 ⟨num,key,who,wv,ws,off,blk⟩ (zF.2 rfl) e.symm)) ⟨r5,r6⟩ hm (fun e=>hnq e.symm) (fun e=>hnm e.symm);have hR2:=h.turned hm hF2 (fun k e => .inl e) rfl (fun g hg => .inl hg);have hd:=hR2.ca.del ht (by omega) hr;rw[ht1]at hd;have HD:=za hd;have HR2:=za hR2;have hb2:=hF2.box;have HB2:=za hb2;clear hw0 h hd hR2 hF2 hv hr ht1 hm hxs hnq hnm r1 r2 r3 r4 r5 r6 ht hb2;obtain⟨hbx_0,hbx_1,hbx_2,hbx_f,hbx_l,H_hbx⟩:=cr3 hbx;clear hbx;obtain⟨hxb_0,hxb_1,hxb_2,hxb_3,hxb_4,hxb_f,hxb_l,H_hxb⟩:=cr5 hxb;clear hxb
  go_enter_defers func13,ntmps13
  go_upto_region 9 with(first
    | (go_at_call 32;refine HN.out.mono ?_;rintro e w' ⟨rfl,rfl⟩)
    | (go_at_call 33;refine(HV.out _).mono ?_;rintro e w' ⟨rfl,rfl⟩))
  clear hbx_0 hbx_1 hbx_2 hbx_f hbx_l;clear hxb_0 hxb_1 hxb_2 hxb_3 hxb_4 hxb_f hxb_l;clear H_hbx H_hxb hlk;have hb2:=HB2.out;generalize w.setCell ⟨blk,4,none⟩ (.bool true)=w2 at *;obtain⟨hb2_0,hb2_1,hb2_2,hb2_f,hb2_l,H_hb2⟩:=cr3 hb2;clear hb2
  go_wp2_with (go_at_call 47;refine HD.out.mono ?_;rintro e w3 ⟨rfl,hg⟩)
  obtain⟨D2,hR3⟩:=HR2.out.cago hg;refine leaves_cons (f:=37) (args:=#[lkP p]) (by simp) (by simp[go_sem]) ?_;refine hR3.drain.mono ?_;rintro e u' w' ⟨rfl,⟨v,rfl⟩,hm,hk⟩;exact⟨.tuple #[.bool was,.int .i64 0],by simp[results,results13,go_sem],rfl,hk⟩
end
end
section
open Go.RowKit Go.Shelf
section
variable{Fo:Nat→Prop}{w w':World}{b:CaB}{s:CaS}{D:Nat→Prop}{p:Nat}{t:Bst}
theorem zdP(h:zr Fo w b s)(hev:s.evs.length≤1048576)(u:FrameMode):CallsDIn Fence.wide 0 prog 37 #[lkP b.p] u w fun e u' w'=>u'=u∧US Fo w b s e w':=by
 have hevl:b.ns.length=s.evs.length:=by have:=congrArg List.length h.evs;unfold kY at this;rw[yn]at this;exact this
 have HN:=za (j9 h);have hD:=h.pure (Mod.refl (fun _=>False) w).drew;have HE:Hid (Calls prog 71 #[lkP b.v] w.drew fun e w'=>e=.returned (.int .i64 s.evs.length)∧w.drew=w'):=za (by
  obtain⟨k0,k1,k2,k3,k4,k5,h1⟩:=hD.ev;rw[← hevl];exact UB h1)
 have ht:=Ku hD.ev (by omega);rw[hevl]at ht;have HT:=za ht;have HH:=za h;have HEV:=za hevl;have c5:w.drew.cell? ⟨b.p,5,none⟩=some (lkP b.v):=zi w b.p 5 _ _ (0,0) h.box;have HD:=za hD;clear h ht hevl hev hD;refine callsDIn_of_wp func37 rfl trivial (vy.2 ?_);simp only[ntmps37,List.size_toArray,List.length_cons,List.length_nil,Nat.reduceAdd,Nat.reduceSub,Array.replicate_succ,Array.replicate_zero,List.push_toArray,List.append_toArray,List.nil_append,List.cons_append];exact Az0fk
theorem zM.drainI(h:zM Fo w D p t)(u:FrameMode):CallsDIn Fence.wide 0 prog 37 #[lkP p] u w fun e u' w'=>u'=u∧(∃ v,e=.returned v)∧vD Fo w D p (vA t) w':=by
 obtain⟨b,s,h1,h2,rfl,rfl,rfl,h3,h4,h5⟩:=h;refine(zdP h1 h4 u).mono ?_;exact Az077
end
end
section
open Go.RowKit Go.Shelf Go.Maps
theorem Uj{W:World}{k:Nat}{o:Obj}(h:W.heap[k]? = some o):W.drew.heap[k]? = some o:=h
section
variable{w w' w1 w2 w0:World}{q p m1 last:Nat}{X X':List Ld}{D1 D1':DataW Unit}{S D0:Nat→Prop}{t t' t1 t2:Bst}
theorem FeR.side(h:FeR w0 D0 q p m1 last X D1 t w)(hm:Mod S w w')(hd : ∀ k,D0 k → ¬ S k)(hf : ∀ k,FeD q m1 X k → ¬ S k)(hb : ∀ k,k<w.heap.size→S k→xU w k)(hw : ∀ k,S k→w0.heap.size≤k):FeR w0 D0 q p m1 last X D1 t w':=h.to hm (h.fe.mod hm hf) hd hb hw (fun k hk => .inl hk)
theorem FeR.bump{ln:Nat}(h:FeR w0 D0 q p m1 last X D1 t w)(hl:last≤ln∧ln≤100000)(hm:Mod (fun k=>k=q) w w')(hb:w'.heap[q]? = some (.cells (feC p m1 ln) 49 (0,0))):FeR w0 D0 q p m1 ln X D1 t w' :=
 h.to hm ⟨hb,h.fe.loads.mod hm (fun e=>h.fe.nq1 e.symm),fun x hx=>hm.heap (h.fe.nbq hx) (h.fe.each x hx),fun x hx=>zy (h.fe.wait x hx) hm (fun g hg=>(h.fe.nwq hx hg).1),h.fe.wsep,h.fe.k1,h.fe.k2,h.fe.nd,fun x hx=>by
  obtain⟨a,b,c⟩:=h.fe.rng x hx;exact⟨a,by omega,c⟩,h.fe.len,hl.2⟩ (fun k hk e=>h.ap k hk (.inl e)) (fun k _ e=>h.fe.nob (.inl e)) (fun k e=>h.ge k (.inl e)) (fun k hk => .inl hk)
theorem FeM.nod(h:FeM w q p m1 last X D1){lb:Nat}{ds:Option (List Deferred)}(hb:w.heap[lb]? = some (.deferred ds)) : ∀ k,FeD q m1 X k→k≠lb:=fun k hk e=>by
 subst e;rcases hk with e | e | ⟨x,hx,e⟩ | ⟨x,hx,e⟩
 ·rw[e,h.box]at hb;cases hb
 ·obtain⟨es,c,h1,_⟩:=h.loads.own;rw[e,h1]at hb;cases hb
 ·rw[← e,h.each x hx]at hb;cases hb
 ·obtain⟨cur,h1⟩:=yc (h.wait x hx) e;rw[h1]at hb;cases hb
theorem FeR.shut(h:FeR w0 D0 q p m1 last X D1 t w){lb:Nat}(hb:w.heap[lb]? = some (.deferred (some [])))(nb : ¬ D0 lb)(hlb:w0.heap.size≤lb):FeR w0 D0 q p m1 last X D1 t (w.putObj lb (.deferred none))∧Mod (fun k=>k=lb) w (w.putObj lb (.deferred none)):=by
 have m2:Mod (fun k=>k=lb) w (w.putObj lb (.deferred none)):=⟨rfl,rfl,rfl,by simp,fun k _ hn=>World.putObj_heap_other (fun e=>hn e)⟩;exact⟨h.to m2 (h.fe.mod m2 (fun k hk=>h.fe.nod hb k hk)) (fun k hk e=>nb (e ▸ hk)) (fun k _ e cs fz e2=>(by subst e;rw[hb]at e2;cases e2)) (fun k e=>by subst e;exact hlb) (fun k hk => .inl hk),m2⟩
theorem zjP{W5:World}{D5:Nat→Prop}{lb c8 c9:Nat}{tmps:Array Value}{kd:Int}{sv:Value}{ld er:Int}{R:Ending→World→Prop}(hR:FeR w0 D5 q p m1 last X D1 t W5)
  (h8:W5.heap[c8]? = some (.cells #[.int .i64 kd,sv,.int .i64 ld] 34 (0,0))) (h9:W5.heap[c9]? = some (.cells #[.int .i64 er] 24 (0,0))) (hb:W5.heap[lb]? = some (.deferred (some [])))
  (n8 : ¬ D5 c8) (n9 : ¬ D5 c9) (nb : ¬ D5 lb) (hlb:w0.heap.size≤lb)
  (hres : ∀ W:World,W.cell? ⟨c8,0,none⟩=some (.int .i64 kd)→W.cell? ⟨c8,1,none⟩=some sv→W.cell? ⟨c8,2,none⟩=some (.int .i64 ld)→W.cell? ⟨c9,0,none⟩=some (.int .i64 er)→(results f10 tmps).run prog W=.ok (.tuple #[.agg #[.int .i64 kd,sv,.int .i64 ld],.int .i64 er]) W)
  (hRR : ∀ W,FeP w0 q p m1 last X (vA t) W→Mod (fun k=>D5 k∨k=lb) W5 W→R (.returned (.tuple #[.agg #[.int .i64 kd,sv,.int .i64 ld],.int .i64 er])) W) :
  LeavesInM Fence.wide 0 prog f10 tmps R [{target := .fn (.func 37) #[],args:=#[lkP p]},{target := .collected lb,args:=#[]}] .returning W5:=by
 have hl:lb<W5.heap.size:=zm hb;refine⟨by simp,.inr ⟨fun h=>(by cases h),.func 37,#[],37,#[lkP p],rfl,by simp[go_sem],fun g _=>trivial,?_⟩⟩;refine(hR.ca.drainI .returning).mono ?_;rintro e u' w' ⟨rfl,⟨v,rfl⟩,hg⟩;obtain⟨D6,hR6,hm6,hgr⟩:=hR.cago2 hg;have hb6:=hm6.heap nb hb;have nb6 : ¬ D6 lb:=fun e=>by
  rcases hgr lb e with e | e
  ·exact nb e
  ·omega
 obtain⟨hR7,hm7⟩:=hR6.shut hb6 nb6 hlb;have h8':=hm7.heap (fun e=>by subst e;rw[hb]at h8;cases h8) (hm6.heap n8 h8);have h9':=hm7.heap (fun e=>by subst e;rw[hb]at h9;cases h9) (hm6.heap n9 h9);refine⟨by simp[settle],.inl ⟨lb,_,rfl,run_takeDeferred hb6,?_⟩⟩;exact⟨_,hres _ (zi _ _ 0 _ _ _ h8') (zi _ _ 1 _ _ _ h8') (zi _ _ 2 _ _ _ h8') (zi _ _ 0 _ _ _ h9'),hRR _ ⟨D6,_,hR7⟩ ((hm6.mono (fun _ _ e => .inl e)).trans (hm7.mono (fun _ _ e => .inr e)))⟩
theorem FeM.nty(h:FeM w q p m1 last X D1){k:Nat}{T:TypeId}{cs:Array Value}{fz:Nat × Nat}(hk:w.heap[k]? = some (.cells cs T fz))(hT:T≠49∧T≠94∧T≠3) : ¬ FeD q m1 X k:=fun e=>by
 rcases e with e | e | ⟨x,hx,e⟩ | ⟨x,hx,e⟩
 ·rw[e,h.box]at hk;cases hk;exact hT.1 rfl
 ·obtain⟨es,c,h1,_⟩:=h.loads.own;rw[e,h1]at hk;cases hk
 ·rw[← e,h.each x hx]at hk;cases hk;exact hT.2.1 rfl
 ·obtain⟨cur,h1⟩:=yc (h.wait x hx) e;rw[h1]at hk;cases hk;exact hT.2.2 rfl
theorem V1{w9:World}{D5:Nat→Prop}{lb c8 c9:Nat}{tmps c8s c9s:Array Value}{kd:Int}{sv:Value}{ld er:Int}{R:Ending→World→Prop}(hR:FeR w0 D5 q p m1 last X D1 t w2)
  (z8:w2.heap[c8]? = some (.cells c8s 34 (0,0))) (z9:w2.heap[c9]? = some (.cells c9s 24 (0,0))) (hb:w2.heap[lb]? = some (.deferred (some [])))
  (hm:Mod (fun k=>k=c8∨k=c9) w2 w9) (h8:w9.heap[c8]? = some (.cells #[.int .i64 kd,sv,.int .i64 ld] 34 (0,0))) (h9:w9.heap[c9]? = some (.cells #[.int .i64 er] 24 (0,0)))
  (n8 : ¬ D5 c8) (n9 : ¬ D5 c9) (nb : ¬ D5 lb) (hw:w0.heap.size≤c8∧w0.heap.size≤c9∧w0.heap.size≤lb)
  (hres : ∀ W:World,W.cell? ⟨c8,0,none⟩=some (.int .i64 kd)→W.cell? ⟨c8,1,none⟩=some sv→W.cell? ⟨c8,2,none⟩=some (.int .i64 ld)→W.cell? ⟨c9,0,none⟩=some (.int .i64 er)→(results f10 tmps).run prog W=.ok (.tuple #[.agg #[.int .i64 kd,sv,.int .i64 ld],.int .i64 er]) W)
  (hRR : ∀ W,FeP w0 q p m1 last X (vA t) W→Mod (fun k=>D5 k∨k=c8∨k=c9∨k=lb) w2 W→R (.returned (.tuple #[.agg #[.int .i64 kd,sv,.int .i64 ld],.int .i64 er])) W) :
  LeavesInM Fence.wide 0 prog f10 tmps R [{target := .fn (.func 37) #[],args:=#[lkP p]},{target := .collected lb,args:=#[]}] .returning w9:=by
 have hR9:=hR.side hm (fun k hk e=>by
  rcases e with e | e
  ·exact n8 (e ▸ hk)
  ·exact n9 (e ▸ hk)) (fun k hk e=>by
  rcases e with e | e
  ·exact hR.fe.nty z8 (by decide) (e ▸ hk)
  ·exact hR.fe.nty z9 (by decide) (e ▸ hk)) (fun k _ e=>by
  rcases e with e | e
  ·subst e;exact vd z8 (by decide)
  ·subst e;exact vd z9 (by decide)) (fun k e=>by omega)
 have hb9:=hm.heap (fun e=>by
  rcases e with e | e
  ·rw[e,z8]at hb;cases hb
  ·rw[e,z9]at hb;cases hb) hb
 exact zjP hR9 h8 h9 hb9 n8 n9 nb hw.2.2 hres (fun W hF hm2=>hRR W hF ((hm.mono (fun _ _ e => .inr (e.elim .inl (fun e => .inr (.inl e))))).trans (hm2.mono (fun _ _ e=>e.elim .inl (fun e => .inr (.inr (.inr e)))))))
end
theorem QA(l:List Nat) : ∀ u∈vm l,u.oneCell'=true:=fun u hu=>by
 unfold vm at hu;obtain⟨n,_,rfl⟩:=zz.1 hu
 rfl
theorem XD.no{ws:List Nat}{n:Nat}{r:Int}(h:XD ws n r)(hn : ¬ n∈ws):r = -1:=by
 rcases h with⟨e,_⟩ | ⟨i,_,h2,_⟩
 ·exact e
 ·exact absurd (yl h2) hn
theorem XD.first{ws:List Nat}{n:Nat}{r:Int}(h:XD (n::ws) n r):r=0:=by
 rcases h with⟨_,e⟩ | ⟨i,e,h2,h3⟩
 ·exact absurd (by simp) e
 ·cases i with
  | zero=>exact e
  | succ i=>exact absurd rfl (h3 0 (by omega))
theorem zhW{w:World}{wv:Value}{a b:Nat}(h:w.ownsRow 0 3 1 wv 2 (vm [a,b])) : ∃ g cap,wv=.slice (some ⟨g,0,none⟩) 2 cap∧Calls prog 49 #[wv,.int .i64 0,.int .i64 1] w fun e w'=>e=.returned (.slice (some ⟨g,0,none⟩) 1 cap)∧w'.ownsRow 0 3 1 (.slice (some ⟨g,0,none⟩) 1 cap) 1 (vm [b])∧Mod (fun k=>k=g) w w':=by
 rcases h.2 with⟨_,hn⟩ | ⟨g,cap,cur,hv,_,hg,hn,hm,hsz,htk⟩
 ·cases hn
 ·obtain⟨l⟩:=cur;have hl : ∃ r,l=.int .i64 a :: .int .i64 b::r:=by
   have h9:l.take (2*1)=[.int .i64 a,.int .i64 b]:=htk
   match l,h9 with
   | x::y::r,h9 =>
    simp at h9;exact⟨r,by rw[h9.1,h9.2]⟩
  obtain⟨r,rfl⟩:=hl;refine⟨g,cap,hv,?_⟩;subst hv;have c0:w.cell? ⟨g,0,none⟩=some (.int .i64 a):=zi w g 0 _ _ (0,0) hg;have c1:w.cell? ⟨g,1,none⟩=some (.int .i64 b):=zi w g 1 _ _ (0,0) hg;have hd:=Go.Proofs.Any.slices_Delete_int_cells zgH g 0 2 cap 0 1 [(a:Int),(b:Int)] w (zI _) hn (by unfold maxLen at hm;omega) (by omega) (by omega) (fun j hj=>by
   have hj':j<2:=hj;rcases(show j=0∨j=1 by omega)with rfl | rfl
   ·exact c0
   ·exact c1) (fun j _=>by rw[qn];exact yU w g j _ _ hg)
  refine zq hd ?_;rintro e w' ⟨rfl,k,rfl⟩;have e9:(w.drewN k).setCells g 0 (((List.take 2 [(a:Int),(b:Int)]).take 0++(List.take 2 [(a:Int),(b:Int)]).drop 1++List.replicate (1-0) 0).map (Value.int .i64))=((w.drewN k).setCell ⟨g,0,none⟩ (.int .i64 b)).setCell ⟨g,1,none⟩ (.int .i64 0):=rfl;rw[e9];have y:=zW (j:=1) (v := .int .i64 0) (zW (j:=0) (v := .int .i64 b) (show(w.drewN k).heap[g]? = _ from hg));refine⟨rfl,⟨rfl,.inr ⟨g,cap,_,rfl,yi _,y,by omega,hm,by simpa using hsz,rfl⟩⟩,?_⟩;exact(Mod.drewN (Mod.refl _ w) k).trans ((Mod.set1 g 0 _).trans (Mod.set1 g 1 _))
section
variable{w w' w1 w2 w0:World}{q p m1 last:Nat}{X X':List Ld}{D1 D1':DataW Unit}{S D0:Nat→Prop}{t t' t1 t2:Bst}{num who blk:Nat}{key:ByteArray}{wv:Value}{ws:List Nat}{off:Bool}
theorem zhV(h:FeP w0 q p m1 last X t w){x:Ld}(hx:x∈X){n:Nat}(hn:n≤1000)(hno : ¬ n∈x.ws):Calls prog 14 #[lkP q,.int .i64 x.num,.int .i64 n] w fun e w'=>e=.returned (.int .i64 9)∧FeP w0 q p m1 last X t w':=by
  obtain⟨D0,D1,h⟩:=h;obtain⟨r1,r2,r3,r4,r5,r6⟩:=h.fe.rng _ hx;have HN:=za (Zf h.fe);have HF:=za (Vo h.fe hx);have HR:=za (fun W=>Qi hn W);have HH:=za h;have HX:=za hx;have HNo:=za hno;have HR5:=za r5;clear h hx hno r1 r2 r3 r4 r6 hn r5;obtain⟨num,key,who,wv,ws,off,blk⟩:=x;dsimp only at HF HNo HR5 ⊢;go_enter func14,ntmps14;go_upto_region 8 with(first
    | (go_at_call 32;refine HN.out.mono ?_;rintro e w' ⟨rfl,rfl⟩)
    | (go_at_call 34;refine(HR.out _).mono ?_;rintro e w' ⟨rfl,rfl⟩)
    | (go_at_call 39;refine HF.out.mono ?_;rintro e w2 ⟨rfl,hp⟩))
  have hR:=HH.out.pure hp;have hxb:=hR.fe.each _ HX.out;have hw:=hR.fe.wait _ HX.out;unfold ldC at hxb;dsimp only at hxb;have HI:=za (KB (zo.of_owns hw (QA _)) n HR5.out);dsimp only at HI;have HR2:=za hR;clear hR hw hp HH HF HN HR;obtain⟨hxb_0,hxb_1,hxb_2,hxb_3,hxb_4,hxb_f,hxb_l,H_hxb⟩:=cr5 hxb;clear hxb
  go_wp2_with (go_at_call 48;refine HI.out.mono ?_;rintro e w3 ⟨r,rfl,hr,rfl⟩;obtain rfl:=hr.no HNo.out)
  go_ret;exact⟨rfl,D0,D1,HR2.out⟩
theorem zih{a b:Nat}(h:FeP w0 q p m1 last [⟨num,key,who,wv,[a,b],off,blk⟩] t w):Calls prog 14 #[lkP q,.int .i64 num,.int .i64 a] w fun e w'=>e=.returned (.int .i64 0) ∧ ∃ wv',FeP w0 q p m1 last [⟨num,key,who,wv',[b],off,blk⟩] t w':=by
  obtain⟨D0,D1,h⟩:=h;obtain⟨r1,r2,r3,r4,r5,r6⟩:=h.fe.rng _ (zF.2 rfl);dsimp only at r6;have hf:=Vo h.fe (zF.2 rfl);dsimp only at hf;have HN:=za (Zf h.fe);have HF:=za hf;have HR:=za (fun W=>Qi (r6 a (by simp)) W);have HH:=za h;have HR6:=za r6;clear h r1 r2 r3 r4 r6 r5 hf;go_enter func14,ntmps14;go_upto_region 8 with(first
    | (go_at_call 32;refine HN.out.mono ?_;rintro e w' ⟨rfl,rfl⟩)
    | (go_at_call 34;refine(HR.out _).mono ?_;rintro e w' ⟨rfl,rfl⟩)
    | (go_at_call 39;refine HF.out.mono ?_;rintro e w2 ⟨rfl,hp⟩))
  have hR:=HH.out.pure hp;have hxb:=hR.fe.each _ (zF.2 rfl);have hw:=hR.fe.wait ⟨num,key,who,wv,[a,b],off,blk⟩ (zF.2 rfl);unfold ldC at hxb;unfold Yd at hw;dsimp only at hxb hw;have HI:=za (KB (zo.of_owns hw (QA _)) a (by simp));obtain⟨g,cap,hwv,hdel⟩:=zhW hw;have hgo:=(hR.fe.nwq (x:=⟨num,key,who,wv,[a,b],off,blk⟩) (b:=g) (zF.2 rfl) (by dsimp only;rw[hwv];rfl));have hgb:=hgo.2.2 _ (zF.2 rfl);dsimp only at hgb;have HR2:=za hR;have HDel:=za hdel;have HGO:=za hgo;have HGB:=za hgb;have HXB:=za hxb;have HWV:=za hwv;rw[hwv]at hxb HI HDel;clear hR hw hp HH HF HN HR hdel hgo hgb hwv;obtain⟨hxb_0,hxb_1,hxb_2,hxb_3,hxb_4,hxb_f,hxb_l,H_hxb⟩:=cr5 hxb;clear hxb;go_upto_region 11 with(go_at_call 48;refine HI.out.mono ?_;rintro e w3 ⟨r,rfl,hr,rfl⟩;obtain rfl:=hr.first)
  go_wp2_with (go_at_call 49;refine HDel.out.mono ?_;rintro e w4 ⟨rfl,ho,hm4⟩;have hx4:=hm4.heap HGB.out HXB.out;clear hxb_0 hxb_1 hxb_2 hxb_3 hxb_4 hxb_f hxb_l;clear H_hxb;have HX4:=za hx4;obtain⟨hx4_0,hx4_1,hx4_2,hx4_3,hx4_4,hx4_f,hx4_l,H_hx4⟩:=cr5 hx4;clear hx4)
  have hm:Mod (fun k=>k=blk∨k=g) w2 (w4.setCell ⟨blk,3,none⟩ (.slice (some ⟨g,0,none⟩) 1 cap)):=(hm4.mono (fun _ _ e => .inr e)).trans ((Mod.set1 blk 3 _).mono (fun _ _ e => .inl e));have hxs:=zW (j:=3) (v := .slice (some ⟨g,0,none⟩) 1 cap) HX4.out;simp at hxs;have ho5:=zy ho (Mod.set1 blk 3 (.slice (some ⟨g,0,none⟩) 1 cap)) (fun k hk e=>by cases hk;exact HGB.out e.symm);have hF:FeM (w4.setCell ⟨blk,3,none⟩ (.slice (some ⟨g,0,none⟩) 1 cap)) q p m1 last [⟨num,key,who,.slice (some ⟨g,0,none⟩) 1 cap,[b],off,blk⟩] D1 :=
    HR2.out.fe.turn rfl rfl rfl rfl hxs ho5 ⟨by simp,fun n hn=>HR6.out n (by simp at hn;simp[hn])⟩ hm (fun e=>by
      rcases e with e | e
      · exact HR2.out.fe.nbq (zF.2 rfl) e.symm
      · exact HGO.out.1 e.symm) (fun e=>by
      rcases e with e | e
      · exact HR2.out.fe.nb1 (zF.2 rfl) e.symm
      · exact HGO.out.2.1 e.symm)
  have hR:=HR2.out.turned hm hF (fun k e=>by
    rcases e with e | e
    · exact .inl e
    · exact .inr (.inl (by dsimp only;rw[HWV.out,e];rfl))) rfl (fun k hk => .inl (by dsimp only at hk ⊢;rw[HWV.out];exact hk))
  exact zN (v := .int .i64 0) (by simp[results,results14,go_sem]) rfl ⟨rfl,_,D0,D1,hR⟩
end
end
end Go.Proofs.YtdohbogbnheakaaGreatDoor
