/- Lemmas and contracts of functions. No condition. -/
import Derived.Test.YtdohbogbnheakaaGreatDoorJPfBoth4825
import Derived.Lib.SlBytesConst
namespace Go.Proofs.YtdohbogbnheakaaGreatDoor
open _root_.Go.Proofs.Tryz
set_option maxRecDepth 100000
set_option maxHeartbeats 20000000
set_option linter.all false
section
open Go.RowKit Go.Shelf Go.Maps
theorem VR{k:Value}{kl:Lit}(h:keyOf prog 9 k=some kl) : ∃ s,k=.string s∧kl=yz s∧s.size≤9223372036854775807:=by
 rw[keyOf_string underlying9]at h
 cases k<;>simp[mapKey,underlying9]at h
 rename_i s;exact⟨s,rfl,h.2.symm,h.1⟩
theorem QV{α:Type}{f g:α→Bool}(h : ∀ x,f x=true→g x=true) : ∀ l:List α,(l.filter f).Sublist (l.filter g)
 | []=>List.Sublist.slnil
 | x::l=>by
  have ih:=QV h l;by_cases e:f x=true
  ·rw[List.filter_cons_of_pos e,List.filter_cons_of_pos (h x e)];exact ih.cons_cons x
  ·rw[List.filter_cons_of_neg e];by_cases e2:g x=true
   ·rw[List.filter_cons_of_pos e2];exact ih.cons x
   ·rw[List.filter_cons_of_neg e2];exact ih
section
variable{w w' w1 w2 w0:World}{q p m1 m2 life last:Nat}{X X':List Lt}{D1 D1' D2:DataW Unit}{S D0:Nat→Prop}{t t':Bst}
theorem LeM.came(h:LeM w q p m1 m2 life last X D1){s:ByteArray}{c:Option Nat}{kl:Lit}{y:DataW Unit × List MemPlace}(hk:keyOf prog 9 (.string s)=some kl)(hv:yC.R (yC.V c)=some y)(hat : ∀ zd,D1.atKey kl zd=y.1) : ∃ z∈X,s=z.key∧c=some z.blk∧kl=yz z.key:=by
 obtain⟨s',e1,rfl,_⟩:=VR hk
 cases e1
 obtain⟨z,hz,e2⟩:=h.lent.has _ (Maps.has_true_of_atKey hat);obtain⟨z0,hz0,rfl⟩:=zy.1 hz;have e3:=qA e2;have h1:=h.lent.at_ _ hz y.1;dsimp only at h1;rw[e3,hat]at h1;rw[yC.rd]at hv;injection hv with hv
 rw[← hv]at h1;exact⟨z0,hz0,e3.symm,yC.inj _ _ h1,by rw[e3]⟩
theorem zbo{now:Nat}{left:Lit→Bool}:(vI X now left).Sublist X:=jq
theorem LeD.sub(hs:X'.Sublist X){k:Nat}(h:LeD q m1 m2 X' k):LeD q m1 m2 X k:=by
 rcases h with e | e | e | ⟨y,hy,e⟩
 ·exact .inl e
 ·exact .inr (.inl e)
 ·exact .inr (.inr (.inl e))
 ·exact .inr (.inr (.inr ⟨y,hs.subset hy,e⟩))
theorem LeR.tidy(h:LeR w0 D0 q p m1 m2 life last X D1 t w):Calls prog 57 #[lkP q] w fun e w'=>e=.returned (.tuple #[])∧(∃ D1',LeR w0 D0 q p m1 m2 life last (xB X t.now) D1' t w')∧y9 w w':=by
  have hb:=h.le.box;have hown:=h.le.lent.own;have k1:=h.le.k1;have HH:=za h;unfold jc at hown;rw[yq]at hown;clear h;obtain⟨hb_0,hb_1,hb_2,hb_3,hb_4,hb_f,hb_l,H_hb⟩:=cr5 hb;clear hb;go_enter func57,ntmps57
  go_wp2_with (first
    | (at_range;refine wpList_range_own _ rfl _ 71 rfl 9 116 vL underlying71 _ m1 X.length D1 rfl hown ?_;intro w1 hrg1 hg1 hs1)
    | go_in)
  go_frame
  have hp1:zb w w1:=Mod.of_grown hg1 (fun k e _=>by cases e);have hlt : ∀ k,LeD q m1 m2 X k→k<w.heap.size:=fun k hk=>HH.out.le.lt hk
  have hltD : ∀ k,D0 k→k<w.heap.size:=fun k hk=>HH.out.ca.lt hk
  have hw0:w0.heap.size≤w.heap.size:=HH.out.pu.size;have hst:LeR w0 D0 q p m1 m2 life last (vI X t.now (Maps.has D1)) D1 t w1:=by
    rw[zjD (fun x hx=>HH.out.le.lent.has_mem (x:=(yz x.key,some x.blk)) (zy.2 ⟨x,hx,rfl⟩))];exact HH.out.pure hp1
  obtain⟨r,hr⟩:=zc w.heap.size;rw[hr]at hrg1 hlt hltD hw0 ⊢;have HST:=za hst;have HRG:=za hrg1;have HLT:=za hlt;have HLD:=za hltD;have HW0:=za hw0;have HK1:=za k1;have HKB0:=za (y9.pure hp1);clear hr hst hrg1 hlt hltD hw0 hown hg1 hs1 hp1 k1;go_loopw [2] (fun _ wr => ∃(left:Lit→Bool) (cnt:Nat) (D1':DataW Unit),wr.ranges prog 9 yC.R m1 r X.length D1' left cnt∧LeR w0 D0 q p m1 m2 life last (vI X t.now left) D1' t wr∧y9 w wr) (fun _ wr=>wr.rangeLeft m1 r)
  case atStart=>exact⟨_,_,_,HRG.out,HST.out,HKB0.out⟩
  case round =>
    clear HRG HST HKB0;obtain⟨left,cnt,D1',hrg,hR,hkb⟩:=hrel;have HKB:=za hkb;clear hkb
    go_wp2_with (first
      | (at_next;refine wpList_next_ranges (α:=ByteArray) (β:=Option Nat) _ rfl _ rfl 9 vL yC.R Value.string yC.V (fun key kl hk=>by obtain⟨s,e,_⟩:=VR hk;exact⟨s,e⟩) (fun v y hv=>by obtain⟨c,e,_⟩:=yC.inv _ _ hv;exact⟨c,e⟩) m1 r X.length _ _ _ rfl hrg ?_ ?_)
      | go_in)
    · intro _ hl0
      go_wp2
      go_end0
      rw[zeU hl0]at hR;exact⟨rfl,⟨D1',hR⟩,HKB.out⟩
    · intro s c kl y1 y2 wa cnt1 hk hleft hv hat hrga hcl hga hsa hen
      obtain⟨z,hz,rfl,rfl,rfl⟩:=hR.le.came (y:=(y1,y2)) hk hv hat;have hzX:=zbo.subset hz;have hma:Mod (fun k=>k=r) wr wa:=Mod.of_grown hga (fun k e _=>by cases e;rfl);have hnr : ∀ k,k<wr.heap.size→k=r→uj wr k:=fun k _ e=>by
        subst e;obtain⟨es,clock,since,seen,c0,_,_,_,_,hri,_⟩:=hrg;intro cs fz e2;rw[hri]at e2
        cases e2
      have hRa:LeR w0 D0 q p m1 m2 life last (vI X t.now left) D1' t wa:=hR.to hma (hR.le.mod hma (fun k hk e=>by have:=HLT.out k (LeD.sub zbo hk);omega)) (fun k hk e=>by have:=HLD.out k hk;omega) hnr (fun k e=>by have:=HW0.out;omega) (fun k hk => .inl hk);have hbA:=hRa.le.box;have hxb:=hRa.le.each z hz;unfold ltC at hxb;have hdr:zb wa wa.drew:=(Mod.refl _ wa).drew;have HNow:=za ((hRa.ca.pure hdr).now_);have HDue:=za (fun W=>zcc z.til t.now W);have HKBa:=za (HKB.out.trans (y9.of_mod hma hnr));have HRa:=za hRa;have HRGa:=za hrga;have HCL:=za hcl;have HRG:=za hrg;have HZ:=za hz;have HZX:=za hzX;have HGone:=za (fun(hd:vp z.til t.now=true)=>show Calls prog 62 #[lkP q,.string z.key] wa.drew fun e w'=>e=.returned (.tuple #[]) ∧ ∃(cnt2:Nat),w'.ranges prog 9 yC.R m1 r X.length (D1'.del (yz z.key)) (fun zz=>(left zz && !zz.sameKey (yz z.key)) && !zz.sameKey (yz z.key)) cnt2∧cnt2≤cnt1∧LeR w0 D0 q p m1 m2 life last (vI X t.now (fun zz=>left zz && !zz.sameKey (yz z.key))) (D1'.del (yz z.key)) t w'∧y9 w w' by
        have hRd:=hRa.pure hdr;obtain⟨r1,r2,r3,r4⟩:=hRd.le.rng z hz;have hll:=hRd.le.last;obtain⟨D2,hkk⟩:=hRd.le.keys;have hdd:zb wa.drew wa.drew.drew:=(Mod.refl _ wa.drew).drew;obtain⟨w3,e3,o3,t3⟩:=(hkk.mod hdd (fun e=>e)).own.drop qk underlying72 (Yo (s:=z.tok) (by omega)) 0;have hm3:Mod (fun k=>k=m2) wa.drew w3:=Mod.of_drew (Mod.of_grown t3.grown (fun k e _=>by cases e;rfl));have hrg3:w3.ranges prog 9 yC.R m1 r X.length D1' (fun zz=>left zz && !zz.sameKey (yz z.key)) cnt1:=World.ranges.kept (w:=wa.drew.drew) hrga t3.grown (fun e=>hRd.le.ne (uD e)) (fun e=>by have:=HLT.out m2 (.inr (.inr (.inl rfl)));have:=uD e;omega);obtain⟨w4,cnt2,e4,hrg4,hle,t4⟩:=hrg3.drop vL underlying71 (jZ (s:=z.key) (by omega)) 0;have hm4:Mod (fun k=>k=m1) w3 w4:=Mod.of_grown t4.grown (fun k e _=>by cases e;rfl);refine(zbx hRd.le hz (w1:=w3) (w2:=w4) (fun ty=>e3) hm3 (fun ty=>e4)).mono ?_;rintro e w' ⟨rfl,rfl⟩;have hmm:Mod (fun k=>k=m1∨k=m2) wa.drew w':=(hm3.mono (fun _ _ e => .inr e)).trans (hm4.mono (fun _ _ e => .inl e));have hin : ∀ k,(k=m1∨k=m2)→LeD q m1 m2 (vI X t.now left) k:=fun k e=>by rcases e with e | e;exact .inr (.inl e);exact .inr (.inr (.inl e))
        have hsub:(vI X t.now (fun zz=>left zz && !zz.sameKey (yz z.key))).Sublist (vI X t.now left):=by
          unfold vI;refine QV (fun y hy => ?_) X;simp only[Bool.or_eq_true,Bool.and_eq_true]at hy ⊢;exact hy.imp (fun e=>e.1) (fun e=>e)
        exact⟨rfl,cnt2,hrg4,hle,hRd.to hmm (hRd.le.drop hz (zjW HK1.out hzX hd) hsub hkk o3 hm3 hrg4.owns hm4) (fun k hk e=>hRd.ap k hk (hin k e)) (fun k _ e=>hRd.le.nob (hin k e)) (fun k e=>hRd.ge k (hin k e)) (fun k hk => .inl (LeD.sub hsub hk)),HKBa.out.trans ((y9.pure hdr).trans (y9.of_mod hmm (fun k _ e=>hRd.le.nob (hin k e))))⟩)
      clear hrg hR hma hnr hRa hrga hcl hdr hz hzX hv hat hk hleft hga hsa;simp only[yC]at hen ⊢;obtain⟨hbA_0,hbA_1,hbA_2,hbA_3,hbA_4,hbA_f,hbA_l,H_hbA⟩:=cr5 hbA;clear hbA;obtain⟨key,hkey⟩:=zc z.key;obtain⟨til,htil⟩:=zc z.til;obtain⟨blk,hblk⟩:=zc z.blk;obtain⟨tok,htok⟩:=zc z.tok;rw[hkey]at hen HGone ⊢;rw[hkey,htok,hblk,htil]at hxb;rw[hblk]at hen ⊢;rw[htil]at HDue HGone;have HTil:=za htil;have HKey:=za hkey;clear hkey htok hblk htil;obtain⟨hxb_0,hxb_1,hxb_2,hxb_f,hxb_l,H_hxb⟩:=cr3 hxb;clear hxb;go_upto_region 3 with go_in
      refine rHd (S:=fun Y=>Y.cell? ⟨q,0,none⟩=some (lkP p)∧Y.cell? ⟨blk,2,none⟩=some (.int .u64 til)) ⟨hbA_0,hxb_2⟩ (fun h_ => ?_);refine hTk 0 ?_;refine hTk 1 ?_;refine hTk 2 ?_;refine hLd 3 ?_;refine hTk 4 ?_;refine hTk 5 ?_;refine hTk 6 ?_;refine hLd 7 ?_
      (refine hSt 8 (fun K hK => ?_);go_simp;refine HNow.out.mono ?_;rintro e w2 ⟨rfl,rfl⟩;refine hK.out _ _ ?_ (fun h_ => ?_);(· exact⟨hbA_0,hxb_2⟩);clear hK K;refine clA ?_)
      (refine hSt 9 (fun K hK => ?_);go_simp;refine(HDue.out _).mono ?_;rintro e w2 ⟨rfl,rfl⟩;refine hK.out _ _ ?_ (fun h_ => ?_);(· exact⟨hbA_0,hxb_2⟩);clear hK K;refine clA ?_)
      refine hDn ?_;clear h_ hbA_0 hbA_1 hbA_2 hbA_3 hbA_4 hbA_f hbA_l hxb_0 hxb_1 hxb_2 hxb_f hxb_l H_hbA H_hxb
      cases hd:vp til t.now with
      | true =>
        go_wp2_with (go_at_call 62;refine(HGone.out hd).mono ?_;rintro e w' ⟨rfl,cnt2,hrg2,hle,hR2,hkb2⟩)
        rw[strike_twice]at hrg2;go_roundw
        case rel=>exact⟨_,cnt2,_,hrg2,hR2,hkb2⟩
        case measure=>rw[hrg2.left_eq,HRG.out.left_eq];have:=HCL.out;omega
      | false =>
        go_wp2;go_roundw
        case rel=>exact⟨fun zz=>left zz && !zz.sameKey (yz z.key),cnt1,D1',(show wa.ranges prog 9 yC.R m1 r X.length D1' (fun zz=>left zz && !zz.sameKey (yz z.key)) cnt1 from HRGa.out),by
          rw[zll HK1.out HZX.out (by rw[HTil.out];exact hd)];exact HRa.out.pure (Mod.refl _ _).drew,HKBa.out.trans (y9.pure (Mod.refl _ _).drew)⟩
        case measure=>show World.rangeLeft _ m1 r<_;rw[HRG.out.left_eq];have h9:=HRGa.out.left_eq;have:=HCL.out;show World.rangeLeft wa m1 r<cnt;rw[h9];omega
end
section
variable{w w' w1 w2 w0:World}{q p m1 m2 life last:Nat}{X X' X1:List Lt}{D1 D1' D2:DataW Unit}{S D0:Nat→Prop}{t t' t1:Bst}
theorem Yp{key:ByteArray}(h:vZ key t=0):xZ key.size=true:=by
 have h1:=(Xw h).1;unfold jf at h1;by_cases e:xZ key.size=true
 ·exact e
 ·rw[zf e]at h1
  cases h1
theorem LeR.drain(h:LeR w0 D0 q p m1 m2 life last X D1 t w):CallsD prog 37 #[lkP p] .returning w fun e u' w'=>u'=.returning∧(∃ v,e=.returned v)∧Mod D0 w w'∧LeP w0 q p m1 m2 life last X (vA t) w':=by
 refine(h.ca.drainD .returning).mono ?_;rintro e u' w' ⟨rfl,hv,hg⟩;obtain⟨D',hR⟩:=h.cago hg;obtain⟨_,_,hm,_⟩:=hg;exact⟨rfl,hv,hm,D',_,hR⟩
theorem zfn(h:LeP w0 q p m1 m2 life last X t w){tt:Nat}(ht:tt≤18446744073709551615){key:ByteArray}(hk:key.size≤1000)(hr:vZ key t=0){x:CE}(hl:vo (yu t tt) key=some x)(ht1:vD (qr (yu t tt) x.birth x.cost) 0=t1) :
    Calls prog 20 #[lkP q,.int .u64 tt,.string key] w fun e w' => ∃ a n c,e=.returned (.tuple #[.int .i64 1,.slice a n c,.int .i64 0,.int .i64 0])∧yw w' (.slice a n c) (zM x.val)∧LeP w0 q p m1 m2 life last X (vA t1) w':=by
  obtain⟨D0,D1,h⟩:=h;have HMay:=za (ZZ h.le hk (Yp hr));have HG:=za (h.ca.getHit ht (by omega) hr hl ht1);have hb:=h.le.box;have HH:=za h;clear h hr hl ht1 hk ht;obtain⟨hb_0,hb_1,hb_2,hb_3,hb_4,hb_f,hb_l,H_hb⟩:=cr5 hb;clear hb
  go_enter_defers func20,ntmps20
  go_wp2_with (first
    | (go_at_call 56;refine HMay.out.mono ?_;rintro e w' ⟨rfl,rfl⟩)
    | (go_at_call 38;refine HG.out.mono ?_;rintro e w2 ⟨va,vn,vc,rfl,hby,hg2⟩))
  obtain⟨D2,hR2⟩:=HH.out.cago hg2;refine leaves_cons (f:=37) (args:=#[lkP p]) (by simp) (by simp[go_sem]) ?_;refine hR2.drain.mono ?_;rintro e u' w' ⟨rfl,⟨v,rfl⟩,hm,hk⟩;exact⟨.tuple #[.int .i64 1,.slice va vn vc,.int .i64 0,.int .i64 0],by simp[results,results20,go_sem],va,vn,vc,rfl,zeV hby hm (fun k hk=>hR2.ca.nob hk),hk⟩
theorem zjH(h:LeP w0 q p m1 m2 life last X t w){tt:Nat}(ht:tt≤18446744073709551615){key:ByteArray}(hk:key.size≤1000)(hr:vZ key t=0)(hl:vo (yu t tt) key=none)(ht1:uL t tt=t1)(hX:xB X t1.now=X1){x:Lt}(hx:x∈X1)(hxk:x.key=key) :
    Calls prog 20 #[lkP q,.int .u64 tt,.string key] w fun e w'=>e=.returned (.tuple #[.int .i64 3,.slice none 0 0,.int .i64 0,.int .i64 0])∧LeP w0 q p m1 m2 life last X1 (vA t1) w':=by
  obtain⟨D0,D1,h⟩:=h;have HMay:=za (ZZ h.le hk (Yp hr));have HG:=za (h.ca.getMiss ht (by omega) hr hl ht1);have hb:=h.le.box;have HH:=za h;have HX:=za hX;have HXM:=za hx;have HXK:=za hxk;have HK:=za hk;clear h hr hl ht1 hk ht hX hx hxk;obtain⟨hb_0,hb_1,hb_2,hb_3,hb_4,hb_f,hb_l,H_hb⟩:=cr5 hb;clear hb
  go_enter_defers func20,ntmps20
  go_upto_region 10 with(first
    | (go_at_call 56;refine HMay.out.mono ?_;rintro e w' ⟨rfl,rfl⟩)
    | (go_at_call 38;refine HG.out.mono ?_;rintro e w2 ⟨rfl,hg2⟩))
  clear hb_0 hb_1 hb_2 hb_3 hb_4 hb_f hb_l;clear H_hb HMay HG;obtain⟨D2,hR2⟩:=HH.out.cago hg2;clear hg2 HH;have HTd:=za hR2.tidy;rw[HX.out]at HTd;clear hR2;go_upto_region 11 with(go_at_call 57;refine HTd.out.mono ?_;rintro e w3 ⟨rfl,⟨D1',hR3⟩,_⟩)
  have hb3:=hR3.le.box;obtain⟨r1,r2,r3,r4⟩:=hR3.le.rng x HXM.out;have hlk:=hR3.le.lent.look vL underlying71 qp (jZ (s:=x.key) (by omega)) (x:=some x.blk) (zy.2 ⟨x,HXM.out,rfl⟩);simp only[yC]at hlk;rw[HXK.out]at hlk;have HR3:=za hR3;clear hR3 HTd r1 r2 r3 r4;obtain⟨hb3_0,hb3_1,hb3_2,hb3_3,hb3_4,hb3_f,hb3_l,H_hb3⟩:=cr5 hb3;clear hb3;go_wp2;refine leaves_cons (f:=37) (args:=#[lkP p]) (by simp) (by simp[go_sem]) ?_;refine HR3.out.drain.mono ?_;rintro e u' w' ⟨rfl,⟨v,rfl⟩,hm,hk⟩;exact⟨.tuple #[.int .i64 3,.slice none 0 0,.int .i64 0,.int .i64 0],by simp[results,results20,go_sem],rfl,hk⟩
theorem LeM.len_eq(h:LeM w q p m1 m2 life last X D1):Maps.size D1=X.length:=by
 have:=h.lent.size;unfold jc at this
 rwa [yq]at this
theorem zio(h:LeP w0 q p m1 m2 life last X t w){tt:Nat}(ht:tt≤18446744073709551615){key:ByteArray}(hk:key.size≤1000)(hr:vZ key t=0)(hl:vo (yu t tt) key=none)(ht1:uL t tt=t1)(hX:xB X t1.now=X1)(hn : ∀ x∈X1,x.key≠key)(hlen:1000≤X1.length) :
    Calls prog 20 #[lkP q,.int .u64 tt,.string key] w fun e w'=>e=.returned (.tuple #[.int .i64 0,.slice none 0 0,.int .i64 0,.int .i64 7])∧LeP w0 q p m1 m2 life last X1 (vA t1) w':=by
  obtain⟨D0,D1,h⟩:=h;have HMay:=za (ZZ h.le hk (Yp hr));have HG:=za (h.ca.getMiss ht (by omega) hr hl ht1);have hb:=h.le.box;have HH:=za h;have HX:=za hX;have HN:=za hn;have HK:=za hk;have HL:=za hlen;clear h hr hl ht1 hk ht hX hn hlen;obtain⟨hb_0,hb_1,hb_2,hb_3,hb_4,hb_f,hb_l,H_hb⟩:=cr5 hb;clear hb
  go_enter_defers func20,ntmps20
  go_upto_region 10 with(first
    | (go_at_call 56;refine HMay.out.mono ?_;rintro e w' ⟨rfl,rfl⟩)
    | (go_at_call 38;refine HG.out.mono ?_;rintro e w2 ⟨rfl,hg2⟩))
  clear hb_0 hb_1 hb_2 hb_3 hb_4 hb_f hb_l;clear H_hb HMay HG;obtain⟨D2,hR2⟩:=HH.out.cago hg2;clear hg2 HH;have HTd:=za hR2.tidy;rw[HX.out]at HTd;clear hR2;go_upto_region 11 with(go_at_call 57;refine HTd.out.mono ?_;rintro e w3 ⟨rfl,⟨D1',hR3⟩,_⟩)
  have hb3:=hR3.le.box;have hlk:=hR3.le.lent.look_no vL underlying71 qp (jZ (s:=key) (by have:=HK.out;omega)) (fun y hy=>by
    obtain⟨z,hz,rfl⟩:=zy.1 hy;exact fun c=>HN.out z hz (qA c))
  simp only[yC]at hlk;have hsz:=hR3.le.len_eq;have hown:=hR3.le.lent.own;have hge:(1000:Int)≤(X1.length:Int):=by have:=HL.out;omega
  have HR3:=za hR3;clear hR3 HTd;obtain⟨hb3_0,hb3_1,hb3_2,hb3_3,hb3_4,hb3_f,hb3_l,H_hb3⟩:=cr5 hb3;clear hb3
  go_wp2_with (at_len;refine wpList_len_own _ rfl _ 71 rfl 9 116 underlying71 yC.R m1 (jc X1).length D1' rfl hown ?_;rw[hsz];go_frame)
  refine leaves_cons (f:=37) (args:=#[lkP p]) (by simp) (by simp[go_sem]) ?_;refine HR3.out.drain.mono ?_;rintro e u' w' ⟨rfl,⟨v,rfl⟩,hm,hk⟩;exact⟨.tuple #[.int .i64 0,.slice none 0 0,.int .i64 0,.int .i64 7],by simp[results,results20,go_sem],rfl,hk⟩
end
section
variable{w w' w1 w2 w0:World}{q p m1 m2 life last:Nat}{X X' X1:List Lt}{D1 D1' D2:DataW Unit}{S D0:Nat→Prop}{t t' t1:Bst}
theorem LeR.bump{ln:Nat}(h:LeR w0 D0 q p m1 m2 life last X D1 t w)(hl:last≤ln∧ln≤100000){W:World}(hm:Mod (fun k=>k=q) w W)(hb:W.heap[q]? = some (.cells (leC p life m1 m2 ln) 74 (0,0))):LeR w0 D0 q p m1 m2 life ln X D1 t W:=by
 obtain⟨D2,h2⟩:=h.le.keys;refine h.to hm ⟨hb,h.le.lent.mod hm (fun e=>h.le.nq1 e.symm),⟨D2,h2.mod hm (fun e=>h.le.nq2 e.symm)⟩,fun x hx=>hm.heap (fun e=>h.le.nbq hx e) (h.le.each x hx),h.le.ne,h.le.k1,h.le.k2,h.le.nd,fun x hx => ?_,h.le.len,hl.2,h.le.life⟩ (fun k hk e=>h.ap k hk (.inl e)) (fun k _ e=>h.le.nob (.inl e)) (fun k e=>h.ge k (.inl e)) (fun k hk => .inl hk);obtain⟨a,b,c⟩:=h.le.rng x hx;exact⟨a,by omega,c⟩
theorem LeR.to6{W5 W:World}{x:Lt}(h:LeR w0 D0 q p m1 m2 life last X D1 t W5)(hm:Mod (fun k=>k=m1∨k=m2) W5 W)(hl:LeM W q p m1 m2 life last (x::X) D1')(hx:W5.heap.size≤x.blk):LeR w0 D0 q p m1 m2 life last (x::X) D1' t W:=by
 have hin : ∀ k,(k=m1∨k=m2)→LeD q m1 m2 X k:=fun k e=>by rcases e with e | e;exact .inr (.inl e);exact .inr (.inr (.inl e))
 refine h.to hm hl (fun k hk e=>h.ap k hk (hin k e)) (fun k _ e=>h.le.nob (hin k e)) (fun k e=>h.ge k (hin k e)) (fun k hk => ?_);rcases hk with e | e | e | ⟨y,hy,e⟩
 ·exact .inl (.inl e)
 ·exact .inl (.inr (.inl e))
 ·exact .inl (.inr (.inr (.inl e)))
 ·rcases zW.1 hy with rfl | hy
  ·exact .inr (by rw[← e];exact hx)
  ·exact .inl (.inr (.inr (.inr ⟨y,hy,e⟩)))
theorem JI(a b:Nat):xe a b≤18446744073709551615:=by
 unfold xe;split<;>omega
theorem kC(h:w.heap[q]? = some (.cells (leC p life m1 m2 last) 74 (0,0))):w.cell? ⟨q,2,none⟩=some (.map (some m1))∧w.cell? ⟨q,3,none⟩=some (.map (some m2))∧w.cell? ⟨q,4,none⟩=some (.int .i64 last) :=
 ⟨zj w q 2 _ _ (0,0) h,zj w q 3 _ _ (0,0) h,zj w q 4 _ _ (0,0) h⟩
theorem Az673 {P:Prop}(h:P:=by
 (refine hSt 25 (fun K hK => ?_);go_simp;refine hK.out _ _ ?_ (fun h_ => ?_);(· exact gB);clear hK K;refine clA ?_)
 (refine hSt 26 (fun K hK => ?_);go_simp;refine hK.out _ _ ?_ (fun h_ => ?_);(· exact gC);clear hK K;refine clA ?_)
 refine hTk 27 ?_
 (refine hSt 28 (fun K hK => ?_);go_simp;refine hK.out _ _ ?_ (fun h_ => ?_);(· exact gD);clear hK K;refine clA ?_)
 refine hDn ?_;clear h_;refine jw.normal ?_;go_upto_region 17 with fail
 refine Code.wp_mono (fun _ _ _ h=>jw.le h) ?_;refine jC (S:=fun Y=>Y.cell? ⟨q,4,none⟩=some (.int .i64 (ln:Int))) (by kernel_rfl) gD.2.2 (fun h_ => ?_);refine hTk 0 ?_;refine hTk 1 ?_;refine hTk 2 ?_;refine hLd 3 ?_;refine hTk 4 ?_;refine hTk 5 ?_;refine hTk 6 ?_;refine hTk 7 ?_;refine hDn ?_;clear h_;refine jw.normal ?_;go_wp2;refine leaves_cons (f:=37) (args:=#[lkP p]) (by simp) (by simp[go_sem]) ?_;refine(HF.out.pure (Mod.refl _ Wd).drew).drain.mono ?_;rintro e u' w' ⟨rfl,⟨v,rfl⟩,hm,hk⟩;exact⟨.tuple #[.int .i64 2,.slice none 0 0,.int .i64 ln,.int .i64 0],by simp[results,results20,go_sem],bk,rfl,hk⟩):P:=h
theorem Aza52 {P:Prop}(h:P:=by
 refine HR5.out.to6 hmD (HR5.out.le.add (hmD.heap hqm HR5.out.le.box) ⟨zH _,HLast.out.2⟩ hzd ⟨fun y hy c => ?_,?_,zH _,HK.out,JI _ _⟩ HN.out (by omega) (hLent.mod hmBD (fun e=>HR5.out.le.ne e)) hKeys hmD (fun y hy e => ?_)) HBK.out
 · have h2:=HT1.out y hy;have h3:=HLN.out;have h4:y.tok=ln:=c;omega
 · have h3:=HLN.out;show 0<ln;omega
 · rcases e with e | e
   · exact HR5.out.le.nb1 hy e
   · exact HR5.out.le.nb2 hy e):P:=h
theorem Va(h:LeP w0 q p m1 m2 life last X t w){tt:Nat}(ht:tt≤18446744073709551615){key:ByteArray}(hk:key.size≤1000)(hr:vZ key t=0)(hl:vo (yu t tt) key=none)(ht1:uL t tt=t1)(hn64:t1.now≤18446744073709551615)(hX:xB X t1.now=X1)(hn : ∀ x∈X1,x.key≠key)(hlen:X1.length<1000){ln:Nat}(hln:last+1=ln)(hlast:ln≤100000) :
    Calls prog 20 #[lkP q,.int .u64 tt,.string key] w fun e w' => ∃ b,e=.returned (.tuple #[.int .i64 2,.slice none 0 0,.int .i64 ln,.int .i64 0])∧LeP w0 q p m1 m2 life ln (⟨ln,key,xe t1.now life,b⟩::X1) (vA t1) w':=by
  obtain⟨D0,D1,h⟩:=h;have HMay:=za (ZZ h.le hk (Yp hr));have HG:=za (h.ca.getMiss ht (by omega) hr hl ht1);have hb:=h.le.box;have HH:=za h;have HX:=za hX;have HN:=za hn;have HK:=za hk;have HL:=za hlen;have HLast:=za (show last≤ln∧ln≤100000 from⟨by omega,hlast⟩);have HLN:=za hln;have HN64:=za hn64;clear h hr hl ht1 hk ht hX hn hlen hn64;obtain⟨hb_0,hb_1,hb_2,hb_3,hb_4,hb_f,hb_l,H_hb⟩:=cr5 hb;clear hb
  go_enter_defers func20,ntmps20
  go_upto_region 10 with(first
    | (go_at_call 56;refine HMay.out.mono ?_;rintro e w' ⟨rfl,rfl⟩)
    | (go_at_call 38;refine HG.out.mono ?_;rintro e w2 ⟨rfl,hg2⟩))
  clear hb_0 hb_1 hb_2 hb_3 hb_4 hb_f hb_l;clear H_hb HMay HG;obtain⟨D2,hR2⟩:=HH.out.cago hg2;clear hg2 HH;have HTd:=za hR2.tidy;rw[HX.out]at HTd;clear hR2;go_upto_region 11 with(go_at_call 57;refine HTd.out.mono ?_;rintro e w3 ⟨rfl,⟨D1',hR3⟩,_⟩)
  have hb3:=hR3.le.box;have hlk:=hR3.le.lent.look_no vL underlying71 qp (jZ (s:=key) (by have:=HK.out;omega)) (fun y hy=>by
    obtain⟨z,hz,rfl⟩:=zy.1 hy;exact fun c=>HN.out z hz (qA c))
  simp only[yC]at hlk;have hsz:=hR3.le.len_eq;have hown:=hR3.le.lent.own;have hge : ¬ (1000:Int)≤(X1.length:Int):=by have:=HL.out;omega
  have hw:IntKind.i64.wrap ((last:Int)+1)=(ln:Int):=by rw[show(last:Int)+1=(ln:Int) by omega];exact zr _ (by omega)
  have HR3:=za hR3;have HB3:=za hb3;clear hR3 HTd;obtain⟨hb3_0,hb3_1,hb3_2,hb3_3,hb3_4,hb3_f,hb3_l,H_hb3⟩:=cr5 hb3;clear hb3;go_upto_region 16 with(at_len;refine wpList_len_own _ rfl _ 71 rfl 9 116 underlying71 yC.R m1 (jc X1).length D1' rfl hown ?_;rw[hsz];go_frame)
  clear hb3_0 hb3_1 hb3_2 hb3_3 hb3_4 hb3_f hb3_l;clear H_hb3 hlk hsz hown hge hw;obtain⟨W4,hW4⟩:=zc (w3.setCell ⟨q,4,none⟩ (.int .i64 (ln:Int)));have hm4:Mod (fun k=>k=q) w3 W4:=by rw[← hW4];exact(Mod.refl (fun k=>k=q) w3).setCell (p:=⟨q,4,none⟩) (fun _=>rfl) _
  have hb4:W4.heap[q]? = some (.cells (leC p life m1 m2 ln) 74 (0,0)):=by rw[← hW4];exact zV w3 q 4 _ _ (.int .i64 (ln:Int)) HB3.out
  rw[hW4];have hR4:=HR3.out.bump HLast.out hm4 hb4;clear hW4 hm4;have hdr:zb W4 W4.drew:=(Mod.refl _ W4).drew;have HUn:=za (za0 (hR4.pure hdr) HN64.out);have HR4:=za hR4;have HB4:=za hb4;obtain⟨g2,g3,g4⟩:=kC hb4;have HT1:=za (fun y (hy:y∈X1)=>(HR3.out.le.rng y hy).2.1);clear HR3 HB3 hR4 hb4;refine Code.wp_mono (fun _ _ _ h=>jw.le h) ?_;refine jC (S:=fun Y=>Y.cell? ⟨q,2,none⟩=some (.map (some m1))∧Y.cell? ⟨q,3,none⟩=some (.map (some m2))∧Y.cell? ⟨q,4,none⟩=some (.int .i64 (ln:Int))) (by kernel_rfl) ⟨g2,g3,g4⟩ (fun h_ => ?_);clear g2 g3 g4;refine hTk 0 ?_;refine hTk 1 ?_;refine hTk 2 ?_;refine hLd 3 ?_;refine hTk 4 ?_;refine hTk 5 ?_;refine hTk 6 ?_;refine hTk 7 ?_;refine hLd 8 ?_;refine hTk 9 ?_;refine hTk 10 ?_;refine hTk 11 ?_;refine hLd 12 ?_;refine hTk 13 ?_;refine hTk 14 ?_;refine hTk 15 ?_;refine hLd 16 ?_;refine hTk 17 ?_;refine hTk 18 ?_;refine hTk 22 ?_
  (refine hSt 19 (fun K hK => ?_);go_simp;refine HUn.out.mono ?_;rintro e w5 ⟨rfl,hp5⟩;have hR5:=HR4.out.pure (hdr.trans hp5);refine hK.out _ _ ?_ (fun h_ => ?_);(· exact kC hR5.le.box);clear hK K;refine clA ?_)
  refine hTk 20 ?_;have hszX:=HL.out;have hmx:(jc X1).length<maxLen:=by unfold jc;rw[yq];unfold maxLen;omega
  have hkt:=jZ (s:=key) (by have:=HK.out;omega);have HR5:=za hR5;clear hR5 hp5 HR4 HB4 HUn hdr;refine uT (rs:=[21,23]) (by kernel_rfl) (by simp) ?_;refine vM rfl (fun K1 hK1 => ?_) (vM rfl (fun K1 hK1 => ?_) uQ)
  · obtain⟨bk,hbk⟩:=zc w5.heap.size
    have hal:zb w5 (w5.alloc (.cells #[.int .i64 (ln:Int),.string key,.int .u64 (xe t1.now life:Nat)] 114)):=(Mod.refl _ w5).alloc _;have hz:=zi (w:=w5) (o := .cells #[.int .i64 (ln:Int),.string key,.int .u64 (xe t1.now life:Nat)] 114 (0,0)) rfl;obtain⟨W6,hW6⟩:=zc (w5.alloc (.cells #[.int .i64 (ln:Int),.string key,.int .u64 (xe t1.now life:Nat)] 114));go_simp
    try rw[hW6]
    rw[hW6]at hz hal;rw[hbk]at hz;have hR6:=HR5.out.pure hal;refine hK1.out _ _ (kC hR6.le.box) (fun h_ => ?_);clear hK1 K1 hW6;refine clA ?_;obtain⟨v0,st,Wx,o1,hE,hA,hgA,hS⟩:=qQ hR6.le.lent.own vL underlying71 qp hmx hkt;have hm6:Mod (fun k=>k=m1) W6 Wx:=Mod.of_grown hgA (fun k e _=>by cases e;rfl);have hmX:Mod (fun k=>k=m1) w5 Wx:=Mod.trans' hal hm6 (fun _ _ e=>e.elim) (fun _ _ e=>e);have hzX:=hm6.heap (fun e=>by have:=HR5.out.le.lt (k:=m1) (.inr (.inl rfl));omega) hz;have HZ:=za hzX;have HBK:=za (show w5.heap.size≤bk from by omega);have HMX:=za hmX;have HA:=za hA;have HS:=za hS;clear hR6 hbk hz hal hmX hzX hA hgA hS hm6;refine uT (rs:=[23]) (by kernel_rfl) (by simp) ?_;refine vM rfl (fun K2 hK2 => ?_) uQ;go_simp;refine hK2.out _ _ (kC (HMX.out.heap HR5.out.le.nq1 HR5.out.le.box)) (fun h_ => ?_);clear hK2 K2 hE;refine clA ?_;obtain⟨Wb,hEb,hownB,hgB⟩:=HS.out Wx (lkP bk) _ _ HA.out (yC.rd (some bk));have hmB:Mod (fun k=>k=m1) w5 Wb:=HMX.out.trans (Mod.of_grown hgB (fun k e _=>by cases e;rfl));have hmXB:Mod (fun k=>k=m1) Wx Wb:=Mod.of_grown hgB (fun k e _=>by cases e;rfl);have hLent:=HR5.out.le.lent.put vL (Uq key) (x:=some bk) (fun y hy=>by
      obtain⟨z,hz,rfl⟩:=zy.1 hy;exact fun c=>HN.out z hz (qA c)) hownB
    obtain⟨D2k,hk2⟩:=HR5.out.le.keys;have hk2B:=hk2.mod hmB (fun e=>HR5.out.le.ne e.symm);obtain⟨v1,st2,Wc,o2,hEc,hC2,hgC,hS2⟩:=qQ hk2B.own qk underlying72 VA (by unfold Zf;rw[yq];unfold maxLen;omega) (Yo (s:=ln) (by have:=HLast.out.2;omega));have hmC:Mod (fun k=>k=m1∨k=m2) w5 Wc:=(hmB.mono (fun _ _ h => .inl h)).trans (Mod.of_grown hgC (fun k e _=>by cases e;exact .inr rfl));obtain⟨Wd,hEd,hownD,hgD⟩:=hS2 Wc (.string key) _ _ hC2 (Zd.rd key);have hmD:Mod (fun k=>k=m1∨k=m2) w5 Wd:=hmC.trans (Mod.of_grown hgD (fun k e _=>by cases e;exact .inr rfl));have hmBD:Mod (fun k=>k=m2) Wb Wd:=(Mod.of_grown hgC (fun k e _=>by cases e;rfl)).trans (Mod.of_grown hgD (fun k e _=>by cases e;rfl));have hKeys:=hk2B.put qk (QN ln) (x:=key) (fun y hy=>by
      obtain⟨z,hz,rfl⟩:=zy.1 hy;intro c;have h1:=VC c;have h2:=HT1.out z hz;have h3:=HLN.out;omega) hownD
    have hqm : ¬ (q=m1∨q=m2):=fun e=>by rcases e with e | e;exact HR5.out.le.nq1 e;exact HR5.out.le.nq2 e
    have gB:=kC (hmB.heap HR5.out.le.nq1 HR5.out.le.box);have gC:=kC (hmC.heap hqm HR5.out.le.box);have gD:=kC (hmD.heap hqm HR5.out.le.box);have hzd:Wd.heap[bk]? = _:=hmBD.heap (fun e=>by have:=HR5.out.le.lt (k:=m2) (.inr (.inr (.inl rfl)));have:=HBK.out;omega) (hmXB.heap (fun e=>by have:=HR5.out.le.lt (k:=m1) (.inr (.inl rfl));have:=HBK.out;omega) HZ.out);have hfin:LeR w0 D2 q p m1 m2 life ln (⟨ln,key,xe t1.now life,bk⟩::X1) (D1'.put (yz key) (yC.T (some bk))) t1 Wd:=by
      exact Aza52
    have HF:=za hfin;clear hfin hLent hKeys hmD hmBD hmC hmB hmXB hk2 hk2B hownB hownD hgB hgC hgD hS2 hC2 hzd;refine hTk 24 ?_;exact Az673
  · obtain⟨v0,st,Wa,o1,hE,hA,hgA,hS⟩:=qQ HR5.out.le.lent.own vL underlying71 qp hmx hkt
    have hma:Mod (fun k=>k=m1) w5 Wa:=Mod.of_grown hgA (fun k e _=>by cases e;rfl);go_simp;refine hK1.out _ _ (kC (hma.heap HR5.out.le.nq1 HR5.out.le.box)) (fun h_ => ?_);clear hK1 K1 hE;refine clA ?_;refine hTk 24 ?_;refine uT (rs:=[21]) (by kernel_rfl) (by simp) ?_;refine vM rfl (fun K2 hK2 => ?_) uQ;obtain⟨bk,hbk⟩:=zc Wa.heap.size;have hal:zb Wa (Wa.alloc (.cells #[.int .i64 (ln:Int),.string key,.int .u64 (xe t1.now life:Nat)] 114)):=(Mod.refl _ Wa).alloc _;have hz:=zi (w:=Wa) (o := .cells #[.int .i64 (ln:Int),.string key,.int .u64 (xe t1.now life:Nat)] 114 (0,0)) rfl;obtain⟨Wx,hWx⟩:=zc (Wa.alloc (.cells #[.int .i64 (ln:Int),.string key,.int .u64 (xe t1.now life:Nat)] 114));go_simp
    try rw[hWx]
    rw[hWx]at hz hal;rw[hbk]at hz;have hmX:Mod (fun k=>k=m1) w5 Wx:=Mod.trans' hma hal (fun _ _ e=>e) (fun _ _ e=>e.elim);have hA2:=hal.heap (fun e=>e) hA;have hsza:=hma.size;have HZ:=za hz;have HBK:=za (show w5.heap.size≤bk from by omega);have HMX:=za hmX;have HA:=za hA2;have HS:=za hS;refine hK2.out _ _ (kC (HMX.out.heap HR5.out.le.nq1 HR5.out.le.box)) (fun h_ => ?_);clear hK2 K2 hWx hbk hal hz hmX hA hA2 hS hgA hma hsza;refine clA ?_;obtain⟨Wb,hEb,hownB,hgB⟩:=HS.out Wx (lkP bk) _ _ HA.out (yC.rd (some bk));have hmB:Mod (fun k=>k=m1) w5 Wb:=HMX.out.trans (Mod.of_grown hgB (fun k e _=>by cases e;rfl));have hmXB:Mod (fun k=>k=m1) Wx Wb:=Mod.of_grown hgB (fun k e _=>by cases e;rfl);have hLent:=HR5.out.le.lent.put vL (Uq key) (x:=some bk) (fun y hy=>by
      obtain⟨z,hz,rfl⟩:=zy.1 hy;exact fun c=>HN.out z hz (qA c)) hownB
    obtain⟨D2k,hk2⟩:=HR5.out.le.keys;have hk2B:=hk2.mod hmB (fun e=>HR5.out.le.ne e.symm);obtain⟨v1,st2,Wc,o2,hEc,hC2,hgC,hS2⟩:=qQ hk2B.own qk underlying72 VA (by unfold Zf;rw[yq];unfold maxLen;omega) (Yo (s:=ln) (by have:=HLast.out.2;omega));have hmC:Mod (fun k=>k=m1∨k=m2) w5 Wc:=(hmB.mono (fun _ _ h => .inl h)).trans (Mod.of_grown hgC (fun k e _=>by cases e;exact .inr rfl));obtain⟨Wd,hEd,hownD,hgD⟩:=hS2 Wc (.string key) _ _ hC2 (Zd.rd key);have hmD:Mod (fun k=>k=m1∨k=m2) w5 Wd:=hmC.trans (Mod.of_grown hgD (fun k e _=>by cases e;exact .inr rfl));have hmBD:Mod (fun k=>k=m2) Wb Wd:=(Mod.of_grown hgC (fun k e _=>by cases e;rfl)).trans (Mod.of_grown hgD (fun k e _=>by cases e;rfl));have hKeys:=hk2B.put qk (QN ln) (x:=key) (fun y hy=>by
      obtain⟨z,hz,rfl⟩:=zy.1 hy;intro c;have h1:=VC c;have h2:=HT1.out z hz;have h3:=HLN.out;omega) hownD
    have hqm : ¬ (q=m1∨q=m2):=fun e=>by rcases e with e | e;exact HR5.out.le.nq1 e;exact HR5.out.le.nq2 e
    have gB:=kC (hmB.heap HR5.out.le.nq1 HR5.out.le.box);have gC:=kC (hmC.heap hqm HR5.out.le.box);have gD:=kC (hmD.heap hqm HR5.out.le.box);have hzd:Wd.heap[bk]? = _:=hmBD.heap (fun e=>by have:=HR5.out.le.lt (k:=m2) (.inr (.inr (.inl rfl)));have:=HBK.out;omega) (hmXB.heap (fun e=>by have:=HR5.out.le.lt (k:=m1) (.inr (.inl rfl));have:=HBK.out;omega) HZ.out);have hfin:LeR w0 D2 q p m1 m2 life ln (⟨ln,key,xe t1.now life,bk⟩::X1) (D1'.put (yz key) (yC.T (some bk))) t1 Wd:=by
      exact Aza52
    have HF:=za hfin;clear hfin hLent hKeys hmD hmBD hmC hmB hmXB hk2 hk2B hownB hownD hgB hgC hgD hS2 hC2 hzd;exact Az673
end
def jj(X:List Lt)(key:ByteArray):List Lt:=X.filter fun y => !decide (y.key=key)
section
variable{w w' w1 w2 w0:World}{q p m1 m2 life last:Nat}{X X' X1:List Lt}{D1 D1' D2:DataW Unit}{S D0:Nat→Prop}{t t' t1:Bst}
theorem LeR.goneK(h:LeR w0 D0 q p m1 m2 life last X D1 t w){key:ByteArray}(hk:key.size≤1000):Calls prog 62 #[lkP q,.string key] w fun e w'=>e=.returned (.tuple #[]) ∧ ∃ D1',LeR w0 D0 q p m1 m2 life last (jj X key) D1' t w':=by
 by_cases hx : ∃ x∈X,x.key=key
 ·obtain⟨x,hx,rfl⟩:=hx;refine(h.gone hx (X':=jj X x.key) (fun y => ?_) jq).mono ?_
  ·unfold jj;rw[jz];constructor
   ·rintro⟨hy,hf⟩;exact⟨hy,fun c=>by rw[c]at hf;simp at hf⟩
   ·rintro⟨hy,hne⟩;exact⟨hy,by simpa using fun c=>hne (h.le.k1 y hy x hx c)⟩
  ·rintro e w' ⟨rfl,hR⟩;exact⟨rfl,_,hR⟩
 ·have hn : ∀ x∈X,x.key≠key:=fun x hx' c=>hx ⟨x,hx',c⟩
  refine(zks h.le hk hn).mono ?_;rintro e w' ⟨rfl,rfl⟩;refine⟨rfl,D1,?_⟩;have e:jj X key=X:=by
   unfold jj;rw[kw];intro y hy;simpa using hn y hy
  rw[e];exact h
def GdS(q m1 m2 tok:Nat)(k:ByteArray)(v:Value)(Y:World):Prop:=Y.cell? ⟨q,2,none⟩=some (.map (some m1))∧Y.cell? ⟨q,3,none⟩=some (.map (some m2))∧(Instr.lookup 72 (.map (some m2)) (.int .i64 tok) false).run prog Y=.ok (.string k) Y∧(Instr.lookup 71 (.map (some m1)) (.string k) false).run prog Y=.ok v Y
theorem zaB{tok:Nat}{k:ByteArray}{v:Value}(hp:v=.pointer none ∨ ∃ b,v=lkP b)(HT:Calls prog 57 #[lkP q] w fun e w'=>e=.returned (.tuple #[])∧(∃ D1',LeR w0 D0 q p m1 m2 life last X1 D1' t w')∧y9 w w')(HS : ∀ Y D1',LeR w0 D0 q p m1 m2 life last X1 D1' t Y→GdS q m1 m2 tok k v Y) :
  Calls prog 60 #[lkP q,.int .i64 tok] w fun e w'=>e=.returned v∧(∃ D1',LeR w0 D0 q p m1 m2 life last X1 D1' t w')∧y9 w w':=by
 have HT':=za HT;have HS':=za HS;clear HT HS;go_enter func60,ntmps60;go_upto_region 2 with(go_at_call 57;refine zm HT'.out ?_;rintro e w3 ⟨rfl,⟨D1',hR3⟩,hkb⟩)
 have hs:=HS'.out w3.drew D1' (hR3.pure (Mod.refl _ w3).drew);have HR3:=za hR3;have HKB:=za hkb;clear hR3 hkb HT' HS';refine rHd (S:=GdS q m1 m2 tok k v) hs (fun h_ => ?_);clear hs;refine hTk 0 ?_;refine hTk 1 ?_;refine hTk 2 ?_;refine hLd 3 ?_;refine hTk 4 ?_;refine hTk 5 ?_;refine hTk 6 ?_;refine hLd 7 ?_;refine hTk 8 ?_;refine hLd 9 ?_;refine hLd 10 ?_;refine hTk 11 ?_;refine hDn ?_;clear h_;go_wp2;go_ret;exact⟨rfl,⟨D1',HR3.out.pure (Mod.refl _ w3).drew⟩,HKB.out.trans (y9.pure (Mod.refl _ w3).drew)⟩
theorem LeR.good_hit(h:LeR w0 D0 q p m1 m2 life last X D1 t w)(hX:xB X t.now=X1){x:Lt}(hx:x∈X1):Calls prog 60 #[lkP q,.int .i64 x.tok] w fun e w'=>e=.returned (lkP x.blk)∧(∃ D1',LeR w0 D0 q p m1 m2 life last X1 D1' t w')∧y9 w w':=by
 have HT:=h.tidy;rw[hX]at HT;refine zaB (k:=x.key) (.inr ⟨_,rfl⟩) HT (fun Y D1' hR => ?_);obtain⟨r1,r2,r3,r4⟩:=hR.le.rng x hx;have hl:=hR.le.last;obtain⟨D2,hk⟩:=hR.le.keys;obtain⟨c2,c3,_⟩:=kC hR.le.box;exact⟨c2,c3,hk.look qk underlying72 VA (Yo (s:=x.tok) (by omega)) (x:=x.key) (zy.2 ⟨x,hx,rfl⟩),hR.le.lent.look vL underlying71 qp (jZ (s:=x.key) (by omega)) (x:=some x.blk) (zy.2 ⟨x,hx,rfl⟩)⟩
theorem LeR.good_miss(h:LeR w0 D0 q p m1 m2 life last X D1 t w)(hX:xB X t.now=X1){tok:Nat}(ht:tok≤9223372036854775807)(hn : ∀ x∈X1,x.tok≠tok)(he : ∀ x∈X1,x.key≠⟨#[]⟩):Calls prog 60 #[lkP q,.int .i64 tok] w fun e w'=>e=.returned (.pointer none)∧(∃ D1',LeR w0 D0 q p m1 m2 life last X1 D1' t w')∧y9 w w':=by
 have HT:=h.tidy;rw[hX]at HT;refine zaB (k:=⟨#[]⟩) (.inl rfl) HT (fun Y D1' hR => ?_);obtain⟨D2,hk⟩:=hR.le.keys;obtain⟨c2,c3,_⟩:=kC hR.le.box;exact⟨c2,c3,hk.look_no qk underlying72 VA (Yo (s:=tok) ht) (fun y hy=>by
  obtain⟨z,hz,rfl⟩:=zy.1 hy;exact fun c=>hn z hz (VC c)),hR.le.lent.look_no vL underlying71 qp (jZ (s:=⟨#[]⟩) (by decide)) (fun y hy=>by
  obtain⟨z,hz,rfl⟩:=zy.1 hy;exact fun c=>he z hz (qA c))⟩
theorem Azsjd {P:Prop}(h:P:=by
 obtain⟨D2,hR2⟩:=HH.out.cago hg;have HGo:=za (hR2.goneK HK.out)
 go_wp2_with (go_at_call 62;refine HGo.out.mono ?_;rintro e w2 ⟨rfl,D1',hR3⟩)
 refine leaves_cons (f:=37) (args:=#[lkP p]) (by simp) (by simp[go_sem]) ?_;refine hR3.drain.mono ?_;rintro e u' w' ⟨rfl,⟨v,rfl⟩,hm,hk⟩;exact⟨_,results_tmp rfl _ _ _,rfl,hk⟩):P:=h
theorem LeR.set_ok(h:LeR w0 D0 q p m1 m2 life last X D1 t w){tt ttl vn vc:Nat}{va:Option Addr}{key:ByteArray}{vs:List UInt8}(hv:zq w (.slice va vn vc) 1 (zM vs))(hb:kX w (.slice va vn vc))(ht:tt≤18446744073709551615)(hok:j5 t key vn ttl=true)(he:vr t key.size vn=0)(ht1:kE t tt key vs (dlT ttl)=t1) :
  Calls prog 61 #[lkP q,.int .u64 tt,.string key,.slice va vn vc,.int .u64 ttl] w fun e w'=>e=.returned (.int .i64 0)∧LeP w0 q p m1 m2 life last (jj X key) (vA t1) w':=by
 obtain⟨o1,o2,o3,o4,o5,o6,o7⟩:=Qr hok;have hoff:=hb.off (fun k hk=>h.ca.nob hk);have hbx:=h.le.box;have HH:=za h;have HK:=za o4;by_cases h0:ttl=0
 ·subst h0;have HS:=za (h.ca.Set ht he o1 hv hoff);rw[← zeK,ht1]at HS;clear h hv hb hok hoff he o1 o2 o3 o4 o5 o6 o7 ht1;obtain⟨hbx_0,hbx_1,hbx_2,hbx_3,hbx_4,hbx_f,hbx_l,H_hbx⟩:=cr5 hbx;clear hbx
  go_enter_defers func61,ntmps61
  go_upto_region 5 with(go_at_call 40;refine HS.out.mono ?_;rintro e w1 ⟨rfl,hg⟩)
  exact Azsjd
 ·have HS:=za (h.ca.SetTTL ht o6 (by omega) he o1 hv hoff o7);rw[← zkH (by omega),ht1]at HS;have hz:((ttl:Int)==0)=false:=by simp;omega
  clear h hv hb hok hoff he o1 o2 o3 o4 o5 o6 o7 ht1;obtain⟨hbx_0,hbx_1,hbx_2,hbx_3,hbx_4,hbx_f,hbx_l,H_hbx⟩:=cr5 hbx;clear hbx
  go_enter_defers func61,ntmps61
  go_upto_region 5 with(go_at_call 41;refine HS.out.mono ?_;rintro e w1 ⟨rfl,hg⟩)
  exact Azsjd
theorem LeR.set_er(h:LeR w0 D0 q p m1 m2 life last X D1 t w){tt vn vc:Nat}{va:Option Addr}{key:ByteArray}(hk:key.size≤1000)(hn:vn≤100000){er:Int}(he:vr t key.size vn=er)(h0:er≠0) :
  Calls prog 61 #[lkP q,.int .u64 tt,.string key,.slice va vn vc,.int .u64 0] w fun e w'=>e=.returned (.int .i64 er)∧LeP w0 q p m1 m2 life last X (vA t) w':=by
 have hbx:=h.le.box;have HH:=za h;have HS:=za (h.ca.SetErr tt (a:=va) (c:=vc) (n:=vn) (key:=key) (by omega) (by omega) he h0);have hz:(er==0)=false:=by simp;exact h0
 clear h he h0;obtain⟨hbx_0,hbx_1,hbx_2,hbx_3,hbx_4,hbx_f,hbx_l,H_hbx⟩:=cr5 hbx;clear hbx
 go_enter_defers func61,ntmps61
 go_wp2_with (go_at_call 40;refine HS.out.mono ?_;rintro e w1 ⟨rfl,hp⟩)
 refine leaves_cons (f:=37) (args:=#[lkP p]) (by simp) (by simp[go_sem]) ?_;refine(HH.out.pure hp).drain.mono ?_;rintro e u' w' ⟨rfl,⟨v,rfl⟩,hm,hk⟩;exact⟨_,results_tmp rfl _ _ _,rfl,hk⟩
end
section
variable{w w' w1 w2 w0:World}{q p m1 m2 life last:Nat}{X X' X1:List Lt}{D1 D1' D2:DataW Unit}{S D0:Nat→Prop}{t t' t1 t2:Bst}
theorem LeR.adv(h:LeR w0 D0 q p m1 m2 life last X D1 t w){tt:Nat}(ht:tt≤18446744073709551615)(hr:xP t=0)(ht1:uL t tt=t1):Calls prog 45 #[lkP p,.int .u64 tt] w fun e w'=>e=.returned (.int .i64 0)∧(∃ D0',LeR w0 D0' q p m1 m2 life last X D1 t1 w')∧y9 w w':=by
 subst ht1;refine(h.ca.adv ht hr).mono ?_;rintro e w' ⟨rfl,hg⟩;exact⟨rfl,h.cago hg,y9.of_mod (S:=D0) (by obtain⟨_,_,hm,_⟩:=hg;exact hm) (fun k _ e=>h.ca.nob e)⟩
theorem zin(h:LeP w0 q p m1 m2 life last X t w){tt ttl tok vn vc:Nat}{va:Option Addr}(hn:65536<vn) :
  Calls prog 21 #[lkP q,.int .u64 tt,.int .i64 tok,.slice va vn vc,.int .u64 ttl] w fun e w'=>e=.returned (.int .i64 5)∧LeP w0 q p m1 m2 life last X t w':=by
 have HP:=za h;obtain⟨D0,D1,h⟩:=h;have HN:=za (Yb h.le);have hlv:(65536:Int)<(vn:Int):=by omega
 clear h hn;go_enter func21,ntmps21
 go_wp2_with (go_at_call 59;refine HN.out.mono ?_;rintro e w' ⟨rfl,rfl⟩)
 go_ret;exact⟨rfl,HP.out⟩
theorem zfX(h:LeP w0 q p m1 m2 life last X t w){tt ttl tok vn vc:Nat}{va:Option Addr}(hn:vn≤65536)(ht:tt≤18446744073709551615)(hr:xP t=0)(ht1:uL t tt=t1)(hX:xB X t1.now=X1)(htk:tok≤9223372036854775807)(hnt : ∀ x∈X1,x.tok≠tok)(he : ∀ x∈X1,x.key≠⟨#[]⟩) :
    Calls prog 21 #[lkP q,.int .u64 tt,.int .i64 tok,.slice va vn vc,.int .u64 ttl] w fun e w'=>e=.returned (.int .i64 9)∧LeP w0 q p m1 m2 life last X1 t1 w':=by
  obtain⟨D0,D1,h⟩:=h;have HN:=za (Yb h.le);have HA:=za (h.adv ht hr ht1);have hb:=h.le.box;have hlv : ¬ (65536:Int)<(vn:Int):=by omega
  have HX:=za hX;have HTK:=za htk;have HNT:=za hnt;have HE:=za he;clear h hn ht hr ht1 hX htk hnt he;obtain⟨hb_0,hb_1,hb_2,hb_3,hb_4,hb_f,hb_l,H_hb⟩:=cr5 hb;clear hb;go_enter func21,ntmps21;go_upto_region 6 with(first
    | (go_at_call 59;refine HN.out.mono ?_;rintro e w' ⟨rfl,rfl⟩)
    | (go_at_call 45;refine HA.out.mono ?_;rintro e w1 ⟨rfl,⟨D0',hR1⟩,_⟩))
  have HG:=za (hR1.good_miss HX.out HTK.out HNT.out HE.out)
  go_wp2_with (go_at_call 60;refine HG.out.mono ?_;rintro e w2 ⟨rfl,⟨D1',hR2⟩,_⟩)
  go_ret;exact⟨rfl,D0',D1',hR2⟩
theorem zf4(h:LeP w0 q p m1 m2 life last X t w){tt ttl vn vc:Nat}{va:Option Addr}{vs:List UInt8}(hv:zq w (.slice va vn vc) 1 (zM vs))(hb:kX w (.slice va vn vc))(hn:vn≤65536)(ht:tt≤18446744073709551615)(hr:xP t=0)(ht1:uL t tt=t1)(hX:xB X t1.now=X1){xt xl xb:Nat}{xk:ByteArray}(hx:(⟨xt,xk,xl,xb⟩:Lt)∈X1)(hok:j5 t1 xk vn ttl=true)(he:vr t1 xk.size vn=0)(ht2:kE t1 tt xk vs (dlT ttl)=t2) :
    Calls prog 21 #[lkP q,.int .u64 tt,.int .i64 xt,.slice va vn vc,.int .u64 ttl] w fun e w'=>e=.returned (.int .i64 0)∧LeP w0 q p m1 m2 life last (jj X1 xk) (vA t2) w':=by
  obtain⟨D0,D1,h⟩:=h;have HN:=za (Yb h.le);have HA:=za (h.adv ht hr ht1);have hbx:=h.le.box;have hlv : ¬ (65536:Int)<(vn:Int):=by omega
  have HX:=za hX;have HXM:=za hx;have HOK:=za hok;have HE:=za he;have HT2:=za ht2;have HV:=za hv;have HB:=za hb;have HT:=za ht;clear h hn ht hr ht1 hX hx hok he ht2 hv hb;obtain⟨hbx_0,hbx_1,hbx_2,hbx_3,hbx_4,hbx_f,hbx_l,H_hbx⟩:=cr5 hbx;clear hbx;go_enter func21,ntmps21;go_upto_region 6 with(first
    | (go_at_call 59;refine HN.out.mono ?_;rintro e w' ⟨rfl,rfl⟩)
    | (go_at_call 45;refine HA.out.mono ?_;rintro e w1 ⟨rfl,⟨D0',hR1⟩,hk1⟩))
  clear hbx_0 hbx_1 hbx_2 hbx_3 hbx_4 hbx_f hbx_l;clear H_hbx HA HN;have HG:=za (hR1.good_hit HX.out HXM.out);have HK1:=za hk1;clear hR1 hk1;go_upto_region 7 with(go_at_call 60;refine HG.out.mono ?_;rintro e w2 ⟨rfl,⟨D1',hR2⟩,hk2⟩)
  have hkb:=HK1.out.trans hk2;have HS:=za (hR2.set_ok (hkb.read HB.out HV.out) (hkb.byIn HB.out) HT.out HOK.out HE.out HT2.out);have hxb:=hR2.le.each _ HXM.out;unfold ltC at hxb;clear hR2 hkb hk2 HG HX HXM HOK HE HT2 HV HB HK1;dsimp only at hxb;obtain⟨hxb_0,hxb_1,hxb_2,hxb_f,hxb_l,H_hxb⟩:=cr3 hxb;clear hxb
  go_wp2_with (go_at_call 61;refine HS.out.mono ?_;rintro e w3 ⟨rfl,hk⟩)
  go_ret;exact⟨rfl,hk⟩
theorem zis(h:LeP w0 q p m1 m2 life last X t w)(hX:xB X t.now=X1){xt xl xb:Nat}{xk:ByteArray}(hx:(⟨xt,xk,xl,xb⟩:Lt)∈X1) :
    Calls prog 25 #[lkP q,.int .i64 xt] w fun e w'=>e=.returned (.int .i64 0)∧LeP w0 q p m1 m2 life last (jj X1 xk) t w':=by
  obtain⟨D0,D1,h⟩:=h;have HN:=za (Yb h.le);have HG:=za (h.good_hit hX hx);have HXM:=za hx;clear h hX hx;go_enter func25,ntmps25;go_upto_region 4 with(first
    | (go_at_call 59;refine HN.out.mono ?_;rintro e w' ⟨rfl,rfl⟩)
    | (go_at_call 60;refine HG.out.mono ?_;rintro e w2 ⟨rfl,⟨D1',hR2⟩,hk2⟩))
  have HGo:=za (hR2.goneK (hR2.le.rng _ HXM.out).2.2.1);have hxb:=hR2.le.each _ HXM.out;unfold ltC at hxb;clear hR2 hk2 HG HXM HN;dsimp only at hxb;obtain⟨hxb_0,hxb_1,hxb_2,hxb_f,hxb_l,H_hxb⟩:=cr3 hxb;clear hxb
  go_wp2_with (go_at_call 62;refine HGo.out.mono ?_;rintro e w3 ⟨rfl,D1',hR3⟩)
  go_ret;exact⟨rfl,D0,D1',hR3⟩
theorem Az3dx {P:Prop}(h:P:=by
 go_enter func22,ntmps22
 go_wp2_with (first
   | (go_at_call 56;refine HM.out.mono ?_;rintro e w' ⟨rfl,rfl⟩)
   | (go_at_call 61;refine HS.out.mono ?_;rintro e w1 ⟨rfl,hk⟩))
 go_ret;exact⟨rfl,hk⟩):P:=h
theorem ziM(h:LeP w0 q p m1 m2 life last X t w){tt ttl vn vc:Nat}{va:Option Addr}{key:ByteArray}{vs:List UInt8}(hv:zq w (.slice va vn vc) 1 (zM vs))(hb:kX w (.slice va vn vc))(ht:tt≤18446744073709551615)(hok:j5 t key vn ttl=true)(he:vr t key.size vn=0)(ht1:kE t tt key vs (dlT ttl)=t1) :
    Calls prog 22 #[lkP q,.int .u64 tt,.string key,.slice va vn vc,.int .u64 ttl] w fun e w'=>e=.returned (.int .i64 0)∧LeP w0 q p m1 m2 life last (jj X key) (vA t1) w':=by
  obtain⟨D0,D1,h⟩:=h;obtain⟨o1,o2,o3,o4,_⟩:=Qr hok;have HM:=za (ZZ h.le o4 (Yp o2));have HS:=za (h.set_ok hv hb ht hok he ht1);clear h hv hb ht hok he ht1 o1 o2 o3 o4;exact Az3dx
theorem zfM(h:LeP w0 q p m1 m2 life last X t w){tt vn vc:Nat}{va:Option Addr}{key:ByteArray}(hk:key.size≤1000)(hkb:xZ key.size=true)(hn:vn≤100000){er:Int}(he:vr t key.size vn=er)(h0:er≠0) :
    Calls prog 22 #[lkP q,.int .u64 tt,.string key,.slice va vn vc,.int .u64 0] w fun e w'=>e=.returned (.int .i64 er)∧LeP w0 q p m1 m2 life last X (vA t) w':=by
  obtain⟨D0,D1,h⟩:=h;have HM:=za (ZZ h.le hk hkb);have HS:=za (h.set_er (tt:=tt) (va:=va) (vc:=vc) hk hn he h0);clear h hk hkb hn he h0;exact Az3dx
theorem zgs(h:LeP w0 q p m1 m2 life last X t w){tt:Nat}(ht:tt≤18446744073709551615){key:ByteArray}(hk:key.size≤1000)(hr:vZ key t=0){was:Bool}(ht1:VH t tt key=(was,t1)) :
    Calls prog 23 #[lkP q,.int .u64 tt,.string key] w fun e w'=>e=.returned (.tuple #[.bool was,.int .i64 0])∧LeP w0 q p m1 m2 life last (jj X key) (vA t1) w':=by
  obtain⟨D0,D1,h⟩:=h;have HM:=za (ZZ h.le hk (Yp hr));have HGo:=za (h.goneK hk);have hb:=h.le.box;have HT:=za ht;have HK:=za hk;have HR:=za hr;have HT1:=za ht1;clear h ht hk hr ht1;obtain⟨hb_0,hb_1,hb_2,hb_3,hb_4,hb_f,hb_l,H_hb⟩:=cr5 hb;clear hb
  go_enter_defers func23,ntmps23
  go_upto_region 6 with(first
    | (go_at_call 56;refine HM.out.mono ?_;rintro e w' ⟨rfl,rfl⟩)
    | (go_at_call 62;refine HGo.out.mono ?_;rintro e w1 ⟨rfl,D1',hR1⟩))
  clear hb_0 hb_1 hb_2 hb_3 hb_4 hb_f hb_l;clear H_hb HM HGo;have hb1:=hR1.le.box;have hd:=hR1.ca.del HT.out (by have:=HK.out;omega) HR.out;rw[HT1.out]at hd;have HD:=za hd;have HR1:=za hR1;clear hR1 hd;obtain⟨hb1_0,hb1_1,hb1_2,hb1_3,hb1_4,hb1_f,hb1_l,H_hb1⟩:=cr5 hb1;clear hb1
  go_wp2_with (go_at_call 47;refine HD.out.mono ?_;rintro e w2 ⟨rfl,hg⟩)
  obtain⟨D2,hR2⟩:=HR1.out.cago hg;refine leaves_cons (f:=37) (args:=#[lkP p]) (by simp) (by simp[go_sem]) ?_;refine hR2.drain.mono ?_;rintro e u' w' ⟨rfl,⟨v,rfl⟩,hm,hk⟩;exact⟨.tuple #[.bool was,.int .i64 0],by simp[results,results23,go_sem],rfl,hk⟩
theorem LeM.retil{tok til blk:Nat}{key:ByteArray}(h:LeM w q p m1 m2 life last [⟨tok,key,til,blk⟩] D1){til':Nat}(ht:til'≤18446744073709551615):LeM (w.setCell ⟨blk,2,none⟩ (.int .u64 til')) q p m1 m2 life last [⟨tok,key,til',blk⟩] D1:=by
 have hx:(⟨tok,key,til,blk⟩:Lt) ∈ [(⟨tok,key,til,blk⟩:Lt)]:=ya.2 rfl;have hm:Mod (fun k=>k=blk) w (w.setCell ⟨blk,2,none⟩ (.int .u64 til')):=(Mod.refl (fun k=>k=blk) w).setCell (p:=⟨blk,2,none⟩) (fun _=>rfl) _;obtain⟨D2,h2⟩:=h.keys;have e0:=h.each _ hx;obtain⟨r1,r2,r3,r4⟩:=h.rng _ hx;refine⟨hm.heap (fun e=>h.nbq hx e.symm) h.box,h.lent.mod hm (fun e=>h.nb1 hx e.symm),⟨D2,h2.mod hm (fun e=>h.nb2 hx e.symm)⟩,fun y hy => ?_,h.ne,fun y hy z hz _ => ?_,fun y hy z hz _ => ?_,yS.2 ⟨List.not_mem_nil,kQ⟩,fun y hy => ?_,h.len,h.last,h.life⟩
 ·rw[ya.1 hy];exact zV w blk 2 _ _ (.int .u64 til') e0
 ·rw[ya.1 hy,ya.1 hz]
 ·rw[ya.1 hy,ya.1 hz]
 ·rw[ya.1 hy];exact⟨r1,r2,r3,ht⟩
end
theorem zjI(a:Option Addr)(c:Nat)(f:Fn)(x y:Array Value)(w:World):Calls prog 160 #[.slice a 1 c,.int .i64 0,.int .i64 1,.func f x y] w fun e w'=>e=.returned (.tuple #[])∧w=w':=by
 go_enter func160,ntmps160;go_upto_region 1 with fail
 refine wp_loop_rounds 1 ?_;rw[rounds_succ];go_wp2
 go_end0
 exact⟨rfl,rfl⟩
theorem zg5(a:Option Addr)(c:Nat)(l:Int)(f:Fn)(x y:Array Value)(w:World):Calls prog 94 #[.slice a 1 c,.int .i64 0,.int .i64 1,.int .i64 l,.func f x y] w fun e w'=>e=.returned (.tuple #[])∧w=w':=by
 have HI:=za (zjI a c f x y w);go_enter func94,ntmps94;go_upto_region 2 with fail
 refine wp_loop_rounds 1 ?_;rw[rounds_succ]
 go_wp2_with (go_at_call 160;refine HI.out.mono ?_;rintro e w' ⟨rfl,rfl⟩)
 exact zO (results_none rfl _ _ _) rfl ⟨rfl,rfl⟩
theorem zlc(a:Option Addr)(c:Nat)(f:Fn)(x y:Array Value)(w:World):Calls prog 63 #[.slice a 1 c,.func f x y] w fun e w'=>e=.returned (.tuple #[])∧w=w':=by
  have HL:=za (fun W=>Q5 1 (by decide) W);have HP:=za (fun l W=>zg5 a c l f x y W);go_enter func63,ntmps63
  go_wp2_with (first
    | (go_at_call 88;refine(HL.out _).mono ?_;rintro e w' ⟨rfl,rfl⟩)
    | (go_at_call 94;refine(HP.out _ _).mono ?_;rintro e w' ⟨rfl,rfl⟩))
  go_end0
  exact⟨rfl,rfl⟩
section
variable{w w' w1 w2 w0:World}{q p m1 m2 life last:Nat}{X X' X1:List Lt}{D1 D1' D2:DataW Unit}{S D0:Nat→Prop}{t t' t1 t2:Bst}
theorem zeQ(h:LeP w0 q p m1 m2 life last X t w){tt xt xl xb:Nat}{xk:ByteArray}(ht:tt≤18446744073709551615)(hr:xP t=0)(ht1:uL t tt=t1)(hn:t1.now≤18446744073709551615)(hX:xB X t1.now=[⟨xt,xk,xl,xb⟩]) :
    Calls prog 24 #[lkP q,.int .u64 tt,.int .i64 xt] w fun e w'=>e=.returned (.int .i64 0)∧LeP w0 q p m1 m2 life last [⟨xt,xk,xe t1.now life,xb⟩] t1 w':=by
  obtain⟨D0,D1,h⟩:=h;have HN:=za (Yb h.le);have HA:=za (h.adv ht hr ht1);have hb:=h.le.box;have HX:=za hX;have HNow:=za hn;clear h ht hr ht1 hX hn;obtain⟨hb_0,hb_1,hb_2,hb_3,hb_4,hb_f,hb_l,H_hb⟩:=cr5 hb;clear hb;go_enter func24,ntmps24;go_upto_region 4 with(first
    | (go_at_call 59;refine HN.out.mono ?_;rintro e w' ⟨rfl,rfl⟩)
    | (go_at_call 45;refine HA.out.mono ?_;rintro e w1 ⟨rfl,⟨D0',hR1⟩,hk1⟩))
  clear hb_0 hb_1 hb_2 hb_3 hb_4 hb_f hb_l;clear H_hb HA HN;have HG:=za (hR1.good_hit HX.out (x:=⟨xt,xk,xl,xb⟩) (ya.2 rfl));clear hR1 hk1;go_upto_region 5 with(go_at_call 60;refine HG.out.mono ?_;rintro e w2 ⟨rfl,⟨D1',hR2⟩,hk2⟩)
  have HU:=za (za0 hR2 HNow.out);have HR2:=za hR2;clear hR2 hk2 HG;go_upto_region 7 with fail
  have hstep : ∀ w3,zb w2 w3→w3.heap[xb]? = some (.cells (ltC ⟨xt,xk,xl,xb⟩) 114 (0,0)):=fun w3 hp=>(HR2.out.pure hp).le.each _ (ya.2 rfl)
  have HSt:=za hstep;clear hstep
  go_wp2_with (go_at_call 58;refine HU.out.mono ?_;rintro e w3 ⟨rfl,hp3⟩;have hxb:=HSt.out w3 hp3;unfold ltC at hxb;dsimp only at hxb;have HXB:=za hxb;obtain⟨hx_0,hx_1,hx_2,hx_f,hx_l,H_hx⟩:=cr3 hxb)
  go_ret;have hR3:=HR2.out.pure hp3;have hm:Mod (fun k=>k=xb) w3 (w3.setCell ⟨xb,2,none⟩ (.int .u64 (xe t1.now life:Nat))):=(Mod.refl (fun k=>k=xb) w3).setCell (p:=⟨xb,2,none⟩) (fun _=>rfl) _;have hin:LeD q m1 m2 [(⟨xt,xk,xl,xb⟩:Lt)] xb := .inr (.inr (.inr ⟨_,ya.2 rfl,rfl⟩));refine⟨rfl,D0',D1',hR3.to hm (hR3.le.retil (JI _ _)) (fun k hk e=>hR3.ap k hk (e ▸ hin)) (fun k _ e=>hR3.le.nob (e ▸ hin)) (fun k e=>hR3.ge k (e ▸ hin)) (fun k hk => .inl ?_)⟩;rcases hk with e | e | e | ⟨y,hy,e⟩
  · exact .inl e
  · exact .inr (.inl e)
  · exact .inr (.inr (.inl e))
  · rw[ya.1 hy]at e
    exact .inr (.inr (.inr ⟨_,ya.2 rfl,e⟩))
end
theorem zi9(w:World)(hT:xu w){c0 b0 s0 life:Nat}(hc:(⟨c0,b0,0,s0,false⟩:Cfg).ok)(hs:s0<18446744073709551616)(hl:0<life∧life≤1099511627776) :
  Calls prog 19 #[.agg #[.int .i64 c0,.int .i64 b0,.int .i64 0,.int .u64 s0,.bool false],.int .u64 life] w fun e w' => ∃ q p m1 m2,e=.returned (.tuple #[lkP q,.int .i64 0])∧LeP w q p m1 m2 life 0 [] (XS ⟨c0,b0,0,s0,false⟩) w':=by
 have hal:zb w (w.alloc (.cells #[.int .i64 c0,.int .i64 b0,.int .i64 0,.int .u64 s0,.bool false] 29)):=(Mod.refl _ w).alloc _;have z:=zi (w:=w) (o := .cells #[.int .i64 c0,.int .i64 b0,.int .i64 0,.int .u64 s0,.bool false] 29 (0,0)) rfl;have HN:=za (zfp (Fo:=NoF) hc hs _ (hT.pure hal) (fun k hk=>hk.elim));have HP:=za hal;have HPos:=za hT.lt;have HL:=za hl;have l1 : ¬ (life:Int)<1:=by omega
 have l2 : ¬ (life:Int)>1099511627776:=by omega
 have hmm := @run_makeMap prog;clear hal hT hc hs;dsimp only[Cfg.v]at HN;go_enter func19,ntmps19;go_upto_region 1 with fail
 generalize w.alloc (.cells #[.int .i64 c0,.int .i64 b0,.int .i64 0,.int .u64 s0,.bool false] 29)=W1 at *;generalize w.heap.size=r at z ⊢;obtain⟨z_0,z_1,z_2,z_3,z_4,z_f,z_l,H_z⟩:=cr5 z;clear z
 go_wp2_with (go_at_call 31;refine HN.out.mono ?_;rintro e w1 ⟨p,D0,rfl,hC,hp1,hD⟩)
 have a1:zb w1 (w1.alloc (.map #[] 0)):=(Mod.refl _ w1).alloc _;have a2:zb (w1.alloc (.map #[] 0)) ((w1.alloc (.map #[] 0)).alloc (.map #[] 0)):=(Mod.refl _ _).alloc _;have hs1:(w1.alloc (.map #[] 0)).heap.size=w1.heap.size+1:=by simp
 have hs2:((w1.alloc (.map #[] 0)).alloc (.map #[] 0)).heap.size=w1.heap.size+2:=by simp
 have t1:=xc.new yC 9 w1;have t2:=xc.new Zd 3 (w1.alloc (.map #[] 0));rw[hs1]at t2;have a3:zb ((w1.alloc (.map #[] 0)).alloc (.map #[] 0)) (((w1.alloc (.map #[] 0)).alloc (.map #[] 0)).alloc (.cells (leC p life w1.heap.size (w1.heap.size+1) 0) 74)):=(Mod.refl _ _).alloc _;have hlt:=fun k (hk:D0 k)=>hC.lt hk
 have hsz:=hp1.size;have hsz0:=HP.out.size;have hfin:LeR w D0 (w1.heap.size+2) p w1.heap.size (w1.heap.size+1) life 0 [] (.map []) (XS ⟨c0,b0,0,s0,false⟩) (((w1.alloc (.map #[] 0)).alloc (.map #[] 0)).alloc (.cells (leC p life w1.heap.size (w1.heap.size+1) 0) 74)):=by
  have hle : ∀ k,LeD (w1.heap.size+2) w1.heap.size (w1.heap.size+1) [] k→w1.heap.size≤k:=fun k hk=>by
   rcases hk with e | e | e | ⟨y,hy,_⟩
   ·omega
   ·omega
   ·omega
   ·cases hy
  exact⟨((hC.pure a1).pure a2).pure a3,⟨zi hs2.symm,(t1.mod a2 (fun h=>h)).mod a3 (fun h=>h),⟨_,t2.mod a3 (fun h=>h)⟩,fun x hx=>(by cases hx),by omega,fun x hx=>(by cases hx),fun x hx=>(by cases hx),kQ,fun x hx=>(by cases hx),yj _,yj _,HL.out⟩,fun k hk e=>(by have:=hlt k hk;have:=hle k e;omega),fun k hk=>zF hsz0 (hD k hk),fun k hk=>(by have:=hle k hk;omega),((HP.out.trans hp1).trans a1).trans (a2.trans a3),HPos.out⟩
 go_ret2;exact⟨w1.heap.size+2,p,w1.heap.size,w1.heap.size+1,rfl,D0,_,hfin⟩
theorem zfD:(prog.info? 114).map (fun i=>(i.zero,i.size,i.bytes))=some (some (.agg #[.int .i64 0,.string ⟨#[]⟩,.int .u64 0]),3,32):=by kernel_rfl
def ltR(xt:Nat)(xk:ByteArray)(xl:Nat):List Value:=[.int .i64 xt,.string xk,.int .u64 xl]
section
variable{w w' w1 w2 w0:World}{q p m1 m2 life last:Nat}{X X' X1:List Lt}{D1 D1' D2:DataW Unit}{S D0:Nat→Prop}{t t' t1 t2:Bst}
theorem zdX(h:LeP w0 q p m1 m2 life last X t w){xt xl xb:Nat}{xk:ByteArray}(hX:xB X t.now=[⟨xt,xk,xl,xb⟩]) :
    Calls prog 26 #[lkP q] w fun e w' => ∃ a c,e=.returned (.slice a 1 c)∧w'.ownsRow 0 114 3 (.slice a 1 c) 1 (ltR xt xk xl)∧zb w0 w':=by
  obtain⟨D0,D1,h⟩:=h;have HN:=za (Yb h.le);have hT:=h.tidy;rw[hX]at hT;have HT:=za hT;have HPU:=za h.po;clear h hX hT;go_enter func26,ntmps26;go_upto_region 5 with(first
    | (go_at_call 59;refine HN.out.mono ?_;rintro e w' ⟨rfl,rfl⟩)
    | (go_at_call 57;refine HT.out.mono ?_;rintro e w2 ⟨rfl,⟨D1',hR⟩,_⟩))
  have hb:=hR.le.box;have hown:=hR.le.lent.own;have hh:=hR.le.lent.has_mem (x:=(yz xk,some xb)) (zy.2 ⟨⟨xt,xk,xl,xb⟩,ya.2 rfl,rfl⟩);have HR:=za hR;have HH:=za hh;clear hR HN HT hh;have e1:(jc [(⟨xt,xk,xl,xb⟩:Lt)]).length=1:=rfl;rw[e1]at hown;obtain⟨hb_0,hb_1,hb_2,hb_3,hb_4,hb_f,hb_l,H_hb⟩:=cr5 hb;clear hb;go_upto_region 6 with(at_range;refine wpList_range_own _ rfl _ 71 rfl 9 116 vL underlying71 yC.R m1 1 D1' rfl hown ?_;intro w3 hrg hgr hsz;go_frame)
  have hp3:zb w2 w3:=Mod.of_grown hgr (fun i e _=>by cases e);obtain⟨r,hr⟩:=zc w2.heap.size;rw[hr]at hrg ⊢;have hrl : ∀ k,LeD q m1 m2 [(⟨xt,xk,xl,xb⟩:Lt)] k→k<r:=fun k hk=>by rw[← hr];exact HR.out.le.lt hk
  have HRG:=za hrg;have HP3:=za (HR.out.pu.trans hp3);have HLE:=za (HR.out.le.mod hp3 (fun _ _ e=>e));have HRL:=za hrl;have hw0:w0.heap.size≤r:=by rw[← hr];exact HR.out.pu.size
  have HW0:=za hw0;clear hb_0 hb_1 hb_2 hb_3 hb_4 hb_f hb_l;clear H_hb hrg hgr hsz hp3 hr hrl hown hw0 e1;obtain⟨j0,hj,jz0,jz1,jz2⟩:=xD zfD;go_loopw [3] (fun v3 wr => ∃(left:Lit→Bool) (cnt:Nat),wr.ranges prog 9 yC.R m1 r 1 D1' left cnt∧zb w0 wr∧LeM wr q p m1 m2 life last [⟨xt,xk,xl,xb⟩] D1'∧((v3=.slice none 0 0∧left (yz xk)=true) ∨ ∃ a c,v3=.slice a 1 c∧wr.ownsRow 0 114 3 (.slice a 1 c) 1 (ltR xt xk xl)∧(∀ g,(Value.slice a 1 c).ownBlock=some g→g≠r)∧left (yz xk)=false)) (fun _ wr=>wr.rangeLeft m1 r)
  case atStart=>exact⟨_,_,HRG.out,HP3.out,HLE.out,.inl ⟨rfl,HH.out⟩⟩
  case round =>
    clear HRG HP3 HLE;obtain⟨left,cnt,hrg,hp,hL,hcase⟩:=hrel;have HRg:=za hrg;have HPp:=za hp;have HL:=za hL;clear hp hL;rcases hcase with⟨rfl,hl⟩ | ⟨a,c,rfl,hrow,hoff,hl⟩
    · go_wp2_with (first
        | (at_next;refine wpList_next_ranges (α:=ByteArray) (β:=Option Nat) _ rfl _ rfl 9 vL yC.R Value.string yC.V (fun key kl hk=>by obtain⟨s,e,_⟩:=VR hk;exact⟨s,e⟩) (fun v y hv=>by obtain⟨c,e,_⟩:=yC.inv _ _ hv;exact⟨c,e⟩) m1 r 1 _ _ _ rfl hrg ?_ ?_)
        | go_in)
      · intro _ hl0
        rw[hl0]at hl
        cases hl
      · intro s cc kl y1 y2 wa cnt1 hk hleft hv hat hrga hcl hga hsa hen
        obtain⟨z,hz,rfl,rfl,rfl⟩:=HL.out.came (y:=(y1,y2)) hk hv hat;rw[ya.1 hz]at hen hrga hleft ⊢;dsimp only at hen hrga hleft ⊢;have hma:Mod (fun k=>k=r) wr wa:=Mod.of_grown hga (fun k e _=>by cases e;rfl);have hLa:=HL.out.mod hma (fun k hk e=>by have:=HRL.out k hk;omega);have hpa:zb w0 wa:=HPp.out.then hma (fun k hk e=>by have:=HW0.out;omega);have hxb:=hLa.each _ (ya.2 rfl);unfold ltC at hxb;dsimp only at hxb;have HLa:=za hLa;have HPa:=za hpa;have HRGa:=za hrga;have HCL:=za hcl;have HRLT:=za hrga.lt;clear hrg hk hv hat hga hsa hma hLa hpa hrga hcl hleft hz;simp only[yC]at hen ⊢;obtain⟨hxb_0,hxb_1,hxb_2,hxb_f,hxb_l,H_hxb⟩:=cr3 hxb;clear hxb
        go_wp2_with (first
          | (at_builtin;refine uP _ rfl _ _ 78 rfl 114 j0 _ 3 32 underlying78 hj jz0 jz1 jz2 rfl (by decide) (.slice none 0 0) 0 _ rfl (vY _ _ _ _) _ (ltR xt xk xl) 1 rfl (zq.of_block 1 1 3 (zi rfl) (by rfl) (by simp[Value.oneCell'])) rfl (by unfold maxLen;omega) (by omega) ?_;intro a8 c8 w6 hr8 hg8 hb8)
          | go_in)
        have hm6:Mod (fun k=>(Value.slice none 0 0).ownBlock=some k) wa w6:=((Mod.refl _ wa).alloc _).then (Mod.of_grown (S:=fun k'=>(Value.slice none 0 0).ownBlock=some k') hg8 (fun k e _=>e)) (fun _ _ h=>h);have hp6:zb wa w6:=hm6.mono (fun k _ e=>by cases e);go_roundw
        case rel=>exact⟨_,cnt1,zbc HRGa.out hp6 (fun e=>e) (fun e=>e),HPa.out.trans hp6,HLa.out.mod hp6 (fun _ _ e=>e),.inr ⟨a8,c8,rfl,hr8,fun g hg=>(by
          rcases hb8 with e | e
          · rw[e]at hg;cases hg
          · rw[e]at hg
            cases hg
            have:=HRLT.out;simp;omega),by simp[WideAt.sameKey_self (Uq xk)]⟩⟩
        case measure=>rw[(zbc HRGa.out hp6 (fun e=>e) (fun e=>e)).left_eq,HRg.out.left_eq];exact HCL.out
    · have HRow:=za hrow;have HOff:=za hoff
      clear hrow hoff
      go_wp2_with (first
        | (at_next;refine wpList_next_ranges (α:=ByteArray) (β:=Option Nat) _ rfl _ rfl 9 vL yC.R Value.string yC.V (fun key kl hk=>by obtain⟨s,e,_⟩:=VR hk;exact⟨s,e⟩) (fun v y hv=>by obtain⟨c,e,_⟩:=yC.inv _ _ hv;exact⟨c,e⟩) m1 r 1 _ _ _ rfl hrg ?_ ?_)
        | go_in)
      · intro _ hl0
        go_wp2_with (go_at_call 63;refine zm (zlc a c _ _ _ _) ?_;rintro e w9 ⟨rfl,rfl⟩)
        refine zO (v := .slice a 1 c) (by simp[results,results26,go_sem]) rfl ⟨a,c,rfl,HRow.out,HPp.out⟩
      · intro s cc kl y1 y2 wa cnt1 hk hleft hv hat hrga hcl hga hsa hen
        exfalso;obtain⟨z,hz,rfl,rfl,rfl⟩:=HL.out.came (y:=(y1,y2)) hk hv hat;rw[ya.1 hz]at hleft;dsimp only at hleft;rw[hl]at hleft
        cases hleft
end
def UQ(l:List UInt8):ByteArray:=⟨l.toArray⟩
section
variable{w w' w0:World}{q p m1 m2 life last:Nat}{X X1:List Lt}{t t1 t2:Bst}
theorem Kt{P:World→Prop}{pv:Value}{tt ln:Nat}{key:ByteArray}{vs:List UInt8}{kd:Int}(h:Calls prog 20 #[pv,.int .u64 tt,.string key] w fun e w' => ∃ a n c,e=.returned (.tuple #[.int .i64 kd,.slice a n c,.int .i64 ln,.int .i64 0])∧zq w' (.slice a n c) 1 (zM vs)∧P w') :
  Calls prog 55 #[pv,.int .u64 tt,.string key,.int .i64 kd,.string (UQ vs),.int .i64 ln] w fun e w'=>e=.returned (.bool true)∧P w':=by
 have H:=za h;unfold UQ;clear h;go_enter func55,ntmps55
 go_wp2_with (go_at_call 20;refine H.out.mono ?_;rintro e w1 ⟨a,n,c,rfl,hr,hP⟩;have k1:=zai vs hr)
 go_ret;exact⟨by simp,hP⟩
theorem Xi(h:LeP w0 q p m1 m2 life last X t w){tt:Nat}(ht:tt≤18446744073709551615){key:ByteArray}(hk:key.size≤1000)(hr:vZ key t=0)(hl:vo (yu t tt) key=none)(ht1:uL t tt=t1)(hn64:t1.now≤18446744073709551615)(hX:xB X t1.now=X1)(hn : ∀ x∈X1,x.key≠key)(hlen:X1.length<1000){ln:Nat}(hln:last+1=ln)(hlast:ln≤100000) :
  Calls prog 55 #[lkP q,.int .u64 tt,.string key,.int .i64 2,.string ⟨#[]⟩,.int .i64 ln] w fun e w'=>e=.returned (.bool true) ∧ ∃ b,LeP w0 q p m1 m2 life ln (⟨ln,key,xe t1.now life,b⟩::X1) (vA t1) w':=by
 refine Kt (vs:=[]) ((Va h ht hk hr hl ht1 hn64 hX hn hlen hln hlast).mono ?_);rintro e w' ⟨b,rfl,hk⟩;exact⟨none,0,0,rfl,K8 _,b,hk⟩
theorem zbY(h:LeP w0 q p m1 m2 life last X t w){tt:Nat}(ht:tt≤18446744073709551615){key:ByteArray}(hk:key.size≤1000)(hr:vZ key t=0)(hl:vo (yu t tt) key=none)(ht1:uL t tt=t1)(hX:xB X t1.now=X1){x:Lt}(hx:x∈X1)(hxk:x.key=key) :
  Calls prog 55 #[lkP q,.int .u64 tt,.string key,.int .i64 3,.string ⟨#[]⟩,.int .i64 0] w fun e w'=>e=.returned (.bool true)∧LeP w0 q p m1 m2 life last X1 (vA t1) w':=by
 refine Kt (vs:=[]) (ln:=0) ((zjH h ht hk hr hl ht1 hX hx hxk).mono ?_);rintro e w' ⟨rfl,hk⟩;exact⟨none,0,0,rfl,K8 _,hk⟩
theorem zeb(h:LeP w0 q p m1 m2 life last X t w){tt:Nat}(ht:tt≤18446744073709551615){x:CE}(hk:x.key.size≤1000)(hr:vZ x.key t=0)(hl:vo (yu t tt) x.key=some x)(ht1:vD (qr (yu t tt) x.birth x.cost) 0=t1) :
  Calls prog 55 #[lkP q,.int .u64 tt,.string x.key,.int .i64 1,.string (UQ x.val),.int .i64 0] w fun e w'=>e=.returned (.bool true)∧LeP w0 q p m1 m2 life last X (vA t1) w':=by
 refine Kt (ln:=0) ((zfn h ht hk hr hl ht1).mono ?_);rintro e w' ⟨a,n,c,rfl,hby,hk⟩;exact⟨a,n,c,rfl,yw.read hby (Zg _),hk⟩
theorem zcg{cs:Array Value}{fz:Nat × Nat}{vs:List UInt8}{m:Nat}(hc:cs.toList=zM vs)(hm:vs.length=m)(W:World):zq (W.alloc (.cells cs 5 fz)) (.slice (some ⟨W.heap.size,0,none⟩) m m) 1 (zM vs):=by
 rw[← hc];exact zq.of_block m m 1 (zi rfl) (by rw[hc,kD,hm,ji]) (by rw[hc];exact Zg vs)
theorem zbk{cs:Array Value}{fz:Nat × Nat}{n:Nat}(W:World):kX (W.alloc (.cells cs 5 fz)) (.slice (some ⟨W.heap.size,0,none⟩) n n):=fun g hg=>by
 unfold vQ at hg;dsimp only at hg;split at hg
 ·cases hg
 ·cases hg;exact⟨cs,fz,zi rfl⟩
theorem UR(h:LeP w0 q p m1 m2 life last X t w){tt ttl tok m:Nat}{cs:Array Value}{fz:Nat × Nat}(hn:m≤65536)(ht:tt≤18446744073709551615)(hr:xP t=0)(ht1:uL t tt=t1)(hX:xB X t1.now=X1)(htk:tok≤9223372036854775807)(hnt : ∀ x∈X1,x.tok≠tok)(he : ∀ x∈X1,x.key≠⟨#[]⟩) :
  Calls prog 21 #[lkP q,.int .u64 tt,.int .i64 tok,.slice (some ⟨w.heap.size,0,none⟩) m m,.int .u64 ttl] (w.alloc (.cells cs 5 fz)) fun e w'=>e=.returned (.int .i64 9)∧LeP w0 q p m1 m2 life last X1 t1 w' :=
 zfX (h.pure ((Mod.refl _ w).alloc _)) hn ht hr ht1 hX htk hnt he
theorem zbh(h:LeP w0 q p m1 m2 life last X t w){tt ttl m:Nat}{cs:Array Value}{fz:Nat × Nat}{vs:List UInt8}(hc:cs.toList=zM vs)(hm:vs.length=m)(hn:m≤65536)(ht:tt≤18446744073709551615)(hr:xP t=0)(ht1:uL t tt=t1)(hX:xB X t1.now=X1){xt xl xb:Nat}{xk:ByteArray}(hx:(⟨xt,xk,xl,xb⟩:Lt)∈X1)(hok:j5 t1 xk m ttl=true)(he:vr t1 xk.size m=0)(ht2:kE t1 tt xk vs (dlT ttl)=t2) :
  Calls prog 21 #[lkP q,.int .u64 tt,.int .i64 xt,.slice (some ⟨w.heap.size,0,none⟩) m m,.int .u64 ttl] (w.alloc (.cells cs 5 fz)) fun e w'=>e=.returned (.int .i64 0)∧LeP w0 q p m1 m2 life last (jj X1 xk) (vA t2) w' :=
 zf4 (h.pure ((Mod.refl _ w).alloc _)) (zcg hc hm w) (zbk w) hn ht hr ht1 hX hx hok he ht2
end
theorem zbg(w:World)(hT:xu w){c0 b0 life:Nat}(hc:(⟨c0,b0,0,0,false⟩:Cfg).ok)(hl:0<life∧life≤1099511627776):Calls prog 19 #[.agg #[.int .i64 c0,.int .i64 b0,.int .i64 0,.int .u64 0,.bool false],.int .u64 life] w fun e w' => ∃ q p m1 m2,e=.returned (.tuple #[lkP q,.int .i64 0])∧LeP w q p m1 m2 life 0 [] (XS ⟨c0,b0,0,0,false⟩) w' :=
 zi9 w hT (s0:=0) hc (by decide) hl
end
section
open Go.RowKit Go.Shelf
def xlk:CE:=⟨⟨#[107]⟩,[118],9,1⟩
def lk0(now births:Nat):Bst:=⟨⟨5,1000,0,0,false⟩,now,births,[],[],[],[]⟩
def lk1(now:Nat):Bst:=⟨⟨5,1000,0,0,false⟩,now,1,[xlk],[⟨1,50⟩],[],[]⟩
def lk2:Bst:=⟨⟨5,1000,0,0,false⟩,9,1,[],[],[],[⟨1,xlk,9⟩]⟩
theorem zcE(w:World)(hT:xu w):Calls prog 18 #[] w fun e w'=>e=.returned (.bool true)∧zb w w':=by
  have HN:=za (zbg w hT (c0:=5) (b0:=1000) (life:=5) ⟨by decide,by decide,by decide,by decide,by decide,by decide⟩ (by decide));have hcv:=fun(W:World) (C:Array Value) (n c:Nat)=>Go.Lib.run_convert_bytes_const (P:=prog) W 32 5 C n c underlying32 underlying5
  clear hT;have T1:True:=trivial;have T2:True:=trivial;have T3:True:=trivial;have T4:True:=trivial;have T5:True:=trivial;have T6:True:=trivial;have T7:True:=trivial;have T8:True:=trivial;have T9:True:=trivial;have T10:True:=trivial;have T11:True:=trivial;have T12:True:=trivial;have T13:True:=trivial;have T14:True:=trivial;go_enter func18,ntmps18;go_upto_region 2 with(go_at_call 19;refine HN.out.mono ?_;rintro e w1 ⟨q,p,m1,m2,rfl,hk⟩;have HK:Hid (LeP w q p m1 m2 5 0 [] (XS ⟨5,1000,0,0,false⟩) w1):=za hk;clear hk)
  go_upto_region 4 with(first
    | (go_at_call 55;clear T1;refine zm (Xi HK.out (tt:=0) (t1:=(lk0 0 0)) (X1:=[]) (by decide) (by decide) (by kernel_rfl) (by kernel_rfl) (by kernel_rfl) (by decide) (by kernel_rfl) (fun x hx=>by cases hx) (by decide) (ln:=1) rfl (by decide)) ?_;rintro e w' ⟨rfl,b1,hk⟩;replace HK:Hid (LeP w q p m1 m2 5 1 [⟨1,⟨#[107]⟩,5,b1⟩] (lk0 0 0) w'):=za hk;clear hk)
    | (go_at_call 55;clear T2;refine zm (zbY HK.out (tt:=4) (t1:=(lk0 4 0)) (X1:=[⟨1,⟨#[107]⟩,5,b1⟩]) (x:=⟨1,⟨#[107]⟩,5,b1⟩) (by decide) (by decide) (by kernel_rfl) (by kernel_rfl) (by kernel_rfl) (by kernel_rfl) (ya.2 rfl) rfl) ?_;rintro e w' ⟨rfl,hk⟩;replace HK:Hid (LeP w q p m1 m2 5 1 [⟨1,⟨#[107]⟩,5,b1⟩] (lk0 4 0) w'):=za hk;clear hk)
    | (go_at_call 55;clear T3;refine zm (Xi HK.out (tt:=5) (t1:=(lk0 5 0)) (X1:=[]) (by decide) (by decide) (by kernel_rfl) (by kernel_rfl) (by kernel_rfl) (by decide) (by kernel_rfl) (fun x hx=>by cases hx) (by decide) (ln:=2) rfl (by decide)) ?_;rintro e w' ⟨rfl,b2,hk⟩;replace HK:Hid (LeP w q p m1 m2 5 2 [⟨2,⟨#[107]⟩,10,b2⟩] (lk0 5 0) w'):=za hk;clear hk)
    | (go_at_call 21;clear T4;refine zm (UR HK.out (tt:=6) (ttl:=0) (tok:=1) (m:=3) (t1:=(lk0 6 0)) (X1:=[⟨2,⟨#[107]⟩,10,b2⟩]) (by decide) (by decide) (by kernel_rfl) (by kernel_rfl) (by kernel_rfl) (by decide) (fun x hx=>by rw[ya.1 hx];exact(show(2:Nat)≠1 by decide)) (fun x hx=>by rw[ya.1 hx];exact fun c=>absurd (congrArg ByteArray.size c) (show ¬ (⟨#[107]⟩:ByteArray).size=(⟨#[]⟩:ByteArray).size by decide))) ?_;rintro e w' ⟨rfl,hk⟩;replace HK:Hid (LeP w q p m1 m2 5 2 [⟨2,⟨#[107]⟩,10,b2⟩] (lk0 6 0) w'):=za hk;clear hk)
    | (go_at_call 21;clear T5;refine zm (zbh HK.out (tt:=6) (ttl:=3) (m:=1) (cs:=#[.int .u8 118]) (vs:=[118]) (t1:=(lk0 6 0)) (t2:=lk1 6) (X1:=[⟨2,⟨#[107]⟩,10,b2⟩]) rfl rfl (by decide) (by decide) (by kernel_rfl) (by kernel_rfl) (by kernel_rfl) (xt:=2) (xl:=10) (xb:=b2) (xk:=⟨#[107]⟩) (ya.2 rfl) (by kernel_rfl) (by kernel_rfl) (by kernel_rfl)) ?_;rintro e w' ⟨rfl,hk⟩;replace HK:Hid (LeP w q p m1 m2 5 2 [] (lk1 6) w'):=za hk;clear hk)
    | (go_at_call 55;clear T6;refine zm (zeb HK.out (tt:=8) (x:=xlk) (t1:=lk1 8) (by decide) (by decide) (by kernel_rfl) (by kernel_rfl) (by kernel_rfl)) ?_;rintro e w' ⟨rfl,hk⟩;replace HK:Hid (LeP w q p m1 m2 5 2 [] (lk1 8) w'):=za hk;clear hk))
  go_upto_region 6 with(first
    | (go_at_call 55;clear T7;refine zm (Xi HK.out (tt:=9) (t1:=lk2) (X1:=[]) (by decide) (by decide) (by kernel_rfl) (by kernel_rfl) (by kernel_rfl) (by decide) (by kernel_rfl) (fun x hx=>by cases hx) (by decide) (ln:=3) rfl (by decide)) ?_;rintro e w' ⟨rfl,b3,hk⟩;replace HK:Hid (LeP w q p m1 m2 5 3 [⟨3,⟨#[107]⟩,14,b3⟩] (lk0 9 1) w'):=za hk;clear hk))
  go_upto_region 7 with(first
    | (go_at_call 23;clear T8;refine zm (zgs HK.out (tt:=9) (key:=⟨#[107]⟩) (was:=false) (t1:=(lk0 9 1)) (by decide) (by decide) (by kernel_rfl) (by kernel_rfl)) ?_;rintro e w' ⟨rfl,hk⟩;replace HK:Hid (LeP w q p m1 m2 5 3 [] (lk0 9 1) w'):=za hk;clear hk))
  go_upto_region 9 with(first
    | (go_at_call 21;clear T9;refine zm (UR HK.out (tt:=9) (ttl:=0) (tok:=3) (m:=3) (t1:=(lk0 9 1)) (X1:=[]) (by decide) (by decide) (by kernel_rfl) (by kernel_rfl) (by kernel_rfl) (by decide) (fun x hx=>by cases hx) (fun x hx=>by cases hx)) ?_;rintro e w' ⟨rfl,hk⟩;replace HK:Hid (LeP w q p m1 m2 5 3 [] (lk0 9 1) w'):=za hk;clear hk)
    | (go_at_call 55;clear T10;refine zm (Xi HK.out (tt:=9) (t1:=(lk0 9 1)) (X1:=[]) (by decide) (by decide) (by kernel_rfl) (by kernel_rfl) (by kernel_rfl) (by decide) (by kernel_rfl) (fun x hx=>by cases hx) (by decide) (ln:=4) rfl (by decide)) ?_;rintro e w' ⟨rfl,b4,hk⟩;replace HK:Hid (LeP w q p m1 m2 5 4 [⟨4,⟨#[107]⟩,14,b4⟩] (lk0 9 1) w'):=za hk;clear hk))
  go_upto_region 11 with(first
    | (go_at_call 24;clear T11;refine zm (zeQ HK.out (tt:=13) (t1:=(lk0 13 1)) (xt:=4) (xk:=⟨#[107]⟩) (xl:=14) (xb:=b4) (by decide) (by kernel_rfl) (by kernel_rfl) (by decide) (by kernel_rfl)) ?_;rintro e w' ⟨rfl,hk⟩;replace HK:Hid (LeP w q p m1 m2 5 4 [⟨4,⟨#[107]⟩,18,b4⟩] (lk0 13 1) w'):=za hk;clear hk)
    | (go_at_call 55;clear T12;refine zm (zbY HK.out (tt:=17) (t1:=(lk0 17 1)) (X1:=[⟨4,⟨#[107]⟩,18,b4⟩]) (x:=⟨4,⟨#[107]⟩,18,b4⟩) (by decide) (by decide) (by kernel_rfl) (by kernel_rfl) (by kernel_rfl) (by kernel_rfl) (ya.2 rfl) rfl) ?_;rintro e w' ⟨rfl,hk⟩;replace HK:Hid (LeP w q p m1 m2 5 4 [⟨4,⟨#[107]⟩,18,b4⟩] (lk0 17 1) w'):=za hk;clear hk)
    | (go_at_call 25;clear T13;refine zm (zis HK.out (X1:=[⟨4,⟨#[107]⟩,18,b4⟩]) (xt:=4) (xk:=⟨#[107]⟩) (xl:=18) (xb:=b4) (by kernel_rfl) (ya.2 rfl)) ?_;rintro e w' ⟨rfl,hk⟩;replace HK:Hid (LeP w q p m1 m2 5 4 [] (lk0 17 1) w'):=za hk;clear hk)
    | (go_at_call 55;clear T14;refine zm (Xi HK.out (tt:=17) (t1:=(lk0 17 1)) (X1:=[]) (by decide) (by decide) (by kernel_rfl) (by kernel_rfl) (by kernel_rfl) (by decide) (by kernel_rfl) (fun x hx=>by cases hx) (by decide) (ln:=5) rfl (by decide)) ?_;rintro e w' ⟨rfl,b5,hk⟩;replace HK:Hid (LeP w q p m1 m2 5 5 [⟨5,⟨#[107]⟩,22,b5⟩] (lk0 17 1) w'):=za hk;clear hk))
  go_upto_region 12 with(go_at_call 26;refine zm (zdX HK.out (xt:=5) (xk:=⟨#[107]⟩) (xl:=22) (xb:=b5) (by kernel_rfl)) ?_;rintro e w9 ⟨a,c,rfl,hrow,hp⟩)
  obtain⟨g,c',e',_,_,hc,_⟩:=ki hrow (by decide)
  cases e'
  have s0:=hc 0 _ rfl;have s1:=hc 1 _ rfl;have s2:=hc 2 _ rfl;go_wp2;go_ret;exact⟨by simp,hp⟩
def kfB(i:Nat):ByteArray:=⟨#[107,UInt8.ofNat (48+i/1000),UInt8.ofNat (48+i/100%10),UInt8.ofNat (48+i/10%10),UInt8.ofNat (48+i%10)]⟩
def qL:ByteArray:=⟨#[108,97,115,116]⟩
theorem Vu{a b:Nat}(ha:a<256)(hb:b<256)(h:UInt8.ofNat a=UInt8.ofNat b):a=b:=by
 have:=congrArg UInt8.toNat h;rw[UInt8.toNat_ofNat',UInt8.toNat_ofNat']at this;omega
theorem zfq{i j:Nat}(hi:i<2000)(hj:j<2000)(h:kfB i=kfB j):i=j:=by
 unfold kfB at h;injection h with h
 have h:=congrArg Array.toList h;simp only[List.cons.injEq,and_true,true_and]at h;obtain⟨h1,h2,h3,h4⟩:=h;have:=Vu (by omega) (by omega) h1;have:=Vu (by omega) (by omega) h2;have:=Vu (by omega) (by omega) h3;have:=Vu (by omega) (by omega) h4;omega
structure FX(i:Nat)(X:List Lt):Prop where
 len:X.length=i
 each : ∀ x∈X,0<x.tok∧x.tok≤i∧x.key=kfB (x.tok-1)∧x.til=10
 one:0<i → ∃ b,(⟨1,kfB 0,10,b⟩:Lt)∈X
theorem FX.zero:FX 0 []:=⟨rfl,fun x hx=>(by cases hx),fun h=>(by omega)⟩
section
variable{i j:Nat}{X:List Lt}
theorem FX.add(h:FX i X)(b:Nat):FX (i+1) (⟨i+1,kfB i,10,b⟩::X):=by
 refine⟨by rw[jb,h.len],fun x hx => ?_,fun _ => ?_⟩
 ·rcases zW.1 hx with rfl | hx
  ·exact⟨by dsimp only;omega,zH _,by dsimp only;rw[Nat.add_sub_cancel],rfl⟩
  ·obtain⟨h1,h2,h3⟩:=h.each x hx;exact⟨h1,by omega,h3⟩
 ·by_cases e:i=0
  ·subst e;exact⟨b,zW.2 (.inl rfl)⟩
  ·obtain⟨b',hb⟩:=h.one (by omega);exact⟨b',zW.2 (.inr hb)⟩
theorem FX.stay(h:FX i X){now:Nat}(hn:now<10):xB X now=X:=by
 unfold xB;rw[kw];intro x hx;rw[(h.each x hx).2.2.2];have:vp 10 now=false:=by unfold vp;simp;omega
 rw[this];rfl
theorem FX.over(h:FX i X):xB X 10=[]:=by
 unfold xB;rw[Z7];intro x hx;rw[(h.each x hx).2.2.2];decide
theorem FX.key(h:FX i X)(hj:i≤j)(hl:j<2000) : ∀ x∈X,x.key≠kfB j:=fun x hx e=>by
 obtain⟨h1,h2,h3,_⟩:=h.each x hx;rw[h3]at e;have:=zfq (by omega) hl e;omega
theorem FX.size(h:FX i X){k:ByteArray}(hk:k.size≠5) : ∀ x∈X,x.key≠k:=fun x hx e=>by
 obtain⟨_,_,h3,_⟩:=h.each x hx;rw[← e,h3]at hk;exact hk rfl
end
def zcC:Cfg:=⟨5,1048576,0,0,false⟩
def lf(now:Nat):Bst:=⟨zcC,now,0,[],[],[],[]⟩
def lfs(now:Nat)(vs:List UInt8):Bst:=vA (kE (lf now) now (kfB 0) vs (dlT 0))
theorem zeE{t:Bst}{tt:Nat}{key:ByteArray}{vs:List UInt8}{dl:Nat→Nat}(h:vo (yu t tt) key=none):kE t tt key vs dl=vD (Xf (yu t tt) ⟨key,vs,dl (yu t tt).now,(yu t tt).births+1⟩) ((yu t tt).births+1):=by
 unfold kE;rw[h]
section
variable{vs:List UInt8}{n:Nat}
def lfe(now:Nat)(vs:List UInt8)(c:Nat):Bst:=⟨zcC,now,1,[⟨kfB 0,vs,18446744073709551615,1⟩],[⟨1,c⟩],[],[]⟩
theorem zkh(hl:vs.length=n)(d b:Nat):CE.cost ⟨kfB 0,vs,d,b⟩=n+53:=by
 unfold CE.cost;dsimp only;rw[hl,show(kfB 0).size=5 from rfl];omega
theorem zex(hl:vs.length=n)(hn:n=65535∨n=65536):lfs 9 vs=lfe 9 vs (n+53):=by
 unfold lfs;rw[zeE (by kernel_rfl)];unfold Xf;rw[zkh hl];clear hl;rcases hn with rfl | rfl<;>kernel_rfl
theorem Azx6h {P:Prop}(h:P:=by
 rcases hn with rfl | rfl<;>exact⟨by kernel_rfl,by kernel_rfl⟩):P:=h
theorem zbR(hn:n=65535∨n=65536):j5 (lf 9) (kfB 0) n 0=true∧vr (lf 9) (kfB 0).size n=0:=by
 exact Azx6h
theorem Vb(hn:n=65535∨n=65536):j5 (lfe 9 vs (n+53)) ⟨#[107]⟩ n 0=true∧vr (lfe 9 vs (n+53)) 1 n=0:=by
 exact Azx6h
theorem zb8(hn:n=65535∨n=65536):j5 (lf 10) ⟨#[107]⟩ n 0=true∧vr (lf 10) 1 n=0:=by
 exact Azx6h
end
end
end Go.Proofs.YtdohbogbnheakaaGreatDoor
