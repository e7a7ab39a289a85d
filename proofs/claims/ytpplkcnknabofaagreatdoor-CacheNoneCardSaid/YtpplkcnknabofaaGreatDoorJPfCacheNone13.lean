/- Lemmas and contracts of functions. No condition. -/
import Derived.Test.YtpplkcnknabofaaGreatDoorJPfCacheNone10
namespace Go.Proofs.YtpplkcnknabofaaGreatDoor
open _root_.Go.Proofs.Tryz
set_option maxRecDepth 100000
set_option maxHeartbeats 20000000
set_option linter.all false
section
open Go.RowKit Go.Shelf
variable{Fo:Nat→Prop}
section
variable{w:World}{d q p:Nat}{sv:Value}{Dl:Nat→Prop}{seed:Nat}{same:Bool}{L:List (Option Ent)}{Gs:List Grp}
def Jl(w:World)(x:Nat × Bool)(e:Ending)(w':World):Prop :=
 e=.returned (.tuple #[.agg #[.int .i64 (x.1:Nat),.bool x.2],.int .i64 0])∧zb w w'
theorem zaH(h:zZ Fo w d q p sv Dl seed same L Gs){x:Nat × Bool}(hx:jF Gs.length (zE Gs) (ye Gs)=some x):Calls prog 210 #[yY d] w (Jl w x):=by
  have hpow:=h.ix.ok.pow;have hle:=J8 h.ix.ok.grp;have HX:=za h.ix;have HG:=za (fun W=>zeN hpow hle W);rw[hx]at HG;dsimp only[zdH]at HG;have hb:=h.box;have hp0:zb w (w.alloc (.cells #[.int .i64 0,.bool false] 271)):=(Mod.refl _ w).alloc _;have h2:=zi (w:=w) (o := .cells #[.int .i64 0,.bool false] 271 (0,0)) rfl;have hbb:=hp0.heap (fun h=>h) hb;have HP:=za hp0;replace HX:=za (HX.out.pure hp0);have HBX:=za hb;clear h hx hpow hle hp0 hb;obtain⟨x1,x2⟩:=x;dsimp only at HG;go_enter func210,ntmps210;go_upto_region 1 with fail
  generalize w.alloc (.cells #[.int .i64 0,.bool false] 271)=W1 at *;obtain⟨b,hbe⟩:=zc w.heap.size;rw[hbe]at h2 ⊢;have HB:=za hbe;clear hbe;have hdb:d≠b:=by have:=zl HBX.out;have:=HB.out;omega
  obtain⟨hbb_0,hbb_1,hbb_2,hbb_3,hbb_f,hbb_l,H_hbb⟩:=cr4 hbb;clear hbb;obtain⟨h2_0,h2_1,h2_f,h2_l,H_h2⟩:=cr2 h2;clear h2
  go_region_held3 (fun w'=>w'.cell? ⟨d,3,none⟩=some (.pointer (some ⟨p,0,none⟩)))
    (first | exact hbb_3 | exact hp1.cell (fun h=>h) hbb_3 | exact(Mod.set2 b 0 1 _ _).cell (fun e=>hdb e) (hp1.cell (fun h=>h) hbb_3))
    (first
      | (go_at_call 185;refine zm (UJ (HX.out.pure (by exact xb))) ?_;rintro e w1 ⟨rfl,rfl⟩)
      | (go_at_call 245;refine zm (zdl (HX.out.pure (by exact xb))) ?_;rintro e w1 ⟨rfl,rfl⟩)
      | (go_at_call 186;refine zm (JQ (HX.out.pure (by exact xb))) ?_;rintro e w1 ⟨rfl,rfl⟩)
      | (go_at_call 270;refine(HG.out _).mono ?_;rintro e w1 ⟨rfl,hp1⟩;have k0:=hp1.cell (fun h=>h) h2_0;have k1:=hp1.cell (fun h=>h) h2_1;have kf : ∀ j,w1.frozen? ⟨b,j,none⟩=false:=(fun j=>(hp1.cells.2 b j h2_l).trans (h2_f j));have kl:b<w1.heap.size:=hp1.lt h2_l))
  go_wp2;obtain⟨f1,y0,y1⟩:=jR (v0 := .int .i64 x1) (v1 := .bool x2) ((Mod.of_drew hp1).heap (fun h=>h) H_h2.out) (HP.out.trans (Mod.of_drew hp1)) (by have:=HB.out;omega) rfl;obtain⟨Y,hY⟩:=zc ((w1.setCell ⟨b,0,none⟩ (.int .i64 x1)).setCell ⟨b,1,none⟩ (.bool x2));rw[hY]at f1 y0 y1 ⊢;exact zK (v := .tuple #[.agg #[.int .i64 x1,.bool x2],.int .i64 0]) (by simp[results,results210,go_sem,y0,y1]) rfl ⟨rfl,f1⟩
theorem zil(h:zZ Fo w d q p sv Dl seed same L Gs):Uc prog 242 #[yY d] #[] (ya seed same L) (fun _=>True) (fun W=>zb w W) w :=
 ⟨enters_of func242 (by kernel_rfl) rfl,fun s W hs _ hJ=>by
  have:=(yy (n:=0)).2 (Kz (h.pure hJ) s hs);simpa using this,fun s=>Kg seed same L s,fun A B hJ hm=>hJ.then hm (fun i hi e=>by omega),Mod.refl _ _⟩
def VN(w:World)(p:Nat)(sv:Value)(p2:Nat)(sv2:Value):Prop:=(p2=p∧sv2=sv)∨(w.heap.size≤p2 ∧ ∀ k,sv2.ownBlock=some k→w.heap.size≤k)
def zkr(Fo:Nat→Prop)(w:World)(d q p:Nat)(sv:Value)(Dl:Nat→Prop)(seed:Nat)(same:Bool)(L:List (Option Ent))(Gs:List Grp)(x:Nat × Bool)(e:Ending)(w':World):Prop :=
 ∃ v p2 sv2,e=.returned v∧zZ Fo w' d q p2 sv2 Dl seed same L (doG (ya seed same L) x Gs)∧Mod (fun k=>k=d) w w'∧VN w p sv p2 sv2
theorem zZ.reindex{w w1:World}{p2:Nat}{sv2:Value}{Gs2:List Grp}(h:zZ Fo w d q p sv Dl seed same L Gs)(hp:zb w w1)(hx:yf w1 (fun k=>k=p2∨sv2.ownBlock=some k) p2 sv2 Gs2){Y:World}(hY:w1.setCell ⟨d,3,none⟩ (.pointer (some ⟨p2,0,none⟩))=Y) :
  zZ Fo Y d q p2 sv2 Dl seed same L Gs2∧Mod (fun k=>k=d) w Y:=by
 subst hY;have h1:=h.pure hp;have hm:Mod (fun k=>k=d) w1 (w1.setCell ⟨d,3,none⟩ (.pointer (some ⟨p2,0,none⟩))):=Mod.set1 _ _ _;refine⟨⟨?_,h1.log.frame hm (fun k hk e=>by subst e;exact h1.nd hk) (fun k _ e cs fz e2=>by subst e;rw[h1.box]at e2;cases e2),hx.mod hm (fun k hk e => ?_),h.sd⟩,(Mod.of_pure hp).trans hm⟩
 ·have:=vz (j:=3) (v := .pointer (some ⟨p2,0,none⟩)) h1.box;simpa using this
 ·subst e;rcases hk with e | e
  ·have h2:=hx.box;rw[← e,h1.box]at h2;cases h2
  ·obtain⟨cc,e2⟩:=yg hx.row e;rw[h1.box]at e2;cases e2
theorem zbD(h:zZ Fo w d q p sv Dl seed same L Gs)(x:Nat × Bool)(hx:x.2=true→Pow x.1∧zE Gs≤8*x.1):Calls prog 246 #[yY d,.agg #[.int .i64 (x.1:Nat),.bool x.2]] w (zkr Fo w d q p sv Dl seed same L Gs x):=by
  obtain⟨x1,x2⟩:=x;have hp0:zb w (w.alloc (.cells #[.int .i64 x1,.bool x2] 271)):=(Mod.refl _ w).alloc _;have h2:=zi (w:=w) (o := .cells #[.int .i64 x1,.bool x2] 271 (0,0)) rfl;have HM:=za h
  cases x2 with
  | false =>
    have HP:=za hp0;clear h hx hp0;go_enter func246,ntmps246;go_upto_region 1 with fail
    generalize w.alloc (.cells #[.int .i64 x1,.bool false] 271)=W1 at *;generalize w.heap.size=b at *;obtain⟨h2_0,h2_1,h2_f,h2_l,H_h2⟩:=cr2 h2;clear h2;go_wp2;refine zK (v := .tuple #[]) (by simp[results,results246,go_sem]) rfl ?_;exact⟨_,p,sv,rfl,HM.out.pure HP.out,Mod.of_pure HP.out,.inl ⟨rfl,rfl⟩⟩
  | true =>
    obtain⟨k1,k2⟩:=hx rfl;have HR:=za (fun(W:World) (hW:zb w W)=>zhF (h.pure hW).ix x1 k1 k2 (zil (h.pure hW)) (fun _ _=>trivial));have HP:=za hp0;have hb:=hp0.heap (fun h=>h) h.box;clear h hx hp0 k1 k2;go_enter func246,ntmps246;go_upto_region 1 with fail
    generalize hW1:w.alloc (.cells #[.int .i64 x1,.bool true] 271)=W1 at *;clear hW1;obtain⟨b,hbe⟩:=zc w.heap.size;rw[hbe]at h2 ⊢;have HB:=za hbe;clear hbe;obtain⟨hb_0,hb_1,hb_2,hb_3,hb_f,hb_l,H_hb⟩:=cr4 hb;clear hb;obtain⟨h2_0,h2_1,h2_f,h2_l,H_h2⟩:=cr2 h2;clear h2;go_upto_region 3 with fail
    go_region_held3 (fun w'=>w'.cell? ⟨d,3,none⟩=some (.pointer (some ⟨p,0,none⟩))∧w'.cell? ⟨b,0,none⟩=some (.int .i64 x1))
      (first | exact⟨hb_3,h2_0⟩ | exact⟨hp1.cell (fun h=>h) hb_3,hp1.cell (fun h=>h) h2_0⟩)
      (first
        | (go_at_call 295;refine(HR.out _ (by have:=HP.out;exact xb)).mono ?_;rintro e w1 ⟨p2,sv2,rfl,hix,hp1,hl2,hs2,_,_⟩;have k3:=hp1.cell (fun h=>h) hb_3;have kf : ∀ j,w1.frozen? ⟨d,j,none⟩=false:=(fun j=>(hp1.cells.2 d j hb_l).trans (hb_f j));have kl:d<w1.heap.size:=hp1.lt hb_l))
    go_wp2;have hpw:=HP.out.trans (Mod.of_drew hp1);obtain⟨g1,g2⟩:=HM.out.reindex hpw hix rfl;refine zK (v := .tuple #[]) (by simp[results,results246,go_sem]) rfl ?_;have hl:w.heap.size≤W1.heap.size:=HP.out.size;exact⟨_,p2,sv2,rfl,g1,g2,.inr ⟨zH hl hl2,fun k hk=>zH hl (hs2 k hk)⟩⟩
def zeX(Fo:Nat→Prop)(w:World)(d q p:Nat)(sv:Value)(Dl:Nat→Prop)(seed:Nat)(same:Bool)(L:List (Option Ent))(Gs2:List Grp)(e:Ending)(w':World):Prop :=
 ∃ p2 sv2,e=.returned (.int .i64 0)∧zZ Fo w' d q p2 sv2 Dl seed same L Gs2∧Mod (fun k=>k=d∨k=p∨sv.ownBlock=some k) w w'∧VN w p sv p2 sv2
theorem zfx{w w3 w4 w5:World}{Gs1 Gs2:List Grp}{p2:Nat}{sv2:Value}(h:zZ Fo w3 d q p2 sv2 Dl seed same L Gs1)(h4:zb w3 w4)(hx:yf w5 (fun k=>k=p2∨sv2.ownBlock=some k) p2 sv2 Gs2)(h5:Mod (fun k=>k=p2∨sv2.ownBlock=some k) w4 w5)
  (hm:Mod (fun k=>k=d) w w3) (hs:VN w p sv p2 sv2):zZ Fo w5 d q p2 sv2 Dl seed same L Gs2∧Mod (fun k=>k=d∨k=p∨sv.ownBlock=some k) w w5:=by
 have h1:=h.pure h4;refine⟨⟨h5.heap (fun hk => ?_) h1.box,h1.log.frame h5 (fun k hk e=>h1.nlp k hk e) (fun k _ e cs fz e2 => ?_),hx,h.sd⟩,?_⟩
 ·rcases hk with e | e
  ·exact h1.npd e.symm
  ·exact h1.nsd e
 ·rcases e with rfl | e
  ·rw[h1.ix.box]at e2;cases e2
  ·obtain⟨cc,e3⟩:=yg h1.ix.row e;rw[e3]at e2;cases e2
 ·have hm4:=hm.then h4 (fun _ _ h=>h.elim);refine Mod.trans' hm4 h5 (fun i _ e => .inl e) (fun i hi e => ?_);rcases hs with⟨rfl,rfl⟩ | ⟨g1,g2⟩
  ·exact .inr e
  ·rcases e with rfl | e
   ·omega
   ·have:=g2 _ e;omega
theorem zjR(h:zZ Fo w d q p sv Dl seed same L Gs){x:Nat × Bool}(hx:jF Gs.length (zE Gs) (ye Gs)=some x)(hp:Pow x.1)(hu:zE Gs≤8*x.1){s:Nat}(hs:s≤4294967295){Gs2:List Grp}
    (hi:vG (doG (ya seed same L) x Gs) (ya seed same L s) s=some Gs2):Calls prog 213 #[yY d,.int .u32 s] w (zeX Fo w d q p sv Dl seed same L Gs2):=by
  have HPl:=za (zaH h hx);have HDo:=za (fun(W:World) (hW:zb w W)=>zbD (h.pure hW) x (fun _=>⟨hp,hu⟩));have HH:=za h;have HI:=za hi;have hsl:=Kg seed same L s;obtain⟨hh,hhe⟩:=zc (ya seed same L s);have HS:=za (fun(W:World) (p2:Nat) (sv2:Value) (Gs1:List Grp) (hW:zZ Fo W d q p2 sv2 Dl seed same L Gs1)=>Kz hW s hs);rw[hhe]at HI hsl HS;have HHE:=za hhe;obtain⟨x1,x2⟩:=x;clear h hx hp hu hi hhe;unfold Jl at HPl;dsimp only at HPl HDo HI;go_enter func213,ntmps213;go_upto_region 2 with(go_at_call 210;refine HPl.out.mono ?_;rintro e w1 ⟨rfl,hp1⟩)
  have hpa:zb w1 (w1.alloc (.cells #[.int .i64 x1,.bool x2] 271)):=(Mod.refl _ w1).alloc _;have h5:=zi (w:=w1) (o := .cells #[.int .i64 x1,.bool x2] 271 (0,0)) rfl;have HP:=za (hp1.trans hpa);clear hp1 hpa HPl;generalize w1.alloc (.cells #[.int .i64 x1,.bool x2] 271)=W2 at *;generalize w1.heap.size=b5 at *;obtain⟨h5_0,h5_1,h5_f,h5_l,H_h5⟩:=cr2 h5;clear h5;go_upto_region 5 with(go_at_call 246;refine(HDo.out _ HP.out).mono ?_;rintro e w3 ⟨v,p2,sv2,rfl,hm3,hm,hsx⟩)
  have hsx':VN w p sv p2 sv2:=by
    have:=HP.out.size;rcases hsx with h | ⟨g1,g2⟩
    · exact .inl h
    · exact .inr ⟨by omega,fun k hk=>by have:=g2 k hk;omega⟩
  have hmw:Mod (fun k=>k=d) w w3:=(Mod.of_pure HP.out).trans hm;have HM3:=za hm3;have HMW:=za hmw;have HSX:=za hsx';have hb:=hm3.box;clear h5_0 h5_1 h5_f h5_l;clear hm3 hm hsx hsx' hmw H_h5;generalize hGd:doG (ya seed same L) (x1,x2) Gs=Gs1 at *;clear hGd;obtain⟨hb_0,hb_1,hb_2,hb_3,hb_f,hb_l,H_hb⟩:=cr4 hb;clear hb;have HIN:=za (fun(W:World) (hW:zb w3 W)=>zbF (HM3.out.ix.pure hW) hh s hsl hs)
  go_region_held3 (fun w'=>w'.cell? ⟨d,3,none⟩=some (.pointer (some ⟨p2,0,none⟩)))
    (first | exact hb_3 | exact hp1.cell (fun h=>h) hb_3 | exact hm5.cell (fun e=>e.elim (fun e=>HM3.out.npd e.symm) (fun e=>HM3.out.nsd e)) (hp1.cell (fun h=>h) hb_3))
    (first
      | (go_at_call 242;refine zm (HS.out _ p2 sv2 Gs1 (HM3.out.pure (by exact xb))) ?_;rintro e w4 ⟨rfl,hp1⟩)
      | (go_at_call 271;refine(HIN.out _ (by exact xb)).mono ?_;rintro e w5 hq;unfold YG at hq;rw[HI.out]at hq;obtain⟨rfl,hx5,hm5⟩:=hq))
  go_wp2;go_ret;obtain⟨g1,g2⟩:=zfx HM3.out (Mod.of_drew hp1) hx5 hm5 HMW.out HSX.out;exact⟨p2,sv2,rfl,g1,g2,HSX.out⟩
end
end
section
open Go.RowKit Go.Shelf
variable{Fo:Nat→Prop}
section
variable{w:World}{d q p:Nat}{sv:Value}{Dl:Nat→Prop}{seed:Nat}{same:Bool}{L:List (Option Ent)}{Gs:List Grp}
theorem zf7(h:zZ Fo w d q p sv Dl seed same L Gs){b b1:Nat}{key:ByteArray}(hb0:w.heap[b]? = some (.cells #[yY d] 76 (0,0)))(hb1:w.heap[b1]? = some (.cells #[.string key] 9 (0,0)))(s:Nat)(hs:s≤4294967295) :
    Calls prog 231 #[.int .u32 s,.pointer (some ⟨b,0,none⟩),.pointer (some ⟨b1,0,none⟩)] w fun e w'=>e=.returned (.bool (yI L s==key))∧zb w w':=by
  have HK:=za (fun W (hW:zb w W)=>zc9 (h.log.pure hW) s hs);have hb:=h.box;clear h;generalize yI L s=ks at *;obtain⟨hb_0,hb_1,hb_2,hb_3,hb_f,hb_l,H_hb⟩:=cr4 hb;clear hb;obtain⟨hb0_0,hb0_f,hb0_l,H_hb0⟩:=cr1 hb0;clear hb0;obtain⟨hb1_0,hb1_f,hb1_l,H_hb1⟩:=cr1 hb1;clear hb1;go_enter func231,ntmps231;go_upto_region 1 with fail
  go_region_held3 (fun w'=>w'.cell? ⟨d,0,none⟩=some (.pointer (some ⟨q,0,none⟩))∧w'.cell? ⟨b,0,none⟩=some (.pointer (some ⟨d,0,none⟩))∧w'.cell? ⟨b1,0,none⟩=some (.string key))
    (first | exact⟨hb_0,hb0_0,hb1_0⟩ | exact⟨hp1.cell (fun h=>h) hb_0,hp1.cell (fun h=>h) hb0_0,hp1.cell (fun h=>h) hb1_0⟩)
    (first
      | (go_at_call 232;refine(HK.out _ (by exact xb)).mono ?_;rintro e w1 ⟨rfl,hp1⟩))
  go_wp2;go_ret;exact⟨by rw[← zit];rfl,Mod.of_drew hp1⟩
def uK(L:List (Option Ent))(key:ByteArray):Nat × Nat:=match yH L key with
 | some s=>(s,0)
 | none=>(0,9)
def ZQ(w:World)(L:List (Option Ent))(key:ByteArray)(e:Ending)(w':World):Prop :=
 e=.returned (.tuple #[.int .u32 ((uK L key).1:Nat),.int .i64 ((uK L key).2:Nat)])∧zb w w'
theorem zb4(h:zZ Fo w d q p sv Dl seed same L Gs)(hk:vR seed same L Gs)(key:ByteArray)(hkey:key.size≤140737488355328):Calls prog 146 #[yY d,.string key] w (ZQ w L key):=by
  have hp0:zb w ((w.alloc (.cells #[.pointer (some ⟨d,0,none⟩)] 76)).alloc (.cells #[.string key] 9)):=((Mod.refl _ w).alloc _).alloc _;have z2:=zz (o := .cells #[.string key] 9) (zi (w:=w) (o := .cells #[.pointer (some ⟨d,0,none⟩)] 76 (0,0)) rfl);have z3:=zi (w:=w.alloc (.cells #[.pointer (some ⟨d,0,none⟩)] 76)) (o := .cells #[.string key] 9 (0,0)) (n:=w.heap.size+1) (by simp);have HP:=za hp0;have HM:=za (h.pure hp0);have HZ:=za (jZ (h.pure hp0));have HSum:=za (fun W=>zaA seed same h.sd key hkey W);have hb:=(h.pure hp0).box;have HKE:=za hk;have hsl:kp seed same key<18446744073709551616:=zaI;clear h hk hp0;go_enter func146,ntmps146;go_upto_region 1 with fail
  generalize((w.alloc (.cells #[.pointer (some ⟨d,0,none⟩)] 76)).alloc (.cells #[.string key] 9))=W1 at *;obtain⟨b,hbe⟩:=zc w.heap.size;rw[hbe]at z2 z3 ⊢;have HB:=za hbe;clear hbe;have HSame:=za (fun(W:World) (hW:zb W1 W)=>(⟨enters_of func231 (by kernel_rfl) rfl,fun pre s W' hs hJ=>by
      have:=(yy (n:=0)).2 (zf7 (HM.out.pure hJ) (hJ.heap (fun h=>h) z2) (hJ.heap (fun h=>h) z3) s hs);exact this.mono (fun e w' ⟨h1,h2⟩=>⟨h1,hJ.trans h2,xo.of_pure h2⟩),fun pre A B hJ hm=>hJ.then hm (fun i hi hs=>by have:=hs.1;have:=hW.size;omega),fun _ h=>h.elim,hW⟩ :
    ut prog 231 #[.pointer (some ⟨b,0,none⟩),.pointer (some ⟨b+1,0,none⟩)] (fun _ s=>yI L s==key) (fun _=>False) (fun _ W'=>zb W1 W') W))
  have HF:=za (fun(W:World) (hW:zb W1 W)=>zjv (HM.out.ix.pure hW) _ hsl (HSame.out W hW));obtain⟨hh,hhe⟩:=zc (kp seed same key);rw[hhe]at HF HSum hsl;have HHE:=za hhe;clear hhe HSame;obtain⟨hb_0,hb_1,hb_2,hb_3,hb_f,hb_l,H_hb⟩:=cr4 hb;clear hb;obtain⟨z2_0,z2_f,z2_l,H_z2⟩:=cr1 z2;clear z2;obtain⟨z3_0,z3_f,z3_l,H_z3⟩:=cr1 z3;clear z3;go_upto_region 3 with(go_at_call 142;refine HZ.out.mono ?_;rintro e w' ⟨rfl,rfl⟩)
  go_region_held3 (fun w'=>w'.cell? ⟨d,3,none⟩=some (.pointer (some ⟨p,0,none⟩))∧w'.cell? ⟨d,1,none⟩=some (.int .u64 seed)∧w'.cell? ⟨d,2,none⟩=some (.bool same)∧w'.cell? ⟨b,0,none⟩=some (.pointer (some ⟨d,0,none⟩))∧w'.cell? ⟨b+1,0,none⟩=some (.string key))
    (first | exact⟨hb_3,hb_1,hb_2,z2_0,z3_0⟩ | exact⟨hp1.cell (fun h=>h) hb_3,hp1.cell (fun h=>h) hb_1,hp1.cell (fun h=>h) hb_2,hp1.cell (fun h=>h) z2_0,hp1.cell (fun h=>h) z3_0⟩ | exact⟨(hp1.trans hp2).cell (fun h=>h) hb_3,(hp1.trans hp2).cell (fun h=>h) hb_1,(hp1.trans hp2).cell (fun h=>h) hb_2,(hp1.trans hp2).cell (fun h=>h) z2_0,(hp1.trans hp2).cell (fun h=>h) z3_0⟩)
    (first
      | (go_at_call 230;refine(HSum.out _).mono ?_;rintro e w1 ⟨rfl,hp1⟩)
      | (go_at_call 229;refine(HF.out _ (by exact xb)).mono ?_;rintro e w2 hq;have he:=HKE.out.find (by rw[HHE.out];exact hq);have hp2:zb w1 w2:=Mod.mono hq.1 (fun k _ ⟨_,_,_,_,hf⟩=>hf);have he2:e=.returned (.tuple #[.int .u32 ((uK L key).1:Nat),.int .i64 ((uK L key).2:Nat)]):=(by rw[he];unfold uK;cases yH L key<;>rfl);clear hq he;subst he2))
  go_wp2
  all_goals
    go_ret2;exact⟨rfl,HP.out.trans ((Mod.of_drew hp1).trans hp2)⟩
def zW(Fo:Nat→Prop)(w:World)(D:Nat→Prop)(d seed:Nat)(same:Bool)(L:List (Option Ent))(Gs:List Grp):Prop :=
 ∃ q p sv Dl,zZ Fo w d q p sv Dl seed same L Gs∧vR seed same L Gs ∧ ∀ k,D k↔jJ d Dl p sv k
section
variable{w w':World}{D S:Nat→Prop}{d seed:Nat}{same:Bool}{L:List (Option Ent)}{Gs:List Grp}
theorem zW.pure(h:zW Fo w D d seed same L Gs)(hp:zb w w'):zW Fo w' D d seed same L Gs:=by
 obtain⟨q,p,sv,Dl,h1,h2,h3⟩:=h;exact⟨q,p,sv,Dl,h1.pure hp,h2,h3⟩
theorem zW.lt(h:zW Fo w D d seed same L Gs){k:Nat}(hk:D k):k<w.heap.size:=by
 obtain⟨q,p,sv,Dl,h1,h2,h3⟩:=h;exact h1.lt ((h3 k).1 hk)
theorem zW.types(h:zW Fo w D d seed same L Gs){k:Nat}(hk:D k){cs:Array Value}{T:TypeId}{fz:Nat × Nat}(e:w.heap[k]? = some (.cells cs T fz)) :
  T=202∨T=287∨T=57∨T=325∨T=348:=by
 obtain⟨q,p,sv,Dl,h1,h2,h3⟩:=h;exact h1.types ((h3 k).1 hk) e
theorem zW.frame(h:zW Fo w D d seed same L Gs)(hm:Mod S w w')(hD : ∀ k,D k → ¬ S k)(hS : ∀ k,k<w.heap.size→S k → ∀ cs fz,w.heap[k]? ≠ some (.cells cs 5 fz)):zW Fo w' D d seed same L Gs:=by
 obtain⟨q,p,sv,Dl,h1,h2,h3⟩:=h;exact⟨q,p,sv,Dl,h1.frame hm (fun k hk=>hD k ((h3 k).2 hk)) hS,h2,h3⟩
theorem zW.flt(h:zW Fo w D d seed same L Gs) : ∀ k,Fo k→k<w.heap.size:=by
 obtain⟨q,p,sv,Dl,h1,h2,h3⟩:=h;exact h1.log.flt
theorem zW.frameF(h:zW Fo w D d seed same L Gs)(hm:Mod S w w')(hD : ∀ k,D k → ¬ S k)(hS : ∀ k,k<w.heap.size→S k→Fo k ∨ ∀ cs fz,w.heap[k]? ≠ some (.cells cs 5 fz)):zW Fo w' D d seed same L Gs:=by
 obtain⟨q,p,sv,Dl,h1,h2,h3⟩:=h;exact⟨q,p,sv,Dl,h1.frameF hm (fun k hk=>hD k ((h3 k).2 hk)) hS,h2,h3⟩
theorem zW.refo{Fo':Nat→Prop}(h:zW Fo w D d seed same L Gs)(hm:zb w w')(h1 : ∀ k,Fo' k→Fo k∨w.heap.size≤k)(h2 : ∀ k,Fo' k→k<w'.heap.size):zW Fo' w' D d seed same L Gs:=by
 obtain⟨q,p,sv,Dl,h3,h4,h5⟩:=h;exact⟨q,p,sv,Dl,h3.refo hm h1 h2,h4,h5⟩
theorem zW.sd(h:zW Fo w D d seed same L Gs):seed<18446744073709551616:=by
 obtain⟨q,p,sv,Dl,h1,h2,h3⟩:=h;exact h1.sd
theorem zW.ok(h:zW Fo w D d seed same L Gs):V0 L:=by
 obtain⟨q,p,sv,Dl,h1,h2,h3⟩:=h;exact h1.log.ok
theorem zW.keeps(h:zW Fo w D d seed same L Gs):vR seed same L Gs:=by
 obtain⟨q,p,sv,Dl,h1,h2,h3⟩:=h;exact h2
theorem VT(h:zW Fo w D d seed same L Gs)(key:ByteArray)(hkey:key.size≤140737488355328):Calls prog 146 #[yY d,.string key] w (ZQ w L key):=by
 obtain⟨q,p,sv,Dl,h1,h2,h3⟩:=h;exact zb4 h1 h2 key hkey
def zl9(Fo:Nat→Prop)(w:World)(seed:Nat)(same:Bool)(e:Ending)(w':World):Prop :=
 ∃ d D,e=.returned (yY d)∧zW Fo w' D d seed same [] (xu 1)∧zb w w' ∧ ∀ k,D k→w.heap.size≤k
theorem zmm(seed:Nat)(same:Bool)(hs:seed<18446744073709551616)(w:World)(hFo : ∀ k,Fo k→k<w.heap.size):Calls prog 137 #[.agg #[.int .u64 seed,.bool same]] w (zl9 Fo w seed same):=by
  have hp0:zb w (w.alloc (.cells #[.int .u64 seed,.bool same] 192)):=(Mod.refl _ w).alloc _;have z1:=zi (w:=w) (o := .cells #[.int .u64 seed,.bool same] 192 (0,0)) rfl;have HN:=za (fun W=>zdt 1 W ⟨0,by decide,rfl⟩);have HL:=za (fun W (hW:w.heap.size≤W.heap.size)=>zhO (Fo:=Fo) W (fun k hk=>x9 (hFo k hk) hW));have HP:=za hp0;clear hp0 hFo;go_enter func137,ntmps137;go_upto_region 1 with fail
  generalize w.alloc (.cells #[.int .u64 seed,.bool same] 192)=W1 at *;obtain⟨b,hbe⟩:=zc w.heap.size;rw[hbe]at z1 ⊢;have HB:=za hbe;clear hbe;go_upto_region 2 with(go_at_call 223;refine(HN.out _).mono ?_;rintro e w2 ⟨p,sv,rfl,hix,hp2,hl2,hs2⟩)
  have zz1:=hp2.heap (fun h=>h) z1;have HIX:=za hix;clear hix;obtain⟨zz1_0,zz1_1,zz1_f,zz1_l,H_zz1⟩:=cr2 zz1;clear zz1
  go_region_held3 (fun w'=>w'.cell? ⟨b,0,none⟩=some (.int .u64 seed)∧w'.cell? ⟨b,1,none⟩=some (.bool same))
    (first | exact⟨zz1_0,zz1_1⟩ | exact⟨hp3.cell (fun h=>h) zz1_0,hp3.cell (fun h=>h) zz1_1⟩ | exact⟨(hp3.alloc _).cell (fun h=>h) zz1_0,(hp3.alloc _).cell (fun h=>h) zz1_1⟩)
    (first
      | (go_at_call 224;refine(HL.out _ (by have h1:=HP.out.size;have h2:=hp2.size;simp at h1 h2 ⊢;omega)).mono ?_;rintro e w3 ⟨rfl,hlog,hp3,hlt3⟩;dsimp only[jj]at *))
  go_wp2;go_ret;have hp3':zb w2 w3:=Mod.of_drew hp3;have hq:=zi (w:=w3) (o := .cells #[.pointer (some ⟨w2.heap.size,0,none⟩),.int .u64 seed,.bool same,.pointer (some ⟨p,0,none⟩)] 202 (0,0)) rfl;have hpq:zb w3 (w3.alloc (.cells #[.pointer (some ⟨w2.heap.size,0,none⟩),.int .u64 seed,.bool same,.pointer (some ⟨p,0,none⟩)] 202)):=(Mod.refl _ w3).alloc _;have hw:w.heap.size≤W1.heap.size:=HP.out.size;have hw2:W1.heap.size≤w2.heap.size:=hp2.size;have hw3:w2.heap.size≤w3.heap.size:=hp3'.size;refine⟨w3.heap.size,jJ w3.heap.size (fun k=>k=w2.heap.size) p sv,rfl,⟨w2.heap.size,p,sv,fun k=>k=w2.heap.size,⟨hq,hlog.pure hpq,HIX.out.pure (hp3'.trans hpq),hs⟩,vR.new seed same,fun _=>vE⟩,(HP.out.trans hp2).trans (hp3'.trans hpq),?_⟩;rintro k (rfl | rfl | rfl | e)
  · omega
  · omega
  · omega
  · have:=hs2 k e;omega
end
end
end
section
open Go.RowKit Go.Shelf
variable{Fo:Nat→Prop}
section
variable{w w':World}{D S:Nat→Prop}{d seed:Nat}{same:Bool}{L:List (Option Ent)}{Gs:List Grp}
theorem zjP(h:zW Fo w D d seed same L Gs):Calls prog 258 #[yY d] w (zaN Fo w L):=by
  obtain⟨q,p,sv,Dl,h1,h2,h3⟩:=h;have HZ:=za (jZ h1);have HC:=za (zeU h1.log);have hb:=h1.box;clear h1 h2 h3;obtain⟨hb_0,hb_1,hb_2,hb_3,hb_f,hb_l,H_hb⟩:=cr4 hb;clear hb;go_enter func258,ntmps258
  go_wp2_with (first
    | (go_at_call 142;refine HZ.out.mono ?_;rintro e w' ⟨rfl,rfl⟩)
    | (go_at_call 309;refine HC.out.mono ?_;rintro e w' ⟨q2,D2,rfl,g1,g2,g3⟩))
  go_ret;exact⟨q2,D2,rfl,g1,g2,g3⟩
theorem QO(h:zW Fo w D d seed same L Gs):Calls prog 62 #[yY d] w (Kw w L):=by
  obtain⟨q,p,sv,Dl,h1,h2,h3⟩:=h;have HZ:=za (jZ h1);have HC:=za (zfH h1.log);have hb:=h1.box;clear h1 h2 h3;obtain⟨hb_0,hb_1,hb_2,hb_3,hb_f,hb_l,H_hb⟩:=cr4 hb;clear hb;go_enter func62,ntmps62
  go_wp2_with (first
    | (go_at_call 142;refine HZ.out.mono ?_;rintro e w' ⟨rfl,rfl⟩)
    | (go_at_call 143;refine HC.out.mono ?_;rintro e w' ⟨M,B,a,c,rfl,rfl,g1,g2,g3,g4⟩))
  go_ret;exact⟨M,B,a,c,rfl,rfl,g1,g2,g3,g4⟩
theorem zfE{q:Nat}{Dl:Nat→Prop}(h:zY Fo w Dl q L):Calls prog 211 #[.agg #[.pointer (some ⟨q,0,none⟩)]] w fun e w'=>e=.returned (.bool (decide (4194304≤(L.length:Int))))∧zb w w':=by
 have hp:zb w (w.alloc (.cells #[.pointer (some ⟨q,0,none⟩)] 199)):=(Mod.refl _ w).alloc _;have hb:=zi (w:=w) (o:=(.cells #[.pointer (some ⟨q,0,none⟩)] 199 (0,0))) rfl;have HK:=za (zce (h.pure hp));have HP:=za hp;clear h hp;go_enter func211,ntmps211;go_upto_region 1 with fail
 generalize w.alloc (.cells #[.pointer (some ⟨q,0,none⟩)] 199)=W1 at *;generalize w.heap.size=b at *;obtain⟨hb_0,hb_f,hb_l,H_hb⟩:=cr1 hb;clear hb
 go_wp2_with (go_at_call 184;refine HK.out.mono ?_;rintro e w' ⟨rfl,rfl⟩)
 go_ret;exact⟨rfl,HP.out⟩
def zdi(Fo:Nat→Prop)(w:World)(D:Nat→Prop)(d seed:Nat)(same:Bool)(L:List (Option Ent))(Gs:List Grp)(x:Ent)(e:Ending)(w':World):Prop :=
 e=.returned (.tuple #[.int .u32 L.length,.int .i64 0]) ∧ ∃ D',zW Fo w' D' d seed same (L++[some x]) (qw (ya seed same (L++[some x])) Gs L.length)∧Mod D w w'∧vU D D' w
theorem K9{q p:Nat}{sv:Value}{Dl Dl2:Nat→Prop}{w2 w3:World}{L2:List (Option Ent)}(h:zZ Fo w2 d q p sv Dl seed same L Gs)(hl:zY Fo w3 Dl2 q L2)(hm:Mod Dl w2 w3):zZ Fo w3 d q p sv Dl2 seed same L2 Gs :=
 ⟨hm.heap h.nd h.box,hl,h.ix.mod hm (fun k hk e=>h.nlp k e hk),h.sd⟩
theorem ziX(h:zW Fo w D d seed same L Gs)(x:Ent)(hok:x.Ok)(hL:L.length<4194304)(hf:yH L x.key=none)(a:Option Addr)(n c:Nat)(hx:zn w (.slice a n c) 1 (zJ x.val)) :
    Calls prog 123 #[yY d,.agg #[.string x.key,.slice a n c,.int .u64 x.dl,.int .u64 x.birth]] w (zdi Fo w D d seed same L Gs x):=by
  obtain⟨q,p,sv,Dl,h1,h2,h3⟩:=h;have HH:=za h1;have HK:=za h2;have HD:=za h3;have HX:=za hx;have HO:=za hok;have hp0:zb w (w.alloc (.cells #[.string x.key,.slice a n c,.int .u64 x.dl,.int .u64 x.birth] 57)):=(Mod.refl _ w).alloc _;have z3:=zi (w:=w) (o := .cells #[.string x.key,.slice a n c,.int .u64 x.dl,.int .u64 x.birth] 57 (0,0)) rfl;have HP:=za hp0;have HZ:=za (jZ (h1.pure hp0));have hn:n≤65536:=by have:=jo hx;rw[uP]at this;have:=hok.v1;omega
  have hb:(x.birth==0)=false:=by have:=hok.b0;simp;omega
  have HN:=za (zbn x.key a n c x.dl x.birth (zJ x.val) _ (hx.frame hp0 (fun _ _ h=>h)) hn hok.k0 hok.k1 hb);have HFd:=za (fun(W:World) (hW:zb w W)=>zb4 (h1.pure hW) h2 x.key (by have:=hok.k1;omega));obtain⟨i1,i2⟩:=h2.insert hf (by omega);obtain⟨y,k1,k2,k3,k4,k5,k6,k7,k8⟩:=i1.put (by rw[h2.used];have:=J3 L;omega) (s:=L.length) (by omega) (fun c=>by have:=Uk c;omega);have HPl:=za (fun(W:World) (hW:zb w W)=>zaH (h1.pure hW) k1);have HFu:=za (fun(W:World) (hW:zb w W)=>zfE (h1.log.pure hW));have HApp:=za (fun(W:World) (hW:zb w W) (a2:Option Addr) (n2 c2:Nat) (hr:zn W (.slice a2 n2 c2) 1 (zJ x.val))=>zia (h1.log.pure hW) hL x hok a2 n2 c2 hr);have HPut:=za (fun(W:World) (Dl2:Nat→Prop) (hW:zZ Fo W d q p sv Dl2 seed same (L++[some x]) Gs)=>zjR hW k1 k2 k3 (s:=L.length) (by omega) k6);have HI2:=za i2;have e1:uK L x.key=(0,9):=by unfold uK;rw[hf]
  unfold ZQ Jl at *;rw[e1]at HFd;dsimp only at HFd;have hfull:decide ((4194304:Int)≤(L.length:Int))=false:=zQ (by omega);rw[hfull]at HFu;obtain⟨y1,y2⟩:=y;dsimp only at HPl;unfold zda at HApp;clear h1 h2 h3 hx hok hp0 hn hb i1 i2 k1 k2 k3 k4 k5 k6 k7 k8 e1 hf hfull;go_enter func123,ntmps123;go_upto_region 1 with fail
  generalize w.alloc (.cells #[.string x.key,.slice a n c,.int .u64 x.dl,.int .u64 x.birth] 57)=W1 at *;obtain⟨b3,hb3⟩:=zc w.heap.size;rw[hb3]at z3 ⊢;have HB3:=za hb3;clear hb3;obtain⟨z3_0,z3_1,z3_2,z3_3,z3_f,z3_l,H_z3⟩:=cr4 z3;clear z3;go_upto_region 4 with(first
    | (go_at_call 142;refine HZ.out.mono ?_;rintro e w' ⟨rfl,rfl⟩)
    | (go_at_call 209;refine HN.out.mono ?_;rintro e w2 ⟨a2,n2,c2,rfl,hr2,hf2,hp2⟩))
  have hpo:zb w2 (w2.alloc (.cells #[.string x.key,.slice a2 n2 c2,.int .u64 x.dl,.int .u64 x.birth] 57)):=(Mod.refl _ w2).alloc _;have z6:=zi (w:=w2) (o := .cells #[.string x.key,.slice a2 n2 c2,.int .u64 x.dl,.int .u64 x.birth] 57 (0,0)) rfl;have HR:=za (zy (ZJ hr2) hpo (fun _ _ h=>h));have zz3:=(hp2.trans hpo).heap (fun h=>h) H_z3.out;replace HP:=za ((HP.out.trans hp2).trans hpo);have hb6:b3<w2.heap.size:=x9 z3_l hp2.size;clear z3_0 z3_1 z3_2 z3_3 z3_f z3_l;clear H_z3 hr2 hf2 hp2 hpo HN HZ;generalize w2.alloc (.cells #[.string x.key,.slice a2 n2 c2,.int .u64 x.dl,.int .u64 x.birth] 57)=W3 at *;generalize w2.heap.size=b6 at *;obtain⟨zz3_0,zz3_1,zz3_2,zz3_3,zz3_f,zz3_l,H_zz3⟩:=cr4 zz3;clear zz3;obtain⟨z6_0,z6_1,z6_2,z6_3,z6_f,z6_l,H_z6⟩:=cr4 z6;clear z6;go_upto_region 9 with(go_at_call 146;refine(HFd.out _ HP.out).mono ?_;rintro e w4 ⟨rfl,hp4⟩)
  go_upto_region 10 with(go_at_call 210;refine(HPl.out _ (HP.out.trans hp4)).mono ?_;rintro e w5 ⟨rfl,hp5⟩)
  have hp6:zb w5 (w5.alloc (.cells #[.int .i64 y1,.bool y2] 271)):=(Mod.refl _ w5).alloc _;have hp36:=(hp4.trans hp5).trans hp6;have zz6:=hp36.heap (fun h=>h) H_z6.out;replace HR:=za (zy HR.out hp36 (fun _ _ h=>h));replace HP:=za (HP.out.trans hp36);clear zz3_0 zz3_1 zz3_2 zz3_3 zz3_f zz3_l;clear z6_0 z6_1 z6_2 z6_3 z6_f z6_l;clear H_zz3 H_z6 hp4 hp5 hp6 hp36 HFd HPl;generalize w5.alloc (.cells #[.int .i64 y1,.bool y2] 271)=W6 at *;obtain⟨b10,hb10⟩:=zc w5.heap.size;rw[hb10];clear hb10;have hb:=(HH.out.pure HP.out).box;obtain⟨hb_0,hb_1,hb_2,hb_3,hb_f,hb_l,H_hb⟩:=cr4 hb;clear hb;obtain⟨zz6_0,zz6_1,zz6_2,zz6_3,zz6_f,zz6_l,H_zz6⟩:=cr4 zz6;clear zz6;go_upto_region 12 with(go_at_call 211;refine(HFu.out _ HP.out).mono ?_;rintro e w7 ⟨rfl,hp7⟩)
  have k0:=hp7.cell (fun h=>h) hb_0;have k1:=hp7.cell (fun h=>h) zz6_0;have k2:=hp7.cell (fun h=>h) zz6_1;have k3:=hp7.cell (fun h=>h) zz6_2;have k4:=hp7.cell (fun h=>h) zz6_3;replace HR:=za (yv.read (zy HR.out hp7 (fun _ _ h=>h)) (kO _));replace HP:=za (HP.out.trans hp7);have HA:=za (fun(W:World) (hW:zb w7 W)=>HApp.out W (HP.out.trans hW) a2 n2 c2 (HR.out.frame hW (fun _ _ h=>h)));have nD : ∀ k,Dl k→k<w.heap.size:=fun k hk=>HH.out.log.lt hk
  have hwb:w.heap.size=b3:=HB3.out;have ND:=za nD;clear nD;clear hb_0 hb_1 hb_2 hb_3 hb_f hb_l;clear zz6_0 zz6_1 zz6_2 zz6_3 zz6_f zz6_l;clear H_hb H_zz6 hp7 HApp HFu
  go_region_held3 (fun w'=>w'.cell? ⟨d,0,none⟩=some (.pointer (some ⟨q,0,none⟩))∧w'.cell? ⟨b6,0,none⟩=some (.string x.key)∧w'.cell? ⟨b6,1,none⟩=some (.slice a2 n2 c2)∧w'.cell? ⟨b6,2,none⟩=some (.int .u64 x.dl)∧w'.cell? ⟨b6,3,none⟩=some (.int .u64 x.birth))
    (first | exact⟨k0,k1,k2,k3,k4⟩ | exact⟨hm8.cell HH.out.nd k0,hm8.cell (fun e=>by have:=ND.out _ e;dsimp only at this;omega) k1,hm8.cell (fun e=>by have:=ND.out _ e;dsimp only at this;omega) k2,hm8.cell (fun e=>by have:=ND.out _ e;dsimp only at this;omega) k3,hm8.cell (fun e=>by have:=ND.out _ e;dsimp only at this;omega) k4⟩)
    (first
      | (go_at_call 212;refine(HA.out _ (by exact xb)).mono ?_;rintro e w8 ⟨rfl,Dl2,hl8,hm8,hg8⟩))
  have hm8':Mod Dl w7 w8:=Mod.of_drew hm8;have HM8:=za (K9 (HH.out.pure HP.out) hl8 hm8');have hP8:Mod Dl w w8:=(Mod.of_pure HP.out).trans hm8';have HM:=za hP8;have HG8:=za hg8;have HL8:=za hl8;clear hm8 hm8' hP8 hg8 hl8 k0 k1 k2 k3 k4
  go_wp2_with (go_at_call 213;refine(HPut.out _ _ HM8.out).mono ?_;rintro e w9 ⟨p2,sv2,rfl,hm9,hmod9,hsx9⟩)
  go_ret2;have h78:w.heap.size≤w8.heap.size:=HM.out.size;refine⟨rfl,jJ d Dl2 p2 sv2,⟨q,p2,sv2,Dl2,hm9,HI2.out,fun _=>vE⟩,?_,?_⟩
  · refine HM.out.trans' hmod9 (fun i _ hi=>(HD.out i).2 (.inr (.inl hi))) (fun i _ hi=>(HD.out i).2 ?_)
    rcases hi with e | e | e
    · exact .inl e
    · exact .inr (.inr (.inl e))
    · exact .inr (.inr (.inr e))
  · have hg9 : ∀ k,Dl2 k→Dl k∨w.heap.size≤k:=fun k hk=>by
      rcases HG8.out k hk with e | e
      · exact .inl e
      · exact .inr (by have:=HP.out.size;simp at e;omega)
    rintro k (e | e | e | e)
    · exact .inl ((HD.out k).2 (.inl e))
    · rcases hg9 k e with e | e
      · exact .inl ((HD.out k).2 (.inr (.inl e)))
      · exact .inr e
    · rcases hsx9 with⟨g1,g2⟩ | ⟨g1,g2⟩
      · exact .inl ((HD.out k).2 (.inr (.inr (.inl (e.trans g1)))))
      · exact .inr (by omega)
    · rcases hsx9 with⟨g1,g2⟩ | ⟨g1,g2⟩
      · exact .inl ((HD.out k).2 (.inr (.inr (.inr (g2 ▸ e)))))
      · exact .inr (by have:=g2 _ e;omega)
end
end
section
open Go.RowKit Go.Shelf
variable{Fo:Nat→Prop}
theorem zgJ{L:List (Option Ent)}{s t:Nat}(h:t≠s):yI (L.set s none) t=yI L t:=by
 unfold yI;rw[yx (fun e=>h e.symm)]
theorem Kr(L:List (Option Ent))(s t:Nat):ub (L.set s none) t↔t≠s∧ub L t:=by
 unfold ub;by_cases h:t=s
 ·subst h;simp only[ne_eq,not_true_eq_false,false_and,iff_false];rintro⟨e,he⟩;rw[Xz]at he;simp at he
 ·rw[yx (fun e=>h e.symm)];simp[h]
theorem zlg{L:List (Option Ent)}(h:YH L)(s:Nat):YH (L.set s none):=by
 intro a b e f ha hb hk;have h1:=(Kr L s a).1 ⟨e,ha⟩;have h2:=(Kr L s b).1 ⟨f,hb⟩;rw[yx (fun e=>h1.1 e.symm)]at ha;rw[yx (fun e=>h2.1 e.symm)]at hb;exact h a b e f ha hb hk
theorem Ud : ∀ {L:List (Option Ent)} {s:Nat} {x:Ent},L[s]? = some (some x)→zV (L.set s none)+1=zV L
 | [],s,x,h=>by simp at h
 | o::L,0,x,h=>by
  simp at h;subst h;simp[zV]
 | o::L,s+1,x,h=>by
  have:=Ud (L:=L) (s:=s) (x:=x) (by simpa using h);simp only[List.set_cons_succ,zV,List.countP_cons]at this ⊢;omega
def uw(H:Nat→Nat)(Gs:List Grp)(s:Nat):List Grp:=match ue Gs (H s) (fun x=>x==s)with
 | some x=>vO Gs x.1 x.2
 | none=>Gs
def Yv(H H':Nat→Nat)(Gs:List Grp)(s:Nat):List Grp:=doG H' (uA (uw H Gs s).length (zE (uw H Gs s))) (uw H Gs s)
theorem vR.remove{seed:Nat}{same:Bool}{L:List (Option Ent)}{Gs:List Grp}(h:vR seed same L Gs){s:Nat}{x:Ent}(hx:L[s]? = some (some x)) :
  (∃ i j,ue Gs (ya seed same L s) (fun y=>y==s)=some (i,j)∧uw (ya seed same L) Gs s=vO Gs i j)∧xB (uw (ya seed same L) Gs s) ∧
   ((uA (uw (ya seed same L) Gs s).length (zE (uw (ya seed same L) Gs s))).2=true→Pow (uA (uw (ya seed same L) Gs s).length (zE (uw (ya seed same L) Gs s))).1∧zE (uw (ya seed same L) Gs s)≤8*(uA (uw (ya seed same L) Gs s).length (zE (uw (ya seed same L) Gs s))).1) ∧
   vR seed same (L.set s none) (Yv (ya seed same L) (ya seed same (L.set s none)) Gs s):=by
 obtain⟨i,j,h1,h2⟩:=h.holds.find_some (s:=s) ⟨x,hx⟩;have ht:uw (ya seed same L) Gs s=vO Gs i j:=by unfold uw;rw[h1]
 obtain⟨c1,c2,c3⟩:=Jv h.holds.ok h2;have h3:=h.holds.del h2;have h4:yC (ya seed same (L.set s none)) (ub (L.set s none)) (vO Gs i j) :=
  (h3.congr (fun t ht=>by unfold ya;rw[zgJ ht.1])).of_iff (fun t=>(Kr L s t).symm)
 unfold Yv;rw[ht];obtain⟨p1,p2,p3⟩:=zfN (g:=(vO Gs i j).length) (live:=zE (vO Gs i j)) c3.pow;have hle:=zdm c3;have hu:zE (vO Gs i j)≤8*(uA (vO Gs i j).length (zE (vO Gs i j))).1:=by
  cases hb:(uA (vO Gs i j).length (zE (vO Gs i j))).2 with
  | true=>exact Zq (p2 hb)
  | false=>rw[p3 hb];exact hle
 obtain⟨k1,k2,k3⟩:=h4.do p1 hu p3;refine⟨⟨i,j,h1,rfl⟩,c3,fun _=>⟨p1,hu⟩,k1,zlg h.keys s,?_⟩;rw[k2];have:=Ud hx;have:=h.used;omega
theorem qy{X Y:World}{b:Nat}{u0 u1 u2 u3 v0 v1 v2 v3:Value}{T:TypeId}(h:X.heap[b]? = some (.cells #[u0,u1,u2,u3] T (0,0)))
  (hY:(((X.setCell ⟨b,0,none⟩ v0).setCell ⟨b,1,none⟩ v1).setCell ⟨b,2,none⟩ v2).setCell ⟨b,3,none⟩ v3=Y):Mod (fun k=>k=b) X Y∧Y.heap[b]? = some (.cells #[v0,v1,v2,v3] T (0,0)):=by
 subst hY;refine⟨((((Mod.set1 b 0 v0).trans (Mod.set1 b 1 v1)).trans (Mod.set1 b 2 v2)).trans (Mod.set1 b 3 v3)),?_⟩;have h1:=vz (j:=0) (v:=v0) h;have h2:=vz (j:=1) (v:=v1) h1;have h3:=vz (j:=2) (v:=v2) h2;have h4:=vz (j:=3) (v:=v3) h3;simpa using h4
section
variable{w w':World}{D S:Nat→Prop}{d seed:Nat}{same:Bool}{L:List (Option Ent)}{Gs:List Grp}
def zea(Fo:Nat→Prop)(w:World)(D:Nat→Prop)(d seed:Nat)(same:Bool)(L:List (Option Ent))(Gs:List Grp)(s:Nat)(x:Ent)(e:Ending)(w':World):Prop :=
 ∃ a n c,e=.returned (.tuple #[.agg #[.string x.key,.slice a n c,.int .u64 x.dl,.int .u64 x.birth],.int .i64 0])∧yv w' (.slice a n c) (zJ x.val)∧xi w (.slice a n c) ∧
  ∃ D',zW Fo w' D' d seed same (L.set s none) (Yv (ya seed same L) (ya seed same (L.set s none)) Gs s)∧Mod D w w'∧vU D D' w
end
end
end Go.Proofs.YtpplkcnknabofaaGreatDoor
