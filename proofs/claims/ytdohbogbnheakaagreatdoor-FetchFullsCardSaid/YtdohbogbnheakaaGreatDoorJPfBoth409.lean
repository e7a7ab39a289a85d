/- Lemmas and contracts of functions. No condition. -/
import Derived.Test.YtdohbogbnheakaaGreatDoorJPfBoth407
namespace Go.Proofs.YtdohbogbnheakaaGreatDoor
open _root_.Go.Proofs.Tryz
set_option maxRecDepth 100000
set_option maxHeartbeats 20000000
set_option linter.all false
section
open Go.RowKit
section
variable{w w':World}{u mc mb:Nat}{U:Bu}
theorem zi2(h:yS w u mc mb U){c:Nat}(hc:c≤1099511627776)(h1:U.c0+1≤2097152)(h2:U.s0+c≤2305843009213693952)(hh:U.holds 1 c) :
    Calls prog 187 #[buP u,.int .i64 1,.int .i64 c] w fun e w'=>e=.returned (.int .i64 0)∧yS w' u mc mb {c0:=U.c0+1,s0:=U.s0+c,c1:=U.c1-1,s1:=U.s1-c}∧Mod (fun k=>k=u) w w':=by
  have HC:=za (Xs h (g:=1) (by omega) hc);have HHa:=za (fun(W:World) (hW:zc w W)=>KZ (h.pure hW) (g:=1) (by omega) hc hh);have HRe:=za (fun(W:World) (hW:zc w W)=>zbR (h.pure hW) hc hh);have HAd:=za (fun(W:World) (hW:yS W u mc mb {U with c1:=U.c1-1,s1:=U.s1-c})=>zaJ hW hc h1 h2);have hb:=h.box;clear h hh;obtain⟨c0,s0,c1,s1⟩:=U;dsimp only at h1 h2 hb HRe HAd ⊢;have HPl:=za (fun W=>ZD (c0:Int) (s0:Int) 1 (c:Int) (zt _ (by omega)) (zt _ (by omega)) W);have HF:=za (fun W=>J6 ((c0:Int)+1) ((s0:Int)+(c:Int)) W);have hf:(decide ((c0:Int)+1≤2097152)&&decide ((s0:Int)+(c:Int)≤2305843009213693952))=true:=by simp;omega
  rw[hf]at HF;clear hf;obtain⟨hb_0,hb_1,hb_2,hb_3,hb_4,hb_5,hb_f,hb_l,H_hb⟩:=cr6 hb;clear hb;go_enter func187,ntmps187;go_upto_region 7 with(first
    | (go_at_call 183;refine HC.out.mono ?_;rintro e w' ⟨rfl,rfl⟩)
    | (go_at_call 185;refine(HPl.out _).mono ?_;rintro e w2 ⟨rfl,hp2⟩)
    | (go_at_call 186;refine(HF.out _).mono ?_;rintro e w3 ⟨rfl,hp3⟩))
  have HP:=za (hp2.trans hp3);clear hb_0 hb_1 hb_2 hb_3 hb_4 hb_5 hb_f hb_l;clear H_hb hp2 hp3
  go_wp2_with (first
    | (go_at_call 184;refine(HHa.out _ HP.out).mono ?_;rintro e w4 ⟨rfl,hp4⟩)
    | (go_at_call 117;refine(HRe.out _ (HP.out.trans hp4)).mono ?_;rintro e w5 ⟨rfl,hb5,hm5⟩)
    | (go_at_call 118;refine(HAd.out _ hb5).mono ?_;rintro e w6 ⟨rfl,hb6,hm6⟩))
  go_ret;exact⟨rfl,hb6,Mod.trans' (Mod.trans' (HP.out.trans hp4) hm5 (fun _ _ h=>h.elim) (fun _ _ h=>h)) hm6 (fun _ _ h=>h) (fun _ _ h=>h)⟩
theorem ziS{c b:Nat}(h1:1≤c∧c≤1048576)(h2:1≤b∧b≤1099511627776)(w:World) :
  Calls prog 99 #[.int .i64 c,.int .i64 b] w fun e w'=>e=.returned (.tuple #[buP w.heap.size,.int .i64 0])∧yS w' w.heap.size c b ⟨0,0,0,0⟩∧zc w w':=by
 have hal:=zlk (c:Int) (b:Int) w;have e1:(uU (c:Int) 1 1048576&&uU (b:Int) 1 1099511627776)=true:=by unfold uU;simp;omega
 rw[e1]at hal;have HA:=za hal;have HH1:=za h1;have HH2:=za h2;clear hal h1 h2 e1;go_enter func99,ntmps99
 go_wp2_with (go_at_call 169;refine HA.out.mono ?_;rintro e w' ⟨rfl,rfl⟩)
 have hb:=zj (w:=w) (o := .cells #[.int .i64 c,.int .i64 b,.int .i64 0,.int .i64 0,.int .i64 0,.int .i64 0] 269 (0,0)) rfl;go_ret2;exact⟨rfl,⟨hb,HH1.out,HH2.out,by decide,by decide⟩,(Mod.refl _ w).alloc _⟩
def BuS(u mc mb c0 s0 c1 s1:Nat)(X:World):Prop:=X.cell? ⟨u,0,none⟩=some (.int .i64 mc)∧X.cell? ⟨u,1,none⟩=some (.int .i64 mb)∧X.cell? ⟨u,2,none⟩=some (.int .i64 c0)∧X.cell? ⟨u,3,none⟩=some (.int .i64 s0)∧X.cell? ⟨u,4,none⟩=some (.int .i64 c1)∧X.cell? ⟨u,5,none⟩=some (.int .i64 s1)
theorem Az0xz {P:Prop}(h:P:=by
 have hz:=HZ3.out;obtain⟨hz_0,hz_1,hz_f,hz_l,H_hz⟩:=cr2 hz;clear hz
 (refine hSt 26 (fun K hK => ?_);go_simp;refine hK.out _ _ ?_ (fun h_ => ?_);(· exact HS.out _ (HP3.out.then ((Mod.refl (fun k=>k=ba) w3).setCell (p:=⟨ba,0,none⟩) (fun _=>rfl) _ |>.setCell (p:=⟨ba,1,none⟩) (fun _=>rfl) _) (fun i hi e=>by have:=HGE.out;omega)));clear hK K;refine clA ?_)
 refine hDn ?_;clear h_;have HW:=za (HP3.out.then ((Mod.refl (fun k=>k=ba) w3).setCell (p:=⟨ba,0,none⟩) (fun _=>rfl) (.int .i64 ((c0:Int)+(c1:Int) + -(mc:Int))) |>.setCell (p:=⟨ba,1,none⟩) (fun _=>rfl) (.int .i64 ((s0:Int)+(s1:Int) + -(mb:Int)))) (fun i hi e=>by have:=HGE.out;omega));have h8:=ya w3 ba 0 _ _ (.int .i64 ((c0:Int)+(c1:Int) + -(mc:Int))) HZ3.out;have h9:=ya _ ba 1 _ _ (.int .i64 ((s0:Int)+(s1:Int) + -(mb:Int))) h8;obtain⟨X,hX⟩:=zf ((w3.setCell ⟨ba,0,none⟩ (.int .i64 ((c0:Int)+(c1:Int) + -(mc:Int)))).setCell ⟨ba,1,none⟩ (.int .i64 ((s0:Int)+(s1:Int) + -(mb:Int))));rw[hX]at h9 HW ⊢;clear hz_0 hz_1 hz_f hz_l;clear H_hz hX h8;simp only[List.setIfInBounds_toArray,List.set_cons_succ,List.set_cons_zero,Array.setIfInBounds]at h9;have g0:X.cell? ⟨ba,0,none⟩=some (.int .i64 ((c0:Int)+(c1:Int) + -(mc:Int))):=zi X ba 0 _ _ (0,0) (by simpa using h9);have g1:X.cell? ⟨ba,1,none⟩=some (.int .i64 ((s0:Int)+(s1:Int) + -(mb:Int))):=zi X ba 1 _ _ (0,0) (by simpa using h9);have hba9:=zm h9;clear h9;go_upto_region 3 with fail
 refine jE (S:=fun Y=>Y.cell? ⟨ba,0,none⟩=some (.int .i64 ((c0:Int)+(c1:Int) + -(mc:Int)))∧Y.cell? ⟨ba,1,none⟩=some (.int .i64 ((s0:Int)+(s1:Int) + -(mb:Int)))) (by kernel_rfl) ⟨g0,g1⟩ (fun h_ => ?_);refine hTk 0 ?_;refine hLd 1 ?_;refine hTk 2 ?_;refine hTk 3 ?_;refine hLd 4 ?_;refine hTk 5 ?_;refine hTk 6 ?_;refine hTk 7 ?_;refine hDn ?_;go_wp2
 all_goals(go_ret2;exact⟨rfl,HW.out.drew⟩)):P:=h
theorem Azqdd {P:Prop}(h:P:=by
 refine uN (rs:=[24]) (by kernel_rfl) (by simp) ?_;refine vR rfl (fun K3 hK3 => ?_) (uM)
 ·go_simp;go_at_call 185;refine(HPq.out _).mono ?_;rintro e w3 ⟨rfl,hp3⟩;have HP3:=za ((HP2.out).trans hp3);have HZ3:=za (hp3.heap (fun h=>h) HZ2.out);go_simp;refine hK3.out _ _ (HS.out _ HP3.out) (fun h_ => ?_);clear hK3 K3 hp3;refine clA ?_;exact Az0xz):P:=h
theorem zio(h:yS w u mc mb U):Calls prog 133 #[buP u] w fun e w'=>e=.returned (.tuple #[.int .i64 (if 0<(U.c0:Int)+(U.c1:Int) + -(mc:Int)then(U.c0:Int)+(U.c1:Int) + -(mc:Int)else 0),.int .i64 (if 0<(U.s0:Int)+(U.s1:Int) + -(mb:Int)then(U.s0:Int)+(U.s1:Int) + -(mb:Int)else 0)])∧zc w w':=by
 have HN:=za (zcz h);have hb:=h.box;have hu0:=h.u0;have hu1:=h.u1;have hcc:=h.c;have hbb:=h.b;clear h;obtain⟨c0,s0,c1,s1⟩:=U;dsimp only at hb hu0 hu1 ⊢;have HPl:=za (fun W=>ZD (c0:Int) (s0:Int) (c1:Int) (s1:Int) (zt _ (by omega)) (zt _ (by omega)) W);have HPq:=za (fun W=>ZD ((c0:Int)+(c1:Int)) ((s0:Int)+(s1:Int)) (-(mc:Int)) (-(mb:Int)) (zt _ (by omega)) (zt _ (by omega)) W);have wn1:IntKind.i64.wrap (-(mc:Int)) = -(mc:Int):=zt _ (by omega);have wn2:IntKind.i64.wrap (-(mb:Int)) = -(mb:Int):=zt _ (by omega);have HS:=za (fun(X:World) (hX:zc w X)=>(⟨zi X u 0 _ _ (0,0) (hX.heap (fun h=>h) hb),zi X u 1 _ _ (0,0) (hX.heap (fun h=>h) hb),zi X u 2 _ _ (0,0) (hX.heap (fun h=>h) hb),zi X u 3 _ _ (0,0) (hX.heap (fun h=>h) hb),zi X u 4 _ _ (0,0) (hX.heap (fun h=>h) hb),zi X u 5 _ _ (0,0) (hX.heap (fun h=>h) hb)⟩:BuS u mc mb c0 s0 c1 s1 X));clear hu0 hu1 hcc hbb;have HB6:=za hb;obtain⟨hb_0,hb_1,hb_2,hb_3,hb_4,hb_5,hb_f,hb_l,H_hb⟩:=cr6 hb;clear hb;go_enter func133,ntmps133;go_upto_region 2 with(go_at_call 200;refine HN.out.mono ?_;rintro e w' ⟨rfl,rfl⟩)
 clear hb_0 hb_1 hb_2 hb_3 hb_4 hb_5 hb_f hb_l;clear H_hb;have hlw:=za (zm HB6.out);have HP0:=za (Mod.refl (fun _=>False) w);refine rHd (S:=BuS u mc mb c0 s0 c1 s1) (HS.out _ (Mod.refl _ _).drew) (fun h_ => ?_);refine hTk 0 ?_;refine hTk 1 ?_;refine hTk 2 ?_;refine hTk 3 ?_;refine hLd 4 ?_;refine hTk 5 ?_;refine hTk 6 ?_;refine hTk 7 ?_;refine hTk 8 ?_;refine hLd 9 ?_;refine hTk 11 ?_;refine hTk 12 ?_;refine hTk 13 ?_;refine hTk 14 ?_;refine hLd 15 ?_;refine hTk 16 ?_;refine hTk 17 ?_;refine hTk 18 ?_;refine hTk 19 ?_;refine hTk 20 ?_;refine hLd 21 ?_;refine hTk 22 ?_;refine hTk 23 ?_;refine uN (rs:=[10,25]) (by kernel_rfl) (by simp) ?_;refine vR rfl (fun K1 hK1 => ?_) (vR rfl (fun K1 hK1 => ?_) (uM))
 ·go_simp;go_at_call 185;refine(HPl.out _).mono ?_;rintro e w1 ⟨rfl,hp1⟩;have HP1:=za ((HP0.out.drew).trans hp1);go_simp;refine hK1.out _ _ (HS.out _ HP1.out) (fun h_ => ?_);clear hK1 K1 hp1;refine clA ?_;refine uN (rs:=[24,25]) (by kernel_rfl) (by simp) ?_;refine vR rfl (fun K2 hK2 => ?_) (vR rfl (fun K2 hK2 => ?_) (uM))
  ·go_simp;go_at_call 185;refine(HPq.out _).mono ?_;rintro e w2 ⟨rfl,hp2⟩;have HP2:=za ((HP1.out).trans hp2);go_simp;refine hK2.out _ _ (HS.out _ HP2.out) (fun h_ => ?_);clear hK2 K2 hp2;refine clA ?_;refine uN (rs:=[25]) (by kernel_rfl) (by simp) ?_;refine vR rfl (fun K3 hK3 => ?_) (uM)
   ·go_simp;have HP3:=za ((HP2.out.alloc (.cells #[.int .i64 0,.int .i64 0] 266)));have hz3:=zj (w:=w2) (o := .cells #[.int .i64 0,.int .i64 0] 266 (0,0)) rfl;skip;refine hK3.out _ _ (HS.out _ HP3.out) (fun h_ => ?_);clear hK3 K3;refine clA ?_;obtain⟨w3,hw3⟩:=zf (w2.alloc (.cells #[.int .i64 0,.int .i64 0] 266));have hne:u≠w2.heap.size:=by have:=HP2.out.size;have:=hlw.out;first | omega | (simp at this ⊢;omega)
    rw[hw3]at hz3 HP3 h_ ⊢;obtain⟨ba,hba⟩:=zf w2.heap.size;rw[hba]at hne;have hz:w3.heap[ba]? = some (.cells #[.int .i64 0,.int .i64 0] 266 (0,0)):=by rw[← hba];exact hz3
    have hge:w.heap.size≤ba:=by rw[← hba];exact HP2.out.size
    try rw[hba]
    try rw[show w.drew.heap.size=ba from hba]
    have HZ3:=za hz;have HNE:=za hne;have HGE:=za hge;clear hz hz3 hne hge hba hw3;exact Az0xz
  ·go_simp;have HP2:=za ((HP1.out.alloc (.cells #[.int .i64 0,.int .i64 0] 266)));have hz2:=zj (w:=w1) (o := .cells #[.int .i64 0,.int .i64 0] 266 (0,0)) rfl;skip;refine hK2.out _ _ (HS.out _ HP2.out) (fun h_ => ?_);clear hK2 K2;refine clA ?_;obtain⟨w2,hw2⟩:=zf (w1.alloc (.cells #[.int .i64 0,.int .i64 0] 266));have hne:u≠w1.heap.size:=by have:=HP1.out.size;have:=hlw.out;first | omega | (simp at this ⊢;omega)
   rw[hw2]at hz2 HP2 h_ ⊢;obtain⟨ba,hba⟩:=zf w1.heap.size;rw[hba]at hne;have hz:w2.heap[ba]? = some (.cells #[.int .i64 0,.int .i64 0] 266 (0,0)):=by rw[← hba];exact hz2
   have hge:w.heap.size≤ba:=by rw[← hba];exact HP1.out.size
   try rw[hba]
   try rw[show w.drew.heap.size=ba from hba]
   have HZ2:=za hz;have HNE:=za hne;have HGE:=za hge;clear hz hz2 hne hge hba hw2;exact Azqdd
 ·go_simp;have HP1:=za ((HP0.out.alloc (.cells #[.int .i64 0,.int .i64 0] 266)).drew);have hz1:=zj (w:=w) (o := .cells #[.int .i64 0,.int .i64 0] 266 (0,0)) rfl;have hz1:(w.alloc (.cells #[.int .i64 0,.int .i64 0] 266)).drew.heap[w.heap.size]? = _:=hz1;refine hK1.out _ _ (HS.out _ HP1.out) (fun h_ => ?_);clear hK1 K1;refine clA ?_;obtain⟨w1,hw1⟩:=zf ((w.alloc (.cells #[.int .i64 0,.int .i64 0] 266)).drew);have hne:u≠w.heap.size:=by have:=HP0.out.size;have:=hlw.out;first | omega | (simp at this ⊢;omega)
  rw[hw1]at hz1 HP1 h_ ⊢;obtain⟨ba,hba⟩:=zf w.heap.size;rw[hba]at hne;have hz:w1.heap[ba]? = some (.cells #[.int .i64 0,.int .i64 0] 266 (0,0)):=by rw[← hba];exact hz1
  have hge:w.heap.size≤ba:=by rw[← hba];exact zI _
  try rw[hba]
  try rw[show w.drew.heap.size=ba from hba]
  have HZ1:=za hz;have HNE:=za hne;have HGE:=za hge;clear hz hz1 hne hge hba hw1;refine uN (rs:=[10]) (by kernel_rfl) (by simp) ?_;refine vR rfl (fun K2 hK2 => ?_) (uM)
  ·go_simp;go_at_call 185;refine(HPl.out _).mono ?_;rintro e w2 ⟨rfl,hp2⟩;have HP2:=za ((HP1.out).trans hp2);have HZ2:=za (hp2.heap (fun h=>h) HZ1.out);go_simp;refine hK2.out _ _ (HS.out _ HP2.out) (fun h_ => ?_);clear hK2 K2 hp2;refine clA ?_;exact Azqdd
end
end
end Go.Proofs.YtdohbogbnheakaaGreatDoor
