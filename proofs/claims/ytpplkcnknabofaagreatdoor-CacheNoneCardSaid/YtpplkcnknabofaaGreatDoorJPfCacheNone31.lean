/- Lemmas and contracts of functions. No condition. -/
import Derived.Test.YtpplkcnknabofaaGreatDoorJPfCacheNone11
namespace Go.Proofs.YtpplkcnknabofaaGreatDoor
open _root_.Go.Proofs.Tryz
set_option maxRecDepth 100000
set_option maxHeartbeats 20000000
set_option linter.all false
section
open Go.RowKit
section
variable{w w':World}{D:Nat→Prop}{p now:Nat}{ws:List Nat}{bm bb:Nat}{Ds:Nat→Nat→Prop}{Dm Db:DataW Unit}{M:List Td}{Lss:List (List (List Nat))}
theorem zkg(h:yq w D p now ws bm bb Ds Dm Db M Lss){x:Td}{M':List Td}(hg:M.find? (fun y=>y.slot==x.slot)=some x)(hs:x.slot<4194304)(hd:x.dl<18446744073709551616)(hb:x.birth≤18446744073709551615)(hne:x.dl≠now){Ls:List (List Nat)}{L:List Nat}
  (hL:Lss[lvl now x.dl]? = some Ls) (hK:Ls[bkt now x.dl]? = some L) (hf:x.slot∈L) (hM : ∀ y,y∈M'↔y∈M∧y.slot≠x.slot) (hM2 : ∀ y,y∈M'↔y∈M∧y.birth≠x.birth) (hl:M'.length+1=M.length) :
  Calls prog 238 #[lkP p,.int .u32 x.slot] w fun e w'=>e=.returned (.tuple #[tdV x,.int .i64 0])∧(∃ D' Ds' Dm' Db',yq w' D' p now ws bm bb Ds' Dm' Db' M' (Lss.set (lvl now x.dl) (Ls.set (bkt now x.dl) (L.erase x.slot)))∧yi D D' w)∧Mod D w w':=by
 have hal:zb w (w.alloc (.cells #[.int .u32 0,.int .u64 0,.int .u64 0] 226)):=(Mod.refl _ w).alloc _;have h4:=zi (w:=w) (o := .cells #[.int .u32 0,.int .u64 0,.int .u64 0] 226 (0,0)) rfl;have hl8:lvl now x.dl<8:=(uR h.box.now hd).1;obtain⟨q,hq⟩ : ∃ q,ws[lvl now x.dl]? = some q:=⟨_,zN (by rw[h.box.len];exact hl8)⟩;have hget:=Qf (h.pure hal) (s:=x.slot) (by omega);rw[Xo hs hg]at hget;have HGe:=za hget;have HPl:=za (fun(W:World) (hW:zb (w.alloc (.cells #[.int .u32 0,.int .u64 0,.int .u64 0] 226)) W)=>Jb ((h.pure hal).pure hW).box hd hne);obtain⟨lv,hlv⟩:=zc (lvl now x.dl);obtain⟨bk,hbk2⟩:=zc (bkt now x.dl);rw[hlv]at hl8 hq hL HPl ⊢;rw[hbk2]at hK HPl ⊢;have nD : ∀ k,D k→k<w.heap.size:=fun k hk=>h.lt hk
 have HC0:=za h;have HC:=za (h.pure hal);have HND:=za nD;have HAL:=za hal;have HXM:=za (Zo hg);have HL:=za hL;have HK:=za hK;have HF:=za hf;have HQ:=za hq;have HM:=za hM;have HM2:=za hM2;clear h hal nD hL hK hf hq hlv hbk2 hne hg hM hM2 hget;unfold tdV at HGe ⊢;dsimp only at HGe;go_enter func238,ntmps238;go_upto_region 1 with fail
 generalize w.alloc (.cells #[.int .u32 0,.int .u64 0,.int .u64 0] 226)=W1 at *;obtain⟨b4,hb4⟩:=zc w.heap.size;rw[hb4]at h4 HND ⊢;have HB4:=za hb4;have H4:=za h4;clear hb4 h4;go_upto_region 2 with(go_at_call 284;refine HGe.out.mono ?_;rintro e w2 ⟨rfl,hp2⟩)
 have hal2:zb w2 (w2.alloc (.cells #[.int .u32 x.slot,.int .u64 x.dl,.int .u64 x.birth] 226)):=(Mod.refl _ w2).alloc _;have h6:=zi (w:=w2) (o := .cells #[.int .u32 x.slot,.int .u64 x.dl,.int .u64 x.birth] 226 (0,0)) rfl;have hp3:=hp2.trans hal2;have hb46:b4<w2.heap.size:=hp2.lt (zl H4.out);have HP3:=za hp3;have HC3:=za (HC.out.pure hp3);have HPl3:=za (HPl.out _ hp3);clear hal2 hp2 hp3 HPl HGe;generalize w2.alloc (.cells #[.int .u32 x.slot,.int .u64 x.dl,.int .u64 x.birth] 226)=W3 at *;generalize w2.heap.size=b6 at *;have H6:=za h6;obtain⟨h6_0,h6_1,h6_2,h6_f,h6_l,H_h6⟩:=cr3 h6;clear h6;go_upto_region 4 with(go_at_call 285;refine HPl3.out.mono ?_;rintro e w4 ⟨rfl,hp4⟩)
 have h64:=hp4.heap (fun h=>h) H6.out;have HC4:=za (HC3.out.pure hp4);have hcl:=HC4.out.box.level HQ.out;have HP4:=za (HP3.out.trans hp4);clear h6_0 h6_1 h6_2 h6_f h6_l;clear H_h6 HPl3 hp4 HC3;have dl8:decide (lv<8)=true:=zL hl8;have l0:(0:Int)≤(lv:Int):=by omega
 have l1:(lv:Int)<8:=by omega
 have HRe:=za (zdg (HC4.out.lev lv q Ls HQ.out HL.out) hs HK.out HF.out);obtain⟨c0,c9,c10,_,_⟩:=HC4.out.box.cells;have H64:=za h64;clear h64;go_upto_region 5 with(go_at_call 286;refine HRe.out.mono ?_;rintro e w5 ⟨rfl,hw5,hm5⟩)
 obtain⟨D4,hC5,hg5⟩:=HC4.out.level hl8 HQ.out hw5 (yi.refl _ _) hm5;have inD : ∀ k,Ds lv k→D k:=fun k hk=>(HC0.out.dd k).2 (.inr (.inr (.inr ⟨lv,hl8,hk⟩)))
 have hb46':b4<b6:=hb46;have h65:=hm5.heap (fun e=>by have:=HND.out b6 (inD b6 e);omega) H64.out;have hmD:Mod D w4 w5:=hm5.mono (fun k _ hk=>inD k hk);have h45:=hmD.heap (fun e=>by have:=HND.out b4 e;omega) (HP4.out.heap (fun h=>h) H4.out);have hfo:=zdM hC5 HXM.out (by omega) hb HM.out HM2.out hl;unfold tdV at hfo;have HFo:=za hfo;have HG5:=za hg5;have HMD:=za hmD;have H65:=za h65;have H45:=za h45;have hnm : ∀ k,(k=bm∨k=bb)→D k:=fun k hk=>by
  exact Azur6
 have HNM:=za hnm;clear hC5 hg5 inD hm5 hw5 hmD hfo h45 hnm HRe c0 c9 c10 hcl;obtain⟨h65_0,h65_1,h65_2,h65_f,h65_l,H_h65⟩:=cr3 h65;clear h65;go_upto_region 6 with(go_at_call 287;refine HFo.out.mono ?_;rintro e w6 ⟨rfl,⟨Dm',Db',hC6⟩,hm6⟩)
 have h66:=hm6.heap (fun e=>by have:=HND.out b6 (HNM.out b6 e);omega) H65.out;have h46:=hm6.heap (fun e=>by have:=HND.out b4 (HNM.out b4 e);omega) H45.out;have HC6:=za hC6;have HM6:=za hm6;have H46:=za h46;have hsz:w.heap.size≤w4.heap.size:=(HAL.out.trans HP4.out).size;have HSZ:=za hsz;clear h65_0 h65_1 h65_2 h65_f h65_l;clear H_h65 hC6 hm6 hsz;obtain⟨h66_0,h66_1,h66_2,h66_f,h66_l,H_h66⟩:=cr3 h66;clear h66;obtain⟨h46_0,h46_1,h46_2,h46_f,h46_l,H_h46⟩:=cr3 h46;clear h46;go_wp2;have hmf:Mod (fun k=>k=b4) w6 (((w6.setCell ⟨b4,0,none⟩ (.int .u32 x.slot)).setCell ⟨b4,1,none⟩ (.int .u64 x.dl)).setCell ⟨b4,2,none⟩ (.int .u64 x.birth)) :=
  (((Mod.refl (fun k=>k=b4) w6).setCell (p:=⟨b4,0,none⟩) (fun _=>rfl) _).setCell (p:=⟨b4,1,none⟩) (fun _=>rfl) _).setCell (p:=⟨b4,2,none⟩) (fun _=>rfl) _
 have hD4 : ∀ k,D4 k→k≠b4:=fun k hk e=>by
  subst e;rcases HG5.out k hk with c | c
  ·have:=HND.out k c;omega
  ·have:=HP4.out.size;have:=zl H4.out;omega
 have hB4:b4=w.heap.size:=HB4.out.symm;refine zK (v := .tuple #[.agg #[.int .u32 x.slot,.int .u64 x.dl,.int .u64 x.birth],.int .i64 0]) (by simp[results,results238,go_sem,h46_0,h46_1,h46_2,h46_l]) rfl ⟨rfl,⟨D4,_,_,_,HC6.out.frame hmf (fun k hk e=>hD4 k hk e),fun k hk => ?_⟩,?_⟩
 ·rcases HG5.out k hk with c | c
  ·exact .inl c
  ·exact .inr (zH HSZ.out c)
 ·exact(((HAL.out.trans HP4.out).mono (fun _ _ h=>h.elim):Mod D w w4).trans (HMD.out.trans (HM6.out.mono (fun k _ hk=>HNM.out k hk)))).then hmf (fun k hk e=>by exfalso;omega)
end
section
variable{w w':World}{D:Nat→Prop}{p now:Nat}{ws:List Nat}{bm bb:Nat}{Ds:Nat→Nat→Prop}{Dm Db:DataW Unit}{M:List Td}{Lss:List (List (List Nat))}
theorem zfQ(h:yq w D p now ws bm bb Ds Dm Db M Lss){s:Nat}(h32:s≤4294967295){er:Int}(he:getTd M s=(zTd,er))(h0:er≠0) :
  Calls prog 238 #[lkP p,.int .u32 s] w fun e w'=>e=.returned (.tuple #[tdV zTd,.int .i64 er])∧zb w w':=by
 have hal:zb w (w.alloc (.cells #[.int .u32 0,.int .u64 0,.int .u64 0] 226)):=(Mod.refl _ w).alloc _;have h4:=zi (w:=w) (o := .cells #[.int .u32 0,.int .u64 0,.int .u64 0] 226 (0,0)) rfl;have hget:=Qf (h.pure hal) (s:=s) h32;rw[he]at hget;have HGe:=za hget;have HAL:=za hal;have e0:(er==0)=false:=by simpa using h0
 clear h hal hget he h0;unfold tdV at HGe ⊢;dsimp only at HGe;go_enter func238,ntmps238;go_upto_region 1 with fail
 generalize w.alloc (.cells #[.int .u32 0,.int .u64 0,.int .u64 0] 226)=W1 at *;obtain⟨b4,hb4⟩:=zc w.heap.size;rw[hb4]at h4 ⊢;have hb4':w.heap.size≤b4:=by omega
 have H4:=za h4;clear hb4 h4;go_upto_region 2 with(go_at_call 284;refine HGe.out.mono ?_;rintro e w2 ⟨rfl,hp2⟩)
 have hal2:zb w2 (w2.alloc (.cells #[.int .u32 0,.int .u64 0,.int .u64 0] 226)):=(Mod.refl _ w2).alloc _;have h6:=zi (w:=w2) (o := .cells #[.int .u32 0,.int .u64 0,.int .u64 0] 226 (0,0)) rfl;have h42:=(hp2.trans hal2).heap (fun h=>h) H4.out;have HPP:=za (HAL.out.trans (hp2.trans hal2));clear hal2 hp2 HGe;generalize w2.alloc (.cells #[.int .u32 0,.int .u64 0,.int .u64 0] 226)=W3 at *;generalize w2.heap.size=b6 at *;obtain⟨h6_0,h6_1,h6_2,h6_f,h6_l,H_h6⟩:=cr3 h6;clear h6;obtain⟨h42_0,h42_1,h42_2,h42_f,h42_l,H_h42⟩:=cr3 h42;clear h42;go_wp2;have hpp:=HPP.out;refine zK (v := .tuple #[.agg #[.int .u32 0,.int .u64 0,.int .u64 0],.int .i64 er]) (by simp[results,results238,go_sem,h42_0,h42_1,h42_2,h42_l]) rfl ⟨rfl,?_⟩;exact xb
theorem ziG(h:yq w D p now ws bm bb Ds Dm Db M Lss):Calls prog 153 #[lkP p] w fun e w'=>e=.returned (.int .u64 now)∧w=w':=by
 have HCk:=za (Ya h.box (s:=0) (by omega));obtain⟨c0,c9,c10,_,_⟩:=h.box.cells;clear h;go_enter func153,ntmps153
 go_wp2_with (go_at_call 233;refine HCk.out.mono ?_;rintro e w' ⟨rfl,rfl⟩)
 go_ret;exact⟨rfl,rfl⟩
end
def atE(now s dl:Nat):Int:=if s<4194304 then(if dl=18446744073709551615 then 2 else if dl≤now then 3 else 0)else 2
section
variable{w w':World}{p now bm bb:Nat}{ws:List Nat}
theorem Aziy5 {P:Prop}(h:P:=by
 go_enter func288,ntmps288
 go_wp2_with (go_at_call 233;refine HCk.out.mono ?_;rintro e w' ⟨rfl,rfl⟩)
 go_ret;exact⟨rfl,rfl⟩):P:=h
theorem UG(h:kz w p now ws bm bb){s dl:Nat}(h32:s≤4294967295)(hd:dl≤18446744073709551615):Calls prog 288 #[lkP p,.int .u32 s,.int .u64 dl] w fun e w'=>e=.returned (.int .i64 (atE now s dl))∧w=w':=by
 have HCk:=za (Ko h h32);obtain⟨c0,_,_,_,_⟩:=h.cells;clear h;unfold qK at HCk;unfold atE;by_cases hs:s<4194304
 ·rw[zk hs]at HCk ⊢;by_cases hn:dl=18446744073709551615
  ·rw[zk hn];have e1:((dl:Int)==18446744073709551615)=true:=by simp;omega
   clear hn;exact Aziy5
  ·rw[zh hn];have e1:((dl:Int)==18446744073709551615)=false:=by simp;omega
   clear hn;by_cases hl:dl≤now
   ·rw[zk hl];have d1:decide ((dl:Int)≤(now:Int))=true:=zL (by omega);have d2:decide (dl≤now)=true:=zL hl;exact Aziy5
   ·rw[zh hl];have d1:decide ((dl:Int)≤(now:Int))=false:=zQ (by omega);have d2:decide (dl≤now)=false:=zQ hl;exact Aziy5
 ·rw[zh hs]at HCk ⊢;exact Aziy5
end
section
variable{w w':World}{D:Nat→Prop}{p now:Nat}{ws:List Nat}{bm bb:Nat}{Ds:Nat→Nat→Prop}{Dm Db:DataW Unit}{M:List Td}{Lss:List (List (List Nat))}
theorem Azpue {P:Prop}(h:P:=by
 go_region
 all_goals
   (try go_wp2)
   try go_meet
   first
     | exact⟨rfl,hpx⟩
     | exact⟨rfl,hpx.drew⟩
     | exact⟨rfl,hpx.alloc _⟩
     | exact⟨rfl,(hpx.alloc _).drew⟩):P:=h
theorem Azhsu {P:Prop}(h:P:=by
 go_region
 all_goals
   (try go_wp2)
   go_meet
   first
     | exact⟨rfl,(Mod.refl _ _).alloc _⟩
     | exact⟨rfl,((Mod.refl _ _).alloc _).drew⟩):P:=h
theorem zhf(h:yq w D p now ws bm bb Ds Dm Db M Lss){x:Td}(hs:x.slot<4194304)(hd:x.dl<18446744073709551615)(hb:x.birth≤18446744073709551615)(hb0:x.birth≠0)(hn:now<x.dl)(hMl:M.length<maxLen){Ls:List (List Nat)}{L:List Nat}
    (hL:Lss[lvl now x.dl]? = some Ls) (hK:Ls[bkt now x.dl]? = some L) (hf : ¬ inL Ls x.slot) (h1 : ∀ y∈M,y.slot≠x.slot) (h2 : ∀ y∈M,y.birth≠x.birth) :
    Calls prog 239 #[lkP p,tdV x] w fun e w'=>e=.returned (.int .i64 0)∧(∃ D' Ds' Dm' Db',yq w' D' p now ws bm bb Ds' Dm' Db' (x::M) (Lss.set (lvl now x.dl) (Ls.set (bkt now x.dl) (L++[x.slot])))∧yi D D' w)∧Mod D w w':=by
  have hal:zb w (w.alloc (.cells #[.int .u32 x.slot,.int .u64 x.dl,.int .u64 x.birth] 226)):=(Mod.refl _ w).alloc _;have h3:=zi (w:=w) (o := .cells #[.int .u32 x.slot,.int .u64 x.dl,.int .u64 x.birth] 226 (0,0)) rfl;have HC:=za (h.pure hal);have HCk:=za (Ya (h.pure hal).box hs);have hat:=UG (h.pure hal).box (s:=x.slot) (dl:=x.dl) (by omega) (by omega);unfold atE at hat;rw[zk hs,zh (by omega),zh (by omega)]at hat;have HAt:=za hat;have HPu:=za (fun(W:World) (hW:zb w W)=>za6 (h.pure hW) (x:=x) (M':=x::M) hs (by omega) hb (by omega) hMl hL hK hf (.inl ⟨h1,h2,rfl⟩));have hlk:=fun(W:World) (hW:zb (w.alloc (.cells #[.int .u32 x.slot,.int .u64 x.dl,.int .u64 x.birth] 226)) W)=>((h.pure hal).pure hW).what.look_no (s:=x.slot) (by omega) h1
  have hlb:=fun(W:World) (hW:zb (w.alloc (.cells #[.int .u32 x.slot,.int .u64 x.dl,.int .u64 x.birth] 226)) W)=>((h.pure hal).pure hW).births.look (s:=x.birth) hb
  have hbh:Maps.has Db (kB x.birth)=false:=by
    cases hh:Maps.has Db (kB x.birth)with
    | false=>rfl
    | true=>obtain⟨y,hy,e⟩:=(h.births.has _).1 hh;exact absurd e (h2 y hy)
  rw[hbh]at hlb;have HLK:=za hlk;have HLB:=za hlb;have HAL:=za hal;have e0:((x.birth:Int)==0)=false:=by simp;omega
  clear h hal hat hlk hlb hbh hL hK hf h1 h2 hb0;unfold tdV at HPu HLK ⊢;go_enter func239,ntmps239;go_upto_region 1 with fail
  generalize w.alloc (.cells #[.int .u32 x.slot,.int .u64 x.dl,.int .u64 x.birth] 226)=W1 at *;obtain⟨b3,hb3⟩:=zc w.heap.size;rw[hb3]at h3 ⊢;have H3:=za h3;clear hb3;obtain⟨h3_0,h3_1,h3_2,h3_f,h3_l,H_h3⟩:=cr3 h3;clear h3;obtain⟨c0,c9,c10,_,_⟩:=HC.out.box.cells;go_upto_region 9 with(first
    | (go_at_call 233;refine HCk.out.mono ?_;rintro e w' ⟨rfl,rfl⟩)
    | (go_at_call 288;refine HAt.out.mono ?_;rintro e w' ⟨rfl,rfl⟩))
  have hk1:=HLK.out W1 (Mod.refl _ _);have hk2:=HLK.out W1.drew (Mod.refl _ _).drew;have hk3:=HLK.out (W1.alloc (.cells #[.int .u32 0,.int .u64 0,.int .u64 0] 226)) ((Mod.refl _ _).alloc _);have hk4:=HLK.out (W1.alloc (.cells #[.int .u32 0,.int .u64 0,.int .u64 0] 226)).drew ((Mod.refl _ _).alloc _).drew
  go_cut [8] (fun v wx=>v=.bool false∧zb W1 wx)
  case first =>
    exact Azhsu
  case rest =>
    obtain⟨rfl,hpx⟩:=hcut;have h3x:=hpx.heap (fun h=>h) H3.out;have HCx:=za (HC.out.pure hpx);have HPX:=za hpx;have H3x:=za h3x;clear h3_0 h3_1 h3_2 h3_f h3_l;clear H_h3 c0 c9 c10 hk1 hk2 hk3 hk4;obtain⟨h3x_0,h3x_1,h3x_2,h3x_f,h3x_l,H_h3x⟩:=cr3 h3x;clear h3x;obtain⟨c0,c9,c10,_,_⟩:=HCx.out.box.cells;have hk1:=HLB.out wc hpx;have hk2:=HLB.out wc.drew hpx.drew;have hk3:=HLB.out (wc.alloc (.cells #[] 358)) (hpx.alloc _);have hk4:=HLB.out (wc.alloc (.cells #[] 358)).drew (hpx.alloc _).drew;go_upto_region 10 with fail
    go_cut [10] (fun v wx=>v=.bool false∧zb W1 wx)
    case first =>
      exact Azpue
    case rest =>
      obtain⟨rfl,hpy⟩:=hcut;have h3y:=hpy.heap (fun h=>h) H3.out;have HCy:=za (HC.out.pure hpy);have HPY:=za hpy;have H3y:=za h3y;clear h3x_0 h3x_1 h3x_2 h3x_f h3x_l;clear H_h3x c0 c9 c10 hk1 hk2 hk3 hk4 HCx;obtain⟨h3y_0,h3y_1,h3y_2,h3y_f,h3y_l,H_h3y⟩:=cr3 h3y;clear h3y;obtain⟨c0,c9,c10,_,_⟩:=HCy.out.box.cells;go_upto_region 13 with fail
      go_upto_region 14 with(go_at_call 289;refine zm (HPu.out _ (by first | exact HAL.out.trans HPY.out | exact(HAL.out.trans HPY.out).drew)) ?_;rintro e w' ⟨rfl,⟨D',Ds',Dm',Db',hC,hg⟩,hm⟩)
      have hm0:Mod D w w':=((HAL.out.trans HPY.out).mono (fun _ _ h=>h.elim):Mod D w wc).trans (by first | exact hm | exact Mod.of_drew hm);have hg0:yi D D' w:=fun k hk=>by
        rcases hg k hk with e | e
        · exact .inl e
        · exact .inr (zH (HAL.out.trans HPY.out).size e)
      have HF:=za hC;have HM:=za hm0;have HG:=za hg0;clear hC hm hg hm0 hg0;go_wp2;exact zK (v := .int .i64 0) (by simp[results,results239,go_sem]) rfl ⟨rfl,⟨_,_,_,_,HF.out,HG.out⟩,HM.out⟩
end
def kL(now:Nat)(x:Td):Int:=if x.slot<4194304 then(if x.birth=0 then 2 else atE now x.slot x.dl)else 2
section
variable{w w':World}{D:Nat→Prop}{p now:Nat}{ws:List Nat}{bm bb:Nat}{Ds:Nat→Nat→Prop}{Dm Db:DataW Unit}{M:List Td}{Lss:List (List (List Nat))}
theorem Az07s {P:Prop}(h:P:=by
 go_wp2_with (go_at_call 233;refine HCk2.out.mono ?_;rintro e w' ⟨rfl,rfl⟩)
 have hpp:=HAL.out;exact zK (v := .int .i64 2) (by simp[results,results239,go_sem]) rfl ⟨rfl,by first | exact hpp | exact hpp.drew⟩):P:=h
theorem zkG(h:yq w D p now ws bm bb Ds Dm Db M Lss){x:Td}(h32:x.slot≤4294967295)(hd:x.dl≤18446744073709551615)(hb:x.birth≤18446744073709551615)(he:kL now x≠0) :
    Calls prog 239 #[lkP p,tdV x] w fun e w'=>e=.returned (.int .i64 (kL now x))∧zb w w':=by
  have hal:zb w (w.alloc (.cells #[.int .u32 x.slot,.int .u64 x.dl,.int .u64 x.birth] 226)):=(Mod.refl _ w).alloc _;have h3:=zi (w:=w) (o := .cells #[.int .u32 x.slot,.int .u64 x.dl,.int .u64 x.birth] 226 (0,0)) rfl;have hck:=Ko (h.pure hal).box (s:=x.slot) h32;unfold qK at hck;have hat:=UG (h.pure hal).box (s:=x.slot) (dl:=x.dl) h32 hd;have HCk:=za hck;have HAt:=za hat;have HAL:=za hal;obtain⟨E,hE⟩:=zc (kL now x);rw[hE]at he ⊢;clear h hal hck hat;unfold tdV;go_enter func239,ntmps239;go_upto_region 1 with fail
  generalize w.alloc (.cells #[.int .u32 x.slot,.int .u64 x.dl,.int .u64 x.birth] 226)=W1 at *;obtain⟨b3,hb3⟩:=zc w.heap.size;rw[hb3]at h3 ⊢;clear hb3;obtain⟨h3_0,h3_1,h3_2,h3_f,h3_l,H_h3⟩:=cr3 h3;clear h3;unfold kL at hE;by_cases hs:x.slot<4194304
  · rw[zk hs]at hE
    have hck:=HCk.out;rw[zk hs]at hck;have HCk2:=za hck;clear HCk hck;by_cases hb0:x.birth=0
    · rw[zk hb0]at hE
      subst hE;have e0:((x.birth:Int)==0)=true:=by simp;omega
      exact Az07s
    · rw[zh hb0]at hE
      have e0:((x.birth:Int)==0)=false:=by simp;omega
      rw[hE]at HAt;have e1:(E==0)=false:=by simpa using he
      clear hE
      go_wp2_with (first
        | (go_at_call 233;refine HCk2.out.mono ?_;rintro e w' ⟨rfl,rfl⟩)
        | (go_at_call 288;refine HAt.out.mono ?_;rintro e w' ⟨rfl,rfl⟩))
      have hpp:=HAL.out;exact zK (v := .int .i64 E) (by simp[results,results239,go_sem]) rfl ⟨rfl,by first | exact hpp | exact hpp.drew⟩
  · rw[zh hs]at hE
    subst hE;have hck:=HCk.out;rw[zh hs]at hck;have HCk2:=za hck;clear HCk hck;exact Az07s
end
section
variable{w w':World}{D:Nat→Prop}{p now:Nat}{ws:List Nat}{bm bb:Nat}{Ds:Nat→Nat→Prop}{Dm Db:DataW Unit}{M:List Td}{Lss:List (List (List Nat))}
theorem zeT(h:yq w D p now ws bm bb Ds Dm Db M Lss){x:Td}(hs:x.slot<4194304)(hd:x.dl<18446744073709551615)(hb:x.birth≤18446744073709551615)(hb0:x.birth≠0)(hn:now<x.dl)(h1:(∃ y∈M,y.slot=x.slot) ∨ ∃ y∈M,y.birth=x.birth) :
    Calls prog 239 #[lkP p,tdV x] w fun e w'=>e=.returned (.int .i64 11)∧zb w w':=by
  have hal:zb w (w.alloc (.cells #[.int .u32 x.slot,.int .u64 x.dl,.int .u64 x.birth] 226)):=(Mod.refl _ w).alloc _;have h3:=zi (w:=w) (o := .cells #[.int .u32 x.slot,.int .u64 x.dl,.int .u64 x.birth] 226 (0,0)) rfl;have HC:=za (h.pure hal);have HCk:=za (Ya (h.pure hal).box hs);have hat:=UG (h.pure hal).box (s:=x.slot) (dl:=x.dl) (by omega) (by omega);unfold atE at hat;rw[zk hs,zh (by omega),zh (by omega)]at hat;have HAt:=za hat;obtain⟨z,b1,b2,hlk,hlb,hbz⟩ : ∃(z:Td) (b1 b2:Bool),(∀ W,zb (w.alloc (.cells #[.int .u32 x.slot,.int .u64 x.dl,.int .u64 x.birth] 226)) W→(Instr.lookup 213 (.map (some bm)) (.int .u32 x.slot) true).run prog W=.ok (.tuple #[tdV z,.bool b1]) W)∧(∀ W,zb (w.alloc (.cells #[.int .u32 x.slot,.int .u64 x.dl,.int .u64 x.birth] 226)) W→(Instr.lookup 295 (.map (some bb)) (.int .u64 x.birth) true).run prog W=.ok (.tuple #[.agg #[],.bool b2]) W)∧(b1=true∨b1=false∧b2=true):=by
    have hlb:=fun(W:World) (hW:zb (w.alloc (.cells #[.int .u32 x.slot,.int .u64 x.dl,.int .u64 x.birth] 226)) W)=>((h.pure hal).pure hW).births.look (s:=x.birth) hb
    by_cases hy : ∃ y∈M,y.slot=x.slot
    · obtain⟨y,hy,e⟩:=hy
      refine⟨y,true,_,fun W hW => ?_,hlb,.inl rfl⟩;have:=((h.pure hal).pure hW).what.look hy (by omega);rw[e]at this;exact this
    · refine⟨⟨0,0,0⟩,false,_,fun W hW=>((h.pure hal).pure hW).what.look_no (s:=x.slot) (by omega) (fun y hm e=>hy ⟨y,hm,e⟩),hlb,.inr ⟨rfl,?_⟩⟩
      rcases h1 with h1 | ⟨y,hm,e⟩
      · exact absurd h1 hy
      · exact(h.births.has _).2 ⟨y,hm,e⟩
  have HLK:=za hlk;have HLB:=za hlb;have HAL:=za hal;have e0:((x.birth:Int)==0)=false:=by simp;omega
  clear h hal hat hlk hlb h1 hb0;unfold tdV at HLK ⊢;go_enter func239,ntmps239;go_upto_region 1 with fail
  generalize w.alloc (.cells #[.int .u32 x.slot,.int .u64 x.dl,.int .u64 x.birth] 226)=W1 at *;obtain⟨b3,hb3⟩:=zc w.heap.size;rw[hb3]at h3 ⊢;have H3:=za h3;clear hb3;obtain⟨h3_0,h3_1,h3_2,h3_f,h3_l,H_h3⟩:=cr3 h3;clear h3;obtain⟨c0,c9,c10,_,_⟩:=HC.out.box.cells;go_upto_region 9 with(first
    | (go_at_call 233;refine HCk.out.mono ?_;rintro e w' ⟨rfl,rfl⟩)
    | (go_at_call 288;refine HAt.out.mono ?_;rintro e w' ⟨rfl,rfl⟩))
  have hk1:=HLK.out W1 (Mod.refl _ _);have hk2:=HLK.out W1.drew (Mod.refl _ _).drew;have hk3:=HLK.out (W1.alloc (.cells #[.int .u32 0,.int .u64 0,.int .u64 0] 226)) ((Mod.refl _ _).alloc _);have hk4:=HLK.out (W1.alloc (.cells #[.int .u32 0,.int .u64 0,.int .u64 0] 226)).drew ((Mod.refl _ _).alloc _).drew
  go_cut [8] (fun v wx=>v=.bool b1∧zb W1 wx)
  case first =>
    exact Azhsu
  case rest =>
    obtain⟨rfl,hpx⟩:=hcut;have h3x:=hpx.heap (fun h=>h) H3.out;have HCx:=za (HC.out.pure hpx);have HPX:=za hpx;have H3x:=za h3x;clear h3_0 h3_1 h3_2 h3_f h3_l;clear H_h3 c0 c9 c10 hk1 hk2 hk3 hk4;obtain⟨h3x_0,h3x_1,h3x_2,h3x_f,h3x_l,H_h3x⟩:=cr3 h3x;clear h3x;obtain⟨c0,c9,c10,_,_⟩:=HCx.out.box.cells;have hk1:=HLB.out wc hpx;have hk2:=HLB.out wc.drew hpx.drew;have hk3:=HLB.out (wc.alloc (.cells #[] 358)) (hpx.alloc _);have hk4:=HLB.out (wc.alloc (.cells #[] 358)).drew (hpx.alloc _).drew;go_upto_region 10 with fail
    go_cut [10] (fun v wx=>v=.bool b2∧zb W1 wx)
    case first =>
      exact Azpue
    case rest =>
      obtain⟨rfl,hpy⟩:=hcut;have h3y:=hpy.heap (fun h=>h) H3.out;have HCy:=za (HC.out.pure hpy);have HPY:=za hpy;have H3y:=za h3y;clear h3x_0 h3x_1 h3x_2 h3x_f h3x_l;clear H_h3x c0 c9 c10 hk1 hk2 hk3 hk4 HCx;obtain⟨h3y_0,h3y_1,h3y_2,h3y_f,h3y_l,H_h3y⟩:=cr3 h3y;clear h3y;obtain⟨c0,c9,c10,_,_⟩:=HCy.out.box.cells;have hpp:=HAL.out.trans HPY.out;rcases hbz with rfl | ⟨rfl,rfl⟩
      all_goals
        go_wp2;exact zK (v := .int .i64 11) (by simp[results,results239,go_sem]) rfl ⟨rfl,by first | exact hpp | exact hpp.drew⟩
end




theorem KH{f:Nat→Bool}{n b:Nat}(h:uB f n=some b):b<n∧f b=true ∧ ∀ j,j<b→f j=false:=by
 unfold uB at h;rw[List.find?_range_eq_some]at h;exact⟨Z7.1 h.2.1,h.1,fun j hj=>by have:=h.2.2 j hj;simpa using this⟩
theorem za5{f:Nat→Bool}{n:Nat}(h:uB f n=none) : ∀ j,j<n→f j=false:=fun j hj=>by
 unfold uB at h;rw[jb]at h;have:=h j (Z7.2 hj);simpa using this
def Kv(f:Nat→Bool)(b:Nat)(e:Int):Prop:=uB f 256=some b∧e=0∨uB f 256=none∧b=0∧e=9
theorem JH(f:Nat→Bool) : ∃(b:Nat) (e:Int),Vd f=.tuple #[.int .i64 b,.int .i64 e]∧Kv f b e:=by
 unfold Vd Kv
 cases uB f 256 with
 | some b=>exact⟨b,0,rfl,.inl ⟨rfl,rfl⟩⟩
 | none=>exact⟨0,9,rfl,.inr ⟨rfl,rfl,rfl⟩⟩
section
variable{w w':World}{D:Nat→Prop}{p now:Nat}{ws:List Nat}{bm bb:Nat}{Ds:Nat→Nat→Prop}{Dm Db:DataW Unit}{M:List Td}{Lss:List (List (List Nat))}
theorem yq.level0(h:yq w D p now ws bm bb Ds Dm Db M Lss){l q:Nat}{Ls':List (List Nat)}(hl:l<8)(hq:ws[l]? = some q)(hw:yV w' (Ds l) q Ls')(hm:Mod (Ds l) w w'):yq w' D p now ws bm bb Ds Dm Db M (Lss.set l Ls'):=by
 obtain⟨D2,hC,_⟩:=h.level hl hq hw (yi.refl _ _) hm;have e1:kD Ds l (Ds l)=Ds:=by
  funext k
  unfold kD;split
  ·rename_i e;rw[e]
  ·rfl
 rw[e1]at hC;have e2:D2=D:=by
  funext k
  exact propext ((hC.dd k).trans (h.dd k).symm)
 rw[e2]at hC;exact hC
structure EmI(w wr:World)(D:Nat→Prop)(p now:Nat)(ws:List Nat)(bm bb:Nat)(Ds:Nat→Nat→Prop)(Dm Db:DataW Unit)(M:List Td)(Lss:List (List (List Nat)))(lv n:Nat)(Ls cur:List (List Nat))(a:Option Addr)(c:Nat)(out:List Nat):Prop where
 mem:yq wr D p now ws bm bb Ds Dm Db M (Lss.set lv cur)
 row:yr wr a c out
 fresh:xA w (.slice a out.length c)
 mod:Mod D w wr
 sum:out++(cur.take n).flatten=vf Ls n
 rest:cur.drop n=Ls.drop n
 len:cur.length=256
theorem Azyfp {P:Prop}(h:P:=by
 have hres:=HIr.out;rw[G1.out,G2.out]at hres;have HRES:=za hres;rw[G1.out];clear hres;go_wp2;go_ret;exact⟨a,c,rfl,HRES.out.row,HRES.out.fresh,HRES.out.mem,HRES.out.mod⟩):P:=h
theorem zkt(h:yq w D p now ws bm bb Ds Dm Db M Lss)(hT:xy w)(h0 : ¬ D 0){lv m:Nat}(hm:m<256)(hl8:lv<8){Ls:List (List Nat)}(hL:Lss[lv]? = some Ls)(hb:(vf Ls (m+1)).length≤4194304) :
  Calls prog 296 #[lkP p,.int .i64 lv,.int .i64 m] w fun e w' => ∃ a c,e=.returned (.slice a (vf Ls (m+1)).length c)∧yr w' a c (vf Ls (m+1))∧xA w (.slice a (vf Ls (m+1)).length c)∧yq w' D p now ws bm bb Ds Dm Db M (Lss.set lv (kn Ls (m+1)))∧Mod D w w':=by
 obtain⟨q,hq⟩ : ∃ q,ws[lv]? = some q:=⟨_,zN (by rw[h.box.len];exact hl8)⟩;have hNx:=fun(W:World) (cur:List (List Nat)) (hM:yq W D p now ws bm bb Ds Dm Db M (Lss.set lv cur)) (hW:Mod D w W)=>zcg (hM.lev lv q cur hq (yo (by rw[h.len];exact hl8))) (hT.mod hW h0)
 have hlL:Lss.set lv Ls=Lss:=by
  refine uF (fun j => ?_);by_cases e:lv=j
  ·subst e;rw[yo (by rw[h.len];exact hl8),hL]
  ·rw[yx e]
 have hLs:Ls.length=256:=(h.lev lv q Ls hq hL).len;have hI:EmI w w D p now ws bm bb Ds Dm Db M Lss lv (m+1) Ls Ls none 0 []:=⟨by rw[hlL];exact h,vj _ _ _ _,(fun g hg=>by cases hg),Mod.refl _ _,rfl,rfl,hLs⟩;obtain⟨b0,e0,hne,hc0⟩:=JH (neB Ls);have hn0:=hNx w Ls hI.mem (Mod.refl _ _);rw[hne]at hn0;have HN0:=za hn0;have HNx:=za hNx;have hcl:=h.box.level hq;obtain⟨c0,_,_,_,_⟩:=h.box.cells;have HI:=za hI;have HQ:=za hq;have HB:=za hb;have HC0:=za hc0;have HLS:=za hLs;have hlss : ∀ cur,(Lss.set lv cur)[lv]? = some cur:=fun cur=>yo (by rw[h.len];exact hl8)
 have HLSS:=za hlss;have hset : ∀ A B,(Lss.set lv A).set lv B=Lss.set lv B:=fun A B=>List.set_set ..
 have HSET:=za hset;have hDlt : ∀ k,D k→k<w.heap.size:=fun k hk=>h.lt hk
 have hlvD : ∀ k,Ds lv k→D k:=fun k hk=>(h.dd k).2 (.inr (.inr (.inr ⟨lv,hl8,hk⟩)))
 have HDLT:=za hDlt;have HLVD:=za hlvD;clear h hT h0 hL hq hI hne hn0 hNx hlL hb hc0 hLs hlss hset hDlt hlvD;have dl8:decide (lv<8)=true:=zL hl8;have l0:(0:Int)≤(lv:Int):=by omega
 have l1:(lv:Int)<8:=by omega
 obtain⟨i0,hi,iz0,iz1,iz2⟩:=xn jC;go_enter func296,ntmps296;go_upto_region 3 with(go_at_call 265;refine HN0.out.mono ?_;rintro e w' ⟨rfl,rfl⟩)
 clear c0 hcl;go_loopw [7,8,9] (fun v7 v8 v9 wr => ∃ cur a c out b er,v7=.slice a out.length c∧v8=.int .i64 (b:Nat)∧v9=.int .i64 er∧Kv (neB cur) b er∧EmI w wr D p now ws bm bb Ds Dm Db M Lss lv (m+1) Ls cur a c out) (fun _ v8 v9 _=>if intOf v9=0 then 256-(intOf v8).toNat else 0)
 case atStart=>exact⟨Ls,none,0,[],b0,e0,rfl,rfl,rfl,HC0.out,HI.out⟩
 case round =>
  obtain⟨cur,a,c,out,b,er,rfl,rfl,rfl,hc,hI⟩:=hrel;have HIr:=za hI;have hcl:=hI.mem.box.level HQ.out;obtain⟨c0,_,_,_,_⟩:=hI.mem.box.cells;have fin:(∀ i,i<m+1→neB cur i=false)→out=vf Ls (m+1)∧cur=kn Ls (m+1):=fun hz=>by
   have e1:=zae (by rw[hI.len];omega) hz;have e2:=hI.sum;rw[e1,zkY,jm]at e2;refine⟨e2,?_⟩;unfold kn;rw[← hI.rest,← e1,Yy]
  have FIN:=za fin;clear fin hI;rcases hc with⟨hf,rfl⟩ | ⟨hf,rfl,rfl⟩
  ·obtain⟨f1,f2,f3⟩:=KH hf;by_cases hbm:b≤m
   ·have hbm':(b:Int)≤(m:Int):=by omega
    obtain⟨l,hl⟩ : ∃ l,cur[b]? = some l:=⟨_,zN (by rw[HIr.out.len];exact f1)⟩;have hTk:=ze8 (HIr.out.mem.lev lv q cur HQ.out (HLSS.out cur)) hl;have hfl:=zau (n:=m+1) (by omega) hl f3;have hsum:=HIr.out.sum;rw[hfl,← vH]at hsum;have hll:(out++l).length≤4194304:=by
     have:=HB.out;rw[← hsum,zR]at this;omega
    rw[zR]at hll;have hrest:(cur.set b []).drop (m+1)=Ls.drop (m+1):=by
     rw[← HIr.out.rest,List.drop_set_of_lt (by omega)]
    obtain⟨b1,e1,hne1,hc1⟩:=JH (neB (cur.set b []));have hneb:neB (cur.set b [])=vL (neB cur) b false:=Jk (by rw[HIr.out.len];exact f1) [];have hmeas:e1=0→b<b1∧b1<256:=fun hz=>by
     rcases hc1 with⟨g1,_⟩ | ⟨_,_,g2⟩
     ·obtain⟨g1,g2,_⟩:=KH g1;refine⟨?_,g1⟩;rw[hneb]at g2;unfold vL at g2;rcases qU b1 b with k | k | k
      ·rw[zh (by omega),f3 b1 k]at g2;cases g2
      ·rw[zk k]at g2;cases g2
      ·exact k
     ·rw[g2]at hz;cases hz
    have HMEAS:=za hmeas;have HSUM:=za hsum;have HREST:=za hrest;have HC1:=za hc1;have HNE1:=za hne1;obtain⟨nl,hnl⟩:=zc l.length;obtain⟨no,hno⟩:=zc out.length;rw[hnl]at hTk hll;rw[hno]at hll ⊢;have HTk:=za hTk;have HNL:=za hnl;have HNO:=za hno;have hbl:b<256:=f1;clear hf f1 f2 f3 hl hTk hfl hsum hrest hc1 hne1 hneb hmeas hnl hno;go_upto_region 6 with(go_at_call 341;refine HTk.out.mono ?_;rintro e w2 ⟨a2,c2,rfl,hr2,hf2,hw2,hm2⟩)
    have hmem2:yq w2 D p now ws bm bb Ds Dm Db M (Lss.set lv (cur.set b [])):=by
     have:=HIr.out.mem.level0 hl8 HQ.out hw2 hm2;rw[HSET.out]at this;exact this
    have hmD2:Mod D wr w2:=hm2.mono (fun k _ hk=>HLVD.out k hk);have hro2:w2.ownsRow 0 114 1 (.slice a no c) no (zU out):=by
     have:=HIr.out.row;unfold yr at this;rw[HNO.out]at this;exact zy this hmD2 (fun g hg hk=>by have:=HIr.out.fresh g (by rw[HNO.out];exact hg);have:=HDLT.out g hk;omega)
    have hRD2:zn w2 (.slice a2 nl c2) 1 (zU l):=by have:=qi hr2;rw[HNL.out]at this;exact this
    have HRO2:=za hro2;have HRD2:=za hRD2;have HM2:=za hmem2;have HMD2:=za (HIr.out.mod.trans hmD2);clear hr2 hf2 hw2 hm2 hmem2 hmD2 hro2 hRD2 hcl c0;go_upto_region 4 with(at_builtin;refine ul _ rfl _ _ 132 rfl 114 i0 _ 1 4 underlying132 hi iz0 iz1 iz2 rfl (by decide) (.slice a no c) no _ rfl HRO2.out _ (zU l) nl rfl HRD2.out (by rw[qd,HNL.out,qh]) (by unfold maxLen;omega) (by omega) ?_;intro a7 c7 w5 hr7 hg7 hb7)
    have hmg:Mod (fun k=>(Value.slice a no c).ownBlock=some k) w2 w5:=Mod.of_grown (S:=fun k'=>(Value.slice a no c).ownBlock=some k') hg7 (fun k e _=>e);have hfa : ∀ k,(Value.slice a no c).ownBlock=some k→w.heap.size≤k:=fun k e=>HIr.out.fresh k (by rw[HNO.out];exact e)
    have hmem5:=HM2.out.frame hmg (fun k hk e=>by have:=hfa k e;have:=HDLT.out k hk;omega);have hm5:Mod D w w5:=HMD2.out.then hmg (fun k hk e=>by have:=hfa k e;omega);have hf5:xA w (.slice a7 (no+nl) c7):=fun k hk=>by
     rcases hb7 with e | e
     ·exact hfa k (e ▸ hk)
     ·rw[e]at hk;cases hk;exact HMD2.out.size
    have hno2:(out++l).length=no+nl:=by rw[zR,HNO.out,HNL.out]
    have hI5:EmI w w5 D p now ws bm bb Ds Dm Db M Lss lv (m+1) Ls (cur.set b []) a7 c7 (out++l):=⟨hmem5,by unfold yr;rw[hno2,qA];exact hr7,by rw[hno2];exact hf5,hm5,HSUM.out,HREST.out,by rw[xH];exact HIr.out.len⟩;have hn5:=HNx.out w5 _ hI5.mem hm5;rw[HNE1.out]at hn5;have HN5:=za hn5;have HI5:=za hI5;have HNO2:=za hno2;have hcl:=hI5.mem.box.level HQ.out;obtain⟨c0,_,_,_,_⟩:=hI5.mem.box.cells;clear hr7 hg7 hb7 hmg hfa hmem5 hm5 hf5 hno2 hI5 hn5
    go_wp2_with (go_at_call 265;refine HN5.out.mono ?_;rintro e w' ⟨rfl,rfl⟩)
    go_roundw
    case rel=>exact⟨_,a7,c7,_,b1,e1,by rw[HNO2.out],rfl,rfl,HC1.out,HI5.out⟩
    case measure =>
     have hq:=HMEAS.out;by_cases hz:e1=0
     ·have:=hq hz;simp[intOf,hz];omega
     ·simp[intOf,hz];omega
   ·have hbm' : ¬ ((b:Int)≤(m:Int)):=by omega
    obtain⟨g1,g2⟩:=FIN.out (fun i hi=>f3 i (by omega));have G1:=za g1;have G2:=za g2;clear g1 g2 hf f1 f2 f3 hcl c0;exact Azyfp
  ·obtain⟨g1,g2⟩:=FIN.out (fun i hi=>za5 hf i (by omega));have G1:=za g1;have G2:=za g2;clear g1 g2 hf hcl c0;exact Azyfp
end
section
variable{w w':World}{D:Nat→Prop}{p now:Nat}{ws:List Nat}{bm bb:Nat}{Ds:Nat→Nat→Prop}{Dm Db:DataW Unit}{M M' L:List Td}{Lss:List (List (List Nat))}
theorem yL.perm{b:Nat}{A:DataW Unit}(h:yL w b M A)(hp:M.Perm M'):yL w b M' A :=
 ⟨by rw[← hp.length_eq];exact h.own,fun x hx=>h.at_ x (hp.mem_iff.2 hx),fun s hs=>by obtain⟨x,hx,e⟩:=h.has s hs;exact⟨x,hp.mem_iff.1 hx,e⟩,by rw[← hp.length_eq];exact h.size⟩
theorem xS.perm{b:Nat}{A:DataW Unit}(h:xS w b M A)(hp:M.Perm M'):xS w b M' A :=
 ⟨by rw[← hp.length_eq];exact h.own,fun s=>by rw[h.has];exact⟨fun⟨x,hx,e⟩=>⟨x,hp.mem_iff.1 hx,e⟩,fun⟨x,hx,e⟩=>⟨x,hp.mem_iff.2 hx,e⟩⟩,by rw[← hp.length_eq];exact h.size⟩
theorem yq.perm(h:yq w D p now ws bm bb Ds Dm Db M Lss)(hp:M.Perm M'):yq w D p now ws bm bb Ds Dm Db M' Lss :=
 ⟨h.box,h.what.perm hp,h.births.perm hp,h.len,h.lev,h.apart,h.own,h.ne,h.dd⟩
def yn(w:World)(D:Nat→Prop)(p now:Nat)(L:List Td):Prop :=
 ∃ ws bm bb Ds Dm Db Lss,yq w D p now ws bm bb Ds Dm Db L Lss∧yc now L (fun _=>False) Lss∧L.Pairwise bef
theorem yn.frame{S:Nat→Prop}(h:yn w D p now L)(hm:Mod S w w')(hd : ∀ k,D k → ¬ S k):yn w' D p now L:=by
 obtain⟨ws,bm,bb,Ds,Dm,Db,Lss,h1,h2⟩:=h;exact⟨ws,bm,bb,Ds,Dm,Db,Lss,h1.frame hm hd,h2⟩
theorem yn.pure(h:yn w D p now L)(hm:zb w w'):yn w' D p now L:=h.frame hm (fun _ _ h=>h)
theorem yn.lt(h:yn w D p now L){k:Nat}(hk:D k):k<w.heap.size:=by
 obtain⟨ws,bm,bb,Ds,Dm,Db,Lss,h1,h2⟩:=h;exact h1.lt hk
theorem yn.self(h:yn w D p now L):D p:=by
 obtain⟨ws,bm,bb,Ds,Dm,Db,Lss,h1,h2⟩:=h;exact(h1.dd p).2 (.inl rfl)
theorem yn.now64(h:yn w D p now L):now<18446744073709551616:=by
 obtain⟨ws,bm,bb,Ds,Dm,Db,Lss,h1,h2⟩:=h;exact h1.box.now
theorem yn.rng(h:yn w D p now L) : ∀ x∈L,x.slot<4194304∧now<x.dl∧x.dl<18446744073709551615∧0<x.birth∧x.birth≤18446744073709551615:=by
 obtain⟨ws,bm,bb,Ds,Dm,Db,Lss,h1,h2,h3⟩:=h;intro x hx;obtain⟨a,b,c⟩:=h2.rng x hx;exact⟨a,h2.after x hx (fun c=>c),b,c⟩
theorem yn.uniq(h:yn w D p now L):(∀ x∈L,∀ y∈L,x.slot=y.slot→x=y)∧(∀ x∈L,∀ y∈L,x.birth=y.birth→x=y)∧L.Pairwise bef:=by
 obtain⟨ws,bm,bb,Ds,Dm,Db,Lss,h1,h2,h3⟩:=h;exact⟨h2.slots,h2.births,h3⟩
def jH(now:Nat)(L:List Td)(x:Td):Int:=if kL now x=0 then(if xO L x.slot||Yx L x.birth then 11 else 0)else kL now x
def Yq(now:Nat)(L:List Td)(x:Td):List Td:=if jH now L x=0 then xW L x else L
theorem zfO{s dl:Nat}(h:atE now s dl=0)(hd:dl≤18446744073709551615):s<4194304∧now<dl∧dl<18446744073709551615:=by
 unfold atE at h;split at h
 ·split at h
  ·cases h
  ·split at h
   ·cases h
   ·refine⟨by assumption,by omega,by omega⟩
 ·cases h
theorem zfk{x:Td}(h:kL now x=0)(hd:x.dl≤18446744073709551615):x.slot<4194304∧x.birth≠0∧now<x.dl∧x.dl<18446744073709551615:=by
 unfold kL at h;split at h
 ·split at h
  ·cases h
  ·obtain⟨_,a,b⟩:=zfO h hd;exact⟨by assumption,by assumption,a,b⟩
 ·cases h
theorem Azssa {P:Prop}(h:P:=by
 rintro e w' ⟨rfl,hp⟩;exact⟨rfl,⟨D,h'.pure hp,yi.refl _ _⟩,Mod.of_pure hp⟩):P:=h
theorem yn.sched(h:yn w D p now L){x:Td}(h32:x.slot≤4294967295)(hd:x.dl≤18446744073709551615)(hb:x.birth≤18446744073709551615)(hl:L.length<maxLen) :
  Calls prog 239 #[lkP p,tdV x] w fun e w'=>e=.returned (.int .i64 (jH now L x))∧(∃ D',yn w' D' p now (Yq now L x)∧yi D D' w)∧Mod D w w':=by
 have h':=h;obtain⟨ws,bm,bb,Ds,Dm,Db,Lss,h1,h2,h3⟩:=h;unfold Yq;by_cases e0:kL now x=0
 ·obtain⟨a1,a2,a3,a4⟩:=zfk e0 hd;by_cases c:(xO L x.slot||Yx L x.birth)=true
  ·have er:jH now L x=11:=by unfold jH;rw[zk e0,zk c]
   rw[er,zh (by decide)];rw[Bool.or_eq_true,uH,Kx]at c;refine(zeT h1 a1 a4 hb a2 a3 c).mono ?_;exact Azssa
  ·have er:jH now L x=0:=by unfold jH;rw[zk e0,zh c]
   rw[er,zk rfl];rw[Bool.or_eq_true,uH,Kx,not_or]at c;have c1 : ∀ y∈L,y.slot≠x.slot:=fun y hy e=>c.1 ⟨y,hy,e⟩
   have c2 : ∀ y∈L,y.birth≠x.birth:=fun y hy e=>c.2 ⟨y,hy,e⟩
   obtain⟨Ls,B,hL,hK⟩:=h2.get (uR h1.box.now (dl:=x.dl) (by omega)).1 (Y5 (now:=now) (dl:=x.dl));refine(zhf h1 a1 a4 hb a2 a3 hl hL hK (h2.notL (fun y hy e=>absurd e (c1 y hy)) hL) c1 c2).mono ?_;rintro e w' ⟨rfl,⟨D',Ds',Dm',Db',hC,hg⟩,hm⟩;exact⟨rfl,⟨D',⟨_,_,_,_,_,_,_,hC.perm qr.symm,h2.sched a3 ⟨a1,a4,by omega,hb⟩ c1 c2 hL hK,Xx h3 c2⟩,hg⟩,hm⟩
 ·have er:jH now L x=kL now x:=by unfold jH;rw[zh e0]
  rw[er,zh e0];refine(zkG h1 h32 hd hb e0).mono ?_;exact Azssa
theorem yn.get(h:yn w D p now L){s:Nat}(h32:s≤4294967295) :
  Calls prog 284 #[lkP p,.int .u32 s] w fun e w'=>e=.returned (.tuple #[tdV (getTd L s).1,.int .i64 (getTd L s).2])∧zb w w':=by
 obtain⟨ws,bm,bb,Ds,Dm,Db,Lss,h1,h2,h3⟩:=h;exact Qf h1 h32
theorem VF(L:List Td)(s:Nat):(s<4194304∧xO L s=true ∧ ∃ x,getTd L s=(x,0)∧x.slot=s∧L[qR L s]? = some x∧L.find? (fun y=>y.slot==s)=some x∧L.Perm (x::Zd L s))∨((¬ s<4194304∨xO L s=false) ∧ ∃ er,getTd L s=(zTd,er)∧er≠0):=by
 by_cases hs:s<4194304
 ·cases hh:xO L s with
  | true =>
   obtain⟨x,h1,h2,h3,h4⟩:=Ul (VM.2 hh);exact .inl ⟨hs,rfl,x,Xo hs h3,h2,h1,h3,h4⟩
  | false=>exact .inr ⟨.inr rfl,9,Y3 hs (Vp hh),by decide⟩
 ·exact .inr ⟨.inl hs,2,Ut hs,by decide⟩
def vB(L:List Td)(s:Nat):List Td:=if (getTd L s).2=0 then Zd L s else L
theorem yn.cancel(h:yn w D p now L){s:Nat}(h32:s≤4294967295) :
  Calls prog 238 #[lkP p,.int .u32 s] w fun e w'=>e=.returned (.tuple #[tdV (getTd L s).1,.int .i64 (getTd L s).2])∧(∃ D',yn w' D' p now (vB L s)∧yi D D' w)∧Mod D w w':=by
 have h':=h;obtain⟨ws,bm,bb,Ds,Dm,Db,Lss,h1,h2,h3⟩:=h;unfold vB;rcases VF L s with⟨hs,_,x,e1,rfl,_,e3,e4⟩ | ⟨_,er,e1,e2⟩
 ·rw[e1];obtain⟨hx,w1,w2,w3,w4⟩:=h2.without e4;obtain⟨a1,a2,a3,a4⟩:=h2.rng x hx;have a5:=h2.after x hx (fun c=>c);obtain⟨Ls,B,hL,hK⟩:=h2.get (uR h1.box.now (dl:=x.dl) (by omega)).1 (Y5 (now:=now) (dl:=x.dl));have hf:x.slot∈B:=by
   obtain⟨A,C,b1,b2,b3⟩:=(h2.at_ (lvl now x.dl) (bkt now x.dl) x.slot).2 ⟨(fun c=>c),x,hx,rfl,rfl,rfl⟩;rw[hL]at b1;cases b1;rw[hK]at b2;cases b2;exact b3
  refine(zkg h1 e3 a1 (by omega) a4 (by omega) hL hK hf w1 w2 w4).mono ?_;rintro e w' ⟨rfl,⟨D',Ds',Dm',Db',hC,hg⟩,hm⟩;exact⟨rfl,⟨D',⟨_,_,_,_,_,_,_,hC,h2.cut hx w1 w3 hL hK,ZH h3⟩,hg⟩,hm⟩
 ·rw[e1];dsimp only;rw[zh e2];refine(zfQ h1 h32 e1 e2).mono ?_;exact Azssa
theorem yn.now_(h:yn w D p now L):Calls prog 153 #[lkP p] w fun e w'=>e=.returned (.int .u64 now)∧w=w':=by
 obtain⟨ws,bm,bb,Ds,Dm,Db,Lss,h1,h2,h3⟩:=h;exact ziG h1
end
section
variable{w w':World}{D:Nat→Prop}{p now tt k lv n:Nat}{ws:List Nat}{bm bb:Nat}{Ds:Nat→Nat→Prop}{Dm Db:DataW Unit}{M L:List Td}{Lss:List (List (List Nat))}{P:Nat→Prop}{Ls:List (List Nat)}
theorem yc.bound(h:yc now M P Lss){A:List Nat}(hA:A.Nodup)(hs : ∀ s∈A,∃ l b,xc Lss l b s):A.length≤4194304 :=
 qJ hA (fun s hs'=>by
  obtain⟨l,b,h1⟩:=hs s hs';obtain⟨_,x,hx,e,_⟩:=(h.at_ _ _ _).1 h1;have:=(h.rng x hx).1;rw[e]at this;exact this)
theorem yc.count(h:yc now M P Lss):M.length≤4194304:=by
 have h1:(M.map (fun x=>x.slot)).Nodup:=by
  unfold List.Nodup;rw[uO];exact h.ndM.imp_of_mem (fun {a b} ha hb hne e=>hne (h.slots a ha b hb e))
 have:=qJ (N:=4194304) h1 (fun s hs=>by
  obtain⟨x,hx,rfl⟩:=zI.1 hs;exact(h.rng x hx).1)
 rw[yt]at this;exact this
theorem yc.moved_le(h:yc now M P Lss)(hL:Lss[lv]? = some Ls):(vm Lss lv++vf Ls n).length≤4194304 :=
 h.bound (h.nodup_moved hL) (fun s hs=>by
  rcases yF.1 hs with hs | hs
  ·obtain⟨l,b,_,h1⟩:=Kb.1 hs;exact⟨l,b,h1⟩
  ·obtain⟨b,B,_,h1,h2⟩:=Kt.1 hs;exact⟨lv,b,Ls,B,hL,h1,h2⟩)
theorem zgM(h:Ls.length=256):kn Ls 256=List.replicate 256 []:=by
 unfold kn;rw[ZP (by omega),jm]
theorem UW(h:Ls.length=256):vf Ls 256=Ls.flatten:=by
 unfold vf;rw[kM (by omega)]
theorem yq.setNow(h:yq w D p now ws bm bb Ds Dm Db M Lss)(ht:tt<18446744073709551616):yq (w.setCell ⟨p,0,none⟩ (.int .u64 tt)) D p tt ws bm bb Ds Dm Db M Lss∧Mod (fun k=>k=p) w (w.setCell ⟨p,0,none⟩ (.int .u64 tt)):=by
 have hm:Mod (fun k=>k=p) w (w.setCell ⟨p,0,none⟩ (.int .u64 tt)):=(Mod.refl (fun k=>k=p) w).setCell (p:=⟨p,0,none⟩) (fun _=>rfl) _;obtain⟨n1,n2,n3⟩:=h.ne;refine⟨⟨⟨?_,h.box.len,ht⟩,h.what.mod hm n2,h.births.mod hm n3,h.len,fun l q Ls hq hl=>(h.lev l q Ls hq hl).frame hm (fun k hk e => ?_),h.apart,h.own,h.ne,h.dd⟩,hm⟩
 ·rw[zP w p 0 _ _ (.int .u64 tt) h.box.box]
  congr 2
 ·have hl8:l<8:=by have:=(zF.1 hl).1;rw[h.len]at this;exact this
  exact(h.own l k hl8 hk).1 e
theorem zhL:(prog.info? 226).map (fun i=>(i.zero,i.size,i.bytes))=some (some (.agg #[.int .u32 0,.int .u64 0,.int .u64 0]),3,24):=by kernel_rfl
def Yn(tt:Nat)(L:List Td):List Td:=L.takeWhile (fun x=>decide (x.dl≤tt))
def JY(tt:Nat)(L:List Td):List Td:=L.dropWhile (fun x=>decide (x.dl≤tt))
theorem Aziim {P:Prop}(h:P:=by
 clear hlt;go_enter func247,ntmps247
 go_wp2_with (go_at_call 233;refine HCk.out.mono ?_;rintro e w' ⟨rfl,rfl⟩)
 go_ret2;exact⟨rfl,rfl⟩):P:=h
theorem yn.adv_no(h:yn w D p now L)(ht:tt≤now):Calls prog 247 #[lkP p,.int .u64 tt] w fun e w'=>e=.returned (.tuple #[.slice none 0 0,.int .i64 (if tt<now then 3 else 0)])∧w=w':=by
 obtain⟨ws,bm,bb,Ds,Dm,Db,Lss,h1,h2,h3⟩:=h;have HCk:=za (Ya h1.box (s:=0) (by omega));obtain⟨c0,c9,c10,_,_⟩:=h1.box.cells;clear h1 h2 h3;by_cases hlt:tt<now
 ·rw[zk hlt];have hlt':(tt:Int)<(now:Int):=by omega
  exact Aziim
 ·have e:tt=now:=by omega
  subst e;rw[zh hlt];have hlt' : ¬ (tt:Int)<(tt:Int):=by omega
  exact Aziim
end
section
variable{w w':World}{D:Nat→Prop}{p now tt:Nat}{ws:List Nat}{bm bb:Nat}{Ds:Nat→Nat→Prop}{Dm Db:DataW Unit}{M L:List Td}{Lss:List (List (List Nat))}
structure AvI(w wr:World)(D:Nat→Prop)(p tt:Nat)(L:List Td)(mv:List Nat)(a c)(ad:Option Addr)(cd:Nat)(Mj dj:List Td)(D':Nat→Prop)(j:Nat):Prop where
 mem : ∃ ws bm bb Ds Dm Db Lss,yq wr D' p tt ws bm bb Ds Dm Db Mj Lss∧jX tt L (mv.drop j) Mj dj Lss
 grew:yi D D' w
 row:yr wr a c mv
 off : ∀ g,(Value.slice a mv.length c).ownBlock=some g → ¬ D' g
 due:qj wr ad cd dj
 fresh : ∀ g,(Value.slice ad dj.length cd).ownBlock=some g → ¬ D' g∧w.heap.size≤g
 mod:Mod D w wr
theorem yn.adv(h:yn w D p now L)(hT:xy w)(h0 : ¬ D 0)(hn:now<tt)(ht:tt<18446744073709551616) :
    Calls prog 247 #[lkP p,.int .u64 tt] w fun e w' => ∃ a c,e=.returned (.tuple #[.slice a (Yn tt L).length c,.int .i64 0])∧qj w' a c (Yn tt L)∧(∃ D',yn w' D' p tt (JY tt L)∧yi D D' w ∧ ∀ g,(Value.slice a (Yn tt L).length c).ownBlock=some g → ¬ D' g∧w.heap.size≤g)∧Mod D w w':=by
  obtain⟨ws,bm,bb,Ds,Dm,Db,Lss,h1,h2,h3⟩:=h;have hnow:=h1.box.now;have hl8:lvl now tt<8:=(uR hnow ht).1;have hbk:bkt now tt<256:=Y5;obtain⟨Lt,hLt⟩ : ∃ Lt,Lss[lvl now tt]? = some Lt:=⟨_,zN (by rw[h2.len];exact hl8)⟩;have hA:=h2.adv hn ht hLt;have hle:=h2.moved_le (n:=bkt now tt+1) hLt;have HCk:=za (Ya h1.box (s:=0) (by omega));have HPl:=za (Jb h1.box ht (by omega:tt≠now));obtain⟨c0,c9,c10,cf,cl⟩:=h1.box.cells;have hSet:=fun(W:World) (hW:zb w W)=>(h1.pure hW).setNow ht
  have hDlt : ∀ k,D k→k<w.heap.size:=fun k hk=>h1.lt hk
  have hpD:D p:=(h1.dd p).2 (.inl rfl);have hEm:=fun(W:World) (k m:Nat) (Ls:List (List Nat)) (hk:k<8) (hm:m<256) (hL:Lss[k]? = some Ls) (hM:yq W D p tt ws bm bb Ds Dm Db L (vZ Lss k)) (hW:Mod D w W) (hb:(vf Ls (m+1)).length≤4194304) =>
    zkt hM (hT.mod hW h0) h0 hm hk ((Xp (zG k)).trans hL) hb
  have HEm:=za hEm;have HSet:=za hSet;have HDlt:=za hDlt;have HA:=za hA;have HLE:=za hle;have HP2:=za h2;have HS:=za h3;have HpD:=za hpD;have HLt:=za hLt;clear h1 h2 h3 hEm hSet hDlt hA hle hT h0 hpD hLt;obtain⟨tp,htp⟩:=zc (lvl now tt);obtain⟨dg,hdg⟩:=zc (bkt now tt);rw[htp]at hl8 HPl HA HLE HLt;rw[hdg]at hbk HPl HA HLE;clear htp hdg;have lt1 : ¬ (tt:Int)<(now:Int):=by omega
  have eq1:((tt:Int)==(now:Int))=false:=by simp;omega
  obtain⟨i0,hi,iz0,iz1,iz2⟩:=xn jC;go_enter func247,ntmps247;go_upto_region 8 with(first
    | (go_at_call 233;refine HCk.out.mono ?_;rintro e w' ⟨rfl,rfl⟩)
    | (go_at_call 285;refine HPl.out.mono ?_;rintro e w1 ⟨rfl,hp1⟩))
  obtain⟨hC1,hm1⟩:=HSet.out w1 hp1;have hm1':Mod D w (w1.setCell ⟨p,0,none⟩ (.int .u64 tt)):=(Mod.of_pure hp1).then hm1 (fun k _ e=>by rw[e];exact HpD.out);have hcp:=hp1.cell (a:=⟨p,0,none⟩) (fun h=>h) c0;have hfp : ∀ i,w1.frozen? ⟨p,i,none⟩=false:=fun i=>by rw[hp1.cells.2 p i cl];exact cf i
  have HC1:=za hC1;have HM1:=za hm1';clear hm1 hm1' hC1 c0 c9 c10 cf HCk HPl;go_upto_region 11 with fail
  generalize w1.setCell ⟨p,0,none⟩ (.int .u64 tt)=W1 at *;clear hcp hfp hp1 HSet;have tp0:(0:Int)≤(tp:Int):=by omega
  go_loopw [8,43] (fun v8 v43 wr => ∃(k:Nat) (a:Option Addr) (c:Nat),v43=.int .i64 (k:Nat)∧k≤tp∧v8=.slice a (vm Lss k).length c∧yr wr a c (vm Lss k)∧xA w (.slice a (vm Lss k).length c)∧yq wr D p tt ws bm bb Ds Dm Db L (vZ Lss k)∧Mod D w wr) (fun _ v43 _=>8-(intOf v43).toNat)
  case atStart=>exact⟨0,none,0,rfl,yh _,rfl,vj _ _ _ _,(fun g hg=>by cases hg),HC1.out,HM1.out⟩
  case round =>
    obtain⟨k,a,c,rfl,hk,rfl,hr,hf,hC,hm⟩:=hrel;have HR:=za hr;have HF:=za hf;have HC:=za hC;have HM:=za hm;clear hr hf hC hm;by_cases hlt:k<tp
    · have hlt':(k:Int)<(tp:Int):=by omega
      have k0:(0:Int)≤(k:Int):=by omega
      have wk:IntKind.i64.wrap ((k:Int)+1)=(k:Int)+1:=zt _ (by omega);obtain⟨Ls,hL⟩ : ∃ Ls,Lss[k]? = some Ls:=⟨_,zN (by rw[HP2.out.len];omega)⟩;have hw:=HP2.out.wide k Ls hL;have hmv:=HP2.out.moved_le (n:=256) hL;rw[zR,UW hw]at hmv;have he:=HEm.out wr k 255 Ls (by omega) (by omega) hL HC.out HM.out (by rw[UW hw];omega);rw[UW hw,zgM hw,← zjk hL]at he;have hsucc:=zk7 hL;obtain⟨nl,hnl⟩:=zc Ls.flatten.length;obtain⟨no,hno⟩:=zc ((vm Lss k).length);rw[hnl]at he hmv;rw[hno]at hmv ⊢;have hns:(vm Lss (k+1)).length=no+nl:=by rw[hsucc,zR,hnl,hno]
      have HE:=za he;have HSU:=za hsucc;have HNL:=za hnl;have HNO:=za hno;have HNS:=za hns;clear hL hw he hsucc hnl hno hns;go_upto_region 14 with(first
        | (go_at_call 296;refine HE.out.mono ?_;rintro e w2 ⟨a2,c2,rfl,hr2,hf2,hC2,hm2⟩
           have hro:w2.ownsRow 0 114 1 (.slice a no c) no (zU (vm Lss k)):=(by have:=HR.out;unfold yr at this;rw[HNO.out]at this;exact zy this hm2 (fun g hg hk=>by have:=HF.out g (by rw[HNO.out];exact hg);have:=HDlt.out g hk;omega));have hrd:zn w2 (.slice a2 nl c2) 1 (zU Ls.flatten):=(by have:=qi hr2;rw[HNL.out]at this;exact this);have HRO:=za hro;have HRD:=za hrd;have HC2:=za hC2;have HM2:=za (HM.out.trans hm2);clear hr2 hf2 hC2 hm2 hro hrd)
        | (at_builtin;refine ul _ rfl _ _ 132 rfl 114 i0 _ 1 4 underlying132 hi iz0 iz1 iz2 rfl (by decide) (.slice a no c) no _ rfl HRO.out _ (zU Ls.flatten) nl rfl HRD.out (by rw[qd,HNL.out,qh]) (by unfold maxLen;omega) (by omega) ?_;intro a7 c7 w5 hr7 hg7 hb7))
      have hmg:Mod (fun k=>(Value.slice a no c).ownBlock=some k) w2 w5:=Mod.of_grown (S:=fun k'=>(Value.slice a no c).ownBlock=some k') hg7 (fun k e _=>e);have hfa : ∀ k',(Value.slice a no c).ownBlock=some k'→w.heap.size≤k':=fun k' e=>HF.out k' (by rw[HNO.out];exact e)
      have hC5:=HC2.out.frame hmg (fun k hk e=>by have:=hfa k e;have:=HDlt.out k hk;omega);have hm5:Mod D w w5:=HM2.out.then hmg (fun k hk e=>by have:=hfa k e;omega);have hf5:xA w (.slice a7 (no+nl) c7):=fun k hk=>by
        rcases hb7 with e | e
        · exact hfa k (e ▸ hk)
        · rw[e]at hk;cases hk;exact HM2.out.size
      have HC5:=za hC5;have HM5:=za hm5;have HF5:=za hf5;have HR7:=za hr7;clear hr7 hg7 hb7 hmg hfa hC5 hm5 hf5;go_wp2;go_roundw
      case rel=>exact⟨k+1,a7,c7,by go_num,hlt,by rw[HNS.out],by unfold yr;rw[HNS.out,HSU.out,qA];exact HR7.out,by rw[HNS.out];exact HF5.out,HC5.out,HM5.out⟩
      case measure=>simp[intOf];omega
    · have e:k=tp:=by omega
      subst e;have hw:=HP2.out.wide k Lt HLt.out;have hmv:=HLE.out;rw[zR]at hmv;have he:=HEm.out wr k dg Lt (by omega) hbk HLt.out HC.out HM.out (by omega);have hleft:(vZ Lss k).set k (kn Lt (dg+1))=qC Lss Lt k (dg+1):=rfl;rw[hleft]at he;obtain⟨nl,hnl⟩:=zc ((vf Lt (dg+1)).length);obtain⟨no,hno⟩:=zc ((vm Lss k).length);rw[hnl]at he hmv;rw[hno]at hmv ⊢;obtain⟨mv,hmvq⟩:=zc (vm Lss k++vf Lt (dg+1));have hns:mv.length=no+nl:=by rw[← hmvq,zR,hnl,hno]
      have hA:=HA.out;rw[hmvq]at hA;have HE:=za he;have HNL:=za hnl;have HNO:=za hno;have HNS:=za hns;have HMV:=za hmvq;have HA2:=za hA;clear hw he hnl hno hns hmvq hleft hA HA HLE HLt HEm;go_upto_region 18 with(first
        | (go_at_call 296;refine HE.out.mono ?_;rintro e w2 ⟨a2,c2,rfl,hr2,hf2,hC2,hm2⟩
           have hro:w2.ownsRow 0 114 1 (.slice a no c) no (zU (vm Lss k)):=(by have:=HR.out;unfold yr at this;rw[HNO.out]at this;exact zy this hm2 (fun g hg hk=>by have:=HF.out g (by rw[HNO.out];exact hg);have:=HDlt.out g hk;omega));have hrd:zn w2 (.slice a2 nl c2) 1 (zU (vf Lt (dg+1))):=(by have:=qi hr2;rw[HNL.out]at this;exact this);have HRO:=za hro;have HRD:=za hrd;have HC2:=za hC2;have HM2:=za (HM.out.trans hm2);clear hr2 hf2 hC2 hm2 hro hrd)
        | (at_builtin;refine ul _ rfl _ _ 132 rfl 114 i0 _ 1 4 underlying132 hi iz0 iz1 iz2 rfl (by decide) (.slice a no c) no _ rfl HRO.out _ (zU (vf Lt (dg+1))) nl rfl HRD.out (by rw[qd,HNL.out,qh]) (by unfold maxLen;omega) (by omega) ?_;intro a7 c7 w5 hr7 hg7 hb7
           have hmg:Mod (fun k=>(Value.slice a no c).ownBlock=some k) w2 w5:=Mod.of_grown (S:=fun k'=>(Value.slice a no c).ownBlock=some k') hg7 (fun k e _=>e);have hfa : ∀ k',(Value.slice a no c).ownBlock=some k'→w.heap.size≤k':=fun k' e=>HF.out k' (by rw[HNO.out];exact e)
           have hC5:=HC2.out.frame hmg (fun k hk e=>by have:=hfa k e;have:=HDlt.out k hk;omega);have hm5:Mod D w w5:=HM2.out.then hmg (fun k hk e=>by have:=hfa k e;omega);have hf5:xA w (.slice a7 (no+nl) c7):=fun k hk=>(by
             rcases hb7 with e | e
             · exact hfa k (e ▸ hk)
             · rw[e]at hk;cases hk;exact HM2.out.size)
           have hI5:AvI w w5 D p tt L mv a7 c7 none 0 L [] D 0:=⟨⟨_,_,_,_,_,_,_,hC5,HA2.out⟩,yi.refl _ _,(by unfold yr;rw[HNS.out,← HMV.out,qA];exact hr7),(by rw[HNS.out];exact fun g hg hk=>by have:=hf5 g hg;have:=HDlt.out g hk;omega),vj _ _ _ _,(fun g hg=>by cases hg),hm5⟩;have HI5:=za hI5;clear hr7 hg7 hb7 hmg hfa hC5 hm5 hf5 hI5))
      have hn63:no+nl≤4194304:=hmv;clear HRO HRD HC2 HM2 HE HNL HNO HMV HA2 HR HF HC HM hmv;obtain⟨n,hnn⟩:=zc (no+nl);rw[hnn]at HNS hn63;have wnn:(no:Int)+(nl:Int)=(n:Int):=by omega
      simp only[hnn,wnn]at *;clear hnn wnn;obtain⟨j0,hj,jz0,jz1,jz2⟩:=xn zhL;go_loopw [10,60] (fun v10 v60 wr => ∃(j:Nat) (ad:Option Addr) (cd:Nat) (Mj dj:List Td) (D':Nat→Prop),v60=.int .i64 (j:Nat)∧j≤n∧v10=.slice ad dj.length cd∧AvI w wr D p tt L mv a7 c7 ad cd Mj dj D' j) (fun _ v60 _=>n-(intOf v60).toNat)
      case atStart=>exact⟨0,none,0,L,[],D,rfl,yh _,rfl,HI5.out⟩
      case round =>
        obtain⟨j,ad,cd,Mj,dj,D',rfl,hjn,rfl,hI⟩:=hrel;have HI:=za hI;obtain⟨ws',bm',bb',Ds',Dm',Db',Lss',hC,hAv⟩:=hI.mem;by_cases hlt2:j<n
        · have hlt':(j:Int)<(n:Int):=by omega
          have j0':(0:Int)≤(j:Int):=by omega
          have wj:IntKind.i64.wrap ((j:Int)+1)=(j:Int)+1:=zt _ (by omega);obtain⟨s,hs⟩ : ∃ s,mv[j]? = some s:=⟨_,zN (by rw[HNS.out];exact hlt2)⟩;have hdr:mv.drop j=s::mv.drop (j+1):=by
            have hjl:j<mv.length:=by rw[HNS.out];exact hlt2
            rw[kU hjl];rw[zN hjl]at hs;injection hs with hs
            rw[hs]
          obtain⟨ad0,had,z0⟩:=Xw (qi hI.row) hs;rw[hdr]at hAv;obtain⟨x,hx,hxs⟩:=hAv.has s ym;subst had;obtain⟨r1,r2,r3,r4⟩:=hAv.inv.rng x hx;subst hxs;have hlk:=hC.what.look1 hx (by omega);unfold tdV at hlk;have hdu:=zgF x.dl tt r2;have HDU:=za hdu;obtain⟨c0,c9,c10,cf,cl⟩:=hC.box.cells;have hal:zb wr (wr.alloc (.cells #[.int .u32 x.slot,.int .u64 x.dl,.int .u64 x.birth] 226)):=(Mod.refl _ wr).alloc _;have h13:=zi (w:=wr) (o := .cells #[.int .u32 x.slot,.int .u64 x.dl,.int .u64 x.birth] 226 (0,0)) rfl;have HX:=za hx;have HAv:=za hAv;have HCm:=za hC;have HDR:=za hdr;have HAL:=za hal;have hDl : ∀ k,D' k→k<wr.heap.size:=fun k hk=>hC.lt hk
          have HDL:=za hDl;have hmvw : ∀ g,(Value.slice (some ad0) mv.length c7).ownBlock=some g→g<wr.heap.size:=fun g hg=>vh HI.out.row hg
          have hduw : ∀ g,(Value.slice ad dj.length cd).ownBlock=some g→g<wr.heap.size:=fun g hg=>vh HI.out.due hg
          have HMVW:=za hmvw;have HDUW:=za hduw;clear hx hAv hC hdr hal hI hDl hmvw hduw;go_upto_region 21 with fail
          generalize wr.alloc (.cells #[.int .u32 x.slot,.int .u64 x.dl,.int .u64 x.birth] 226)=W3 at *;obtain⟨b13,hb13⟩:=zc wr.heap.size;rw[hb13]at h13 HDL HMVW HDUW ⊢;have HB13:=za hb13;have H13:=za h13;clear hlk c0 c9 c10 cf cl z0 hb13 hs;obtain⟨h13_0,h13_1,h13_2,h13_f,h13_l,H_h13⟩:=cr3 h13;clear h13;by_cases hd:x.dl≤tt
          · simp only[decide_eq_true hd]at HDU
            have hp:=zfY HAv.out.inv HX.out;obtain⟨M2,hM2⟩:=zc (Mj.filter (fun y=>y.slot != x.slot));rw[hM2]at hp;obtain⟨_,q1,q2,_,q4⟩:=HAv.out.inv.without hp;have hgo:=HAv.out.go rfl hd hp;have hfo:=fun(W:World) (hW:zb W3 W)=>zdM ((HCm.out.pure HAL.out).pure hW) HX.out (by omega) r4 q1 q2 q4
            unfold tdV at hfo;have hdl:dj.length+1≤4194304:=by
              have e1:=hgo.perm.length_eq;have e2:=HP2.out.count;simp at e1;omega
            obtain⟨nd,hnd⟩:=zc dj.length;rw[hnd]at hdl ⊢;have HND:=za hnd;have HFo:=za hfo;have HGo:=za hgo;have hbmD:D' bm'∧D' bb':=⟨(HCm.out.dd bm').2 (.inr (.inl rfl)),(HCm.out.dd bb').2 (.inr (.inr (.inl rfl)))⟩;have HBD:=za hbmD;clear hp hM2 q1 q2 q4 hgo hfo hbmD hnd;go_upto_region 24 with(first
              | (go_at_call 147;refine(HDU.out _).mono ?_;rintro e w' ⟨rfl,rfl⟩)
              | (go_at_call 287;refine zm (HFo.out _ (by first | exact Mod.refl _ _ | exact(Mod.refl _ _).drew)) ?_;rintro e w5 ⟨rfl,⟨Dm2,Db2,hC2⟩,hm2⟩))
            have hm5:Mod (fun k=>k=bm'∨k=bb') W3 w5:=by first | exact hm2 | exact Mod.of_drew hm2
            have h5D:Mod D' W3 w5:=hm5.mono (fun k _ e=>by rcases e with rfl | rfl;exact HBD.out.1;exact HBD.out.2);have h135:=h5D.heap (fun e=>by have:=HDL.out b13 e;omega) H13.out;have hmw:Mod D' wr w5:=(Mod.of_pure HAL.out).trans h5D;have hrow5:=zy HI.out.row hmw HI.out.off;have hdue5:=zy HI.out.due hmw (fun g hg=>(HI.out.fresh g hg).1);rw[HND.out]at hdue5;have HR5:=za hrow5;have HD5:=za hdue5;have HMW:=za hmw;have HC2:=za hC2;have H135:=za h135;clear h13_0 h13_1 h13_2 h13_f h13_l;clear H_h13 hm2 hm5 h5D hmw hrow5 hdue5 hC2;obtain⟨h135_0,h135_1,h135_2,h135_f,h135_l,H_h135⟩:=cr3 h135;clear h135;go_upto_region 25 with(at_builtin;refine ul _ rfl _ _ 230 rfl 226 j0 _ 3 24 underlying230 hj jz0 jz1 jz2 rfl (by decide) (.slice ad nd cd) nd _ rfl (zy HD5.out ((Mod.refl (fun _=>False) w5).alloc _) (fun _ _ h=>h)) _ [.int .u32 x.slot,.int .u64 x.dl,.int .u64 x.birth] 1 rfl (zn.of_block 1 1 3 (zi rfl) (by rfl) (by simp[Value.oneCell'])) rfl (by unfold maxLen;omega) (by omega) ?_;intro a8 c8 w6 hr8 hg8 hb8)
            have hmg:Mod (fun k=>(Value.slice ad nd cd).ownBlock=some k) w5 w6:=((Mod.refl _ w5).alloc _).then (Mod.of_grown (S:=fun k'=>(Value.slice ad nd cd).ownBlock=some k') hg8 (fun k e _=>e)) (fun _ _ h=>h);have hfr:=HI.out.fresh;rw[HND.out]at hfr;have hsz5:=HMW.out.size;have hszw:=HI.out.mod.size;have hal5:w5.heap.size<(w5.alloc (.cells #[.int .u32 x.slot,.int .u64 x.dl,.int .u64 x.birth] 226)).heap.size:=by simp
            have hI6:AvI w w6 D p tt L mv (some ad0) c7 a8 c8 M2 (dj++[x]) D' (j+1):=⟨⟨_,_,_,_,_,_,_,HC2.out.frame hmg (fun k hk e=>(hfr k e).1 hk),HGo.out⟩,HI.out.grew,
              zy HR5.out hmg (fun g hg e=>ziC HR5.out HD5.out (by decide) hg e),HI.out.off,
              (by
                show World.ownsRow _ 0 _ 3 (.slice a8 (dj++[x]).length c8) (dj++[x]).length ((dj++[x]).flatMap tdC)
                rw[zR,HND.out,ZW];exact hr8),fun g hg=>(by
                rw[zR,HND.out]at hg;rcases hb8 with e | e
                · exact hfr g (e ▸ hg)
                · have hg':(Value.slice a8 (nd+1) c8).ownBlock=some g:=hg
                  rw[e]at hg'
                  cases hg'
                  refine⟨fun hk => ?_,by omega⟩;have:=HDL.out _ hk;have:=HB13.out;omega),
              (HI.out.mod.trans' HMW.out (fun _ _ h=>h) (fun k hk h=>(by
                rcases HI.out.grew k h with e | e
                · exact e
                · omega))).then hmg (fun k hk e=>by have:=(hfr k e).2;omega)⟩
            have hnx:(dj++[x]).length=nd+1:=by rw[zR,HND.out];rfl
            have HI6:=za hI6;have HNX:=za hnx;clear hr8 hg8 hb8 hmg hfr hsz5 hszw hI6 hnx hal5;go_wp2;go_roundw
            case rel=>exact⟨j+1,a8,c8,M2,dj++[x],D',by go_num,hlt2,by rw[HNX.out],HI6.out⟩
            case measure=>simp[intOf];omega
          · simp only[decide_eq_false hd]at HDU
            obtain⟨Ls,B,hL,hK⟩:=HAv.out.inv.get (uR ht (dl:=x.dl) (by omega)).1 (Y5 (now:=tt) (dl:=x.dl));have hst:=HAv.out.stay HX.out rfl (by omega) hL hK;have hpu:=fun(W:World) (hW:zb W3 W)=>za6 ((HCm.out.pure HAL.out).pure hW) (x:=x) (M':=Mj) r1 (by omega) r4 (by omega) (by have:=HAv.out.inv.count;unfold maxLen;omega) hL hK (HAv.out.inv.notL (fun y hy e=>ym) hL) (.inr ⟨HX.out,fun y hy e=>HAv.out.inv.slots y hy x HX.out e,rfl⟩)
            unfold tdV at hpu;have HPu:=za hpu;have HSt:=za hst;clear hL hK hst hpu;go_upto_region 25 with(first
              | (go_at_call 147;refine(HDU.out _).mono ?_;rintro e w' ⟨rfl,rfl⟩)
              | (go_at_call 289;refine zm (HPu.out _ (by first | exact Mod.refl _ _ | exact(Mod.refl _ _).drew)) ?_;rintro e w5 ⟨rfl,⟨D2,Ds2,Dm2,Db2,hC2,hg2⟩,hm2⟩))
            have hm5:Mod D' W3 w5:=by first | exact hm2 | exact Mod.of_drew hm2
            have hg5 : ∀ k,D2 k→D' k∨b13≤k:=fun k hk=>by
              have e1:=HAL.out.size;have e2:=HB13.out;rcases hg2 k hk with e | e
              · exact .inl e
              · have e':W3.heap.size≤k:=e
                exact .inr (by omega)
            have hmw:Mod D' wr w5:=(Mod.of_pure HAL.out).trans hm5;have hszw:=HI.out.mod.size;have hI5:AvI w w5 D p tt L mv (some ad0) c7 ad cd Mj dj D2 (j+1):=⟨⟨_,_,_,_,_,_,_,hC2,HSt.out⟩,fun k hk=>(by
                rcases hg5 k hk with e | e
                · exact HI.out.grew k e
                · have:=HB13.out;exact .inr (by omega)),
              zy HI.out.row hmw HI.out.off,fun g hg hk=>(by
                rcases hg5 g hk with e | e
                · exact HI.out.off g hg e
                · have:=HMVW.out g hg;omega),
              zy HI.out.due hmw (fun g hg=>(HI.out.fresh g hg).1),fun g hg=>⟨fun hk=>(by
                rcases hg5 g hk with e | e
                · exact(HI.out.fresh g hg).1 e
                · have:=HDUW.out g hg;omega),(HI.out.fresh g hg).2⟩,
              HI.out.mod.trans' hmw (fun _ _ h=>h) (fun k hk h=>(by
                rcases HI.out.grew k h with e | e
                · exact e
                · omega))⟩
            have HI5b:=za hI5;clear hm2 hg2 hC2 hm5 hg5 hmw hszw hI5;go_wp2;go_roundw
            case rel=>exact⟨j+1,ad,cd,Mj,dj,D2,by go_num,hlt2,rfl,HI5b.out⟩
            case measure=>simp[intOf];omega
        · have e:j=n:=by omega
          subst e;have hd0:mv.drop j=[]:=ZP (by rw[HNS.out];exact zG _);rw[hd0]at hAv;obtain⟨hinv,hrest⟩:=hAv.fin;obtain⟨e1,e2⟩:=zgE HS.out hAv.perm hAv.due hrest;have hLm : ∀ x∈dj,x∈L:=fun x hx=>hAv.perm.mem_iff.1 (xC _ hx)
          have hso:=zha hI.due (by have:=hAv.perm.length_eq;have:=HP2.out.count;simp at *;omega) (fun x hx y hy e=>HP2.out.births x (hLm x hx) y (hLm y hy) e) (by
            have:=hAv.perm.nodup_iff.2 HP2.out.ndM;rw[xD]at this;exact this.2.1)
          have HSo:=za hso;have HCm:=za hC;have HInv:=za hinv;have HE1:=za e1;have HE2:=za e2;clear hI hC hAv hd0 hinv hrest e1 e2 hLm hso
          go_wp2_with (go_at_call 297;refine HSo.out.mono ?_;rintro e w9 ⟨rfl,d',s1,s2,s3,hr9,hm9⟩)
          have hdq:d'=Yn tt L:=ZR s1 (HS.out.sublist (VV _)) (s2.trans HE1.out);rw[hdq]at hr9 s3;have hmD:Mod D w w9:=HI.out.mod.then hm9 (fun k hk e=>by have:=(HI.out.fresh k e).2;omega);refine zK (v := .tuple #[.slice ad dj.length cd,.int .i64 0]) (by simp[results,results247,go_sem]) rfl ⟨ad,cd,by rw[s3],hr9,⟨D',⟨_,_,_,_,_,_,_,(HCm.out.frame hm9 (fun k hk e=>(HI.out.fresh k e).1 hk)).perm HE2.out,HInv.out.perm HE2.out,HS.out.sublist (List.dropWhile_sublist _)⟩,HI.out.grew,fun g hg=>HI.out.fresh g (by rw[← s3];exact hg)⟩,hmD⟩
end
end
end Go.Proofs.YtpplkcnknabofaaGreatDoor
