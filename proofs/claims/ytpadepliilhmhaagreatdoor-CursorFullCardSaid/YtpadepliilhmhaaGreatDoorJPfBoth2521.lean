/- Lemmas and contracts of functions. No condition. -/
import Derived.Test.YtpadepliilhmhaaGreatDoorJPfBoth2520
namespace Go.Proofs.YtpadepliilhmhaaGreatDoor
open _root_.Go.Proofs.Tryz
set_option maxRecDepth 100000
set_option maxHeartbeats 20000000
set_option linter.all false
section
open Go.RowKit Go.Shelf
def NoS(w:World)(o:Option Addr):Prop := ∀ Y,zb w Y→Calls prog 25 #[.pointer o] Y fun e w'=>e=.returned (.bool true)∧Y=w'
section
variable{w w':World}{o:Option Addr}
theorem NoS.pure(h:NoS w o)(hp:zb w w'):NoS w' o:=fun Y hY=>h Y (hp.trans hY)
theorem ziZ(w:World):NoS w none:=fun Y _=>by
 exact Az7nw
theorem ziH{q:Nat}(hc:w.cell? ⟨q,0,none⟩=some (.pointer none)):NoS w (some ⟨q,0,none⟩):=fun Y hY=>by
 have hb:=hY.cell (fun h=>h) hc;clear hc hY;exact Az7nw
theorem VB(h:NoS w o)(n:Int)(Y:World)(hY:zb w Y):Calls prog 24 #[.pointer o,.int .i64 n] Y fun e w'=>e=.returned (.int .i64 1)∧Y=w':=by
 have HN:=za (h Y hY);clear h hY;go_enter func24,ntmps24;exact Aznns
theorem zed(h:NoS w o):Calls prog 11 #[.pointer o] w fun e w'=>e=.returned (.pointer none)∧w=w':=by
 have HN:=za (h w (Mod.refl _ _));clear h;go_enter func11,ntmps11;exact Aznns
theorem zj4(h:NoS w o):Calls prog 15 #[.pointer o] w fun e w'=>e=.returned (.pointer none)∧w=w':=by
 have HN:=za (h w (Mod.refl _ _));clear h;go_enter func15,ntmps15;exact Aznns
theorem zd4(h:NoS w o):Calls prog 10 #[.pointer o] w fun e w'=>e=.returned (.slice none 0 0)∧w=w':=by
 have HN:=za (h w (Mod.refl _ _));clear h;go_enter func10,ntmps10;exact Aznns
theorem zeX(h:NoS w o):Calls prog 23 #[.pointer o] w fun e w'=>e=.returned (.tuple #[.int .i64 0,.int .i64 1])∧w=w':=by
 have HN:=za (h w (Mod.refl _ _));clear h;go_enter func23,ntmps23
 go_wp2_with (go_at_call 25;refine HN.out.mono ?_;rintro e w' ⟨rfl,rfl⟩)
 go_ret2;exact⟨rfl,rfl⟩
theorem zc3(h:NoS w o)(n:Int)(b:Nat):Calls prog 13 #[.pointer o,.int .i64 n,.int .u64 b] w fun e w'=>e=.returned (.int .i64 1)∧w=w':=by
 have HC:=za (VB h n w (Mod.refl _ _));clear h;go_enter func13,ntmps13;exact Azujo
theorem zfH(h:NoS w o)(n:Int):Calls prog 30 #[.pointer o,.int .i64 n] w fun e w'=>e=.returned (.tuple #[.int .u64 0,.int .i64 1])∧w=w':=by
 have HC:=za (VB h n w (Mod.refl _ _));clear h;exact Azjdj
theorem zjC(h:NoS w o)(n:Int):Calls prog 9 #[.pointer o,.int .i64 n] w fun e w'=>e=.returned (.int .i64 1)∧w=w':=by
 have HC:=za (VB h n w (Mod.refl _ _));clear h;go_enter func9,ntmps9;exact Azujo
theorem zhK(h:NoS w o)(t:Nat)(n:Int):Calls prog 28 #[.pointer o,.int .u64 t,.int .i64 n] w fun e w'=>e=.returned (.tuple #[uF,.int .i64 1])∧zb w w':=by
 have hal:zb w (w.alloc (.cells #[.string ⟨#[]⟩,.slice none 0 0,.int .u64 0,.int .u64 0] 47)):=(Mod.refl _ w).alloc _;have z:=zi (w:=w) (o := .cells #[.string ⟨#[]⟩,.slice none 0 0,.int .u64 0,.int .u64 0] 47 (0,0)) rfl;have HC:=za (VB h n _ hal);have HP:=za hal;have Z:=za z;clear h hal z;go_enter func28,ntmps28;go_upto_region 1 with fail
 generalize w.alloc (.cells #[.string ⟨#[]⟩,.slice none 0 0,.int .u64 0,.int .u64 0] 47)=W1 at *;obtain⟨q,hq⟩:=zc w.heap.size;rw[hq]at Z ⊢;have HQ:=za hq;clear hq;have hq2:=Z.out;obtain⟨hq2_0,hq2_1,hq2_2,hq2_3,hq2_f,hq2_l,H_hq2⟩:=cr4 hq2;clear hq2
 go_wp2_with (go_at_call 24;refine HC.out.mono ?_;rintro e w' ⟨rfl,rfl⟩)
 obtain⟨Y,hY⟩:=zc ((((W1.setCell ⟨q,0,none⟩ (.string ⟨#[]⟩)).setCell ⟨q,1,none⟩ (.slice none 0 0)).setCell ⟨q,2,none⟩ (.int .u64 0)).setCell ⟨q,3,none⟩ (.int .u64 0));obtain⟨g1,g2⟩:=ZI Z.out hY;rw[hY];obtain⟨g2_0,g2_1,g2_2,g2_3,g2_f,g2_l,H_g2⟩:=cr4 g2;clear g2;exact zM (v := .tuple #[uF,.int .i64 1]) (by simp[results,results28,go_sem,g2_0,g2_1,g2_2,g2_3]) rfl ⟨rfl,HP.out.then g1 (fun i hi e=>by have:=HQ.out;omega)⟩
theorem zhL(h : ∀ Y,zb w Y→Calls prog 35 #[.pointer o] Y fun e w'=>e=.returned (.bool true)∧Y=w'):Calls prog 32 #[.pointer o] w fun e w'=>e=.returned (.agg #[.int .i64 0,.int .i64 0,.int .i64 0,.int .u64 0,.bool false])∧zb w w':=by
 have hal:zb w (w.alloc (.cells #[.int .i64 0,.int .i64 0,.int .i64 0,.int .u64 0,.bool false] 29)):=(Mod.refl _ w).alloc _;have z:=zi (w:=w) (o := .cells #[.int .i64 0,.int .i64 0,.int .i64 0,.int .u64 0,.bool false] 29 (0,0)) rfl;have HN:=za (h _ hal);have HP:=za hal;have Z:=za z;clear h hal;go_enter func32,ntmps32;go_upto_region 1 with fail
 generalize w.alloc (.cells #[.int .i64 0,.int .i64 0,.int .i64 0,.int .u64 0,.bool false] 29)=W1 at *;obtain⟨q,hq⟩:=zc w.heap.size;rw[hq]at z Z ⊢;have HQ:=za hq;clear hq;obtain⟨z_0,z_1,z_2,z_3,z_4,z_f,z_l,H_z⟩:=cr5 z;clear z
 go_wp2_with (go_at_call 35;refine HN.out.mono ?_;rintro e w' ⟨rfl,rfl⟩)
 have hx:=zar (.int .i64 0) (.int .i64 0) (.int .i64 0) (.int .u64 0) (.bool false) Z.out;have hm:Mod (fun i=>i=q) W1 (((((W1.setCell ⟨q,0,none⟩ (.int .i64 0)).setCell ⟨q,1,none⟩ (.int .i64 0)).setCell ⟨q,2,none⟩ (.int .i64 0)).setCell ⟨q,3,none⟩ (.int .u64 0)).setCell ⟨q,4,none⟩ (.bool false)):=(((((Mod.refl (fun i=>i=q) W1).setCell (p:=⟨q,0,none⟩) (fun _=>rfl) _).setCell (p:=⟨q,1,none⟩) (fun _=>rfl) _).setCell (p:=⟨q,2,none⟩) (fun _=>rfl) _).setCell (p:=⟨q,3,none⟩) (fun _=>rfl) _).setCell (p:=⟨q,4,none⟩) (fun _=>rfl) _;generalize((((W1.setCell ⟨q,0,none⟩ (.int .i64 0)).setCell ⟨q,1,none⟩ (.int .i64 0)).setCell ⟨q,2,none⟩ (.int .i64 0)).setCell ⟨q,3,none⟩ (.int .u64 0)).setCell ⟨q,4,none⟩ (.bool false)=Y at *;obtain⟨hx_0,hx_1,hx_2,hx_3,hx_4,hx_f,hx_l,H_hx⟩:=cr5 hx;clear hx;exact zM (v := .agg #[.int .i64 0,.int .i64 0,.int .i64 0,.int .u64 0,.bool false]) (by simp[results,results32,go_sem,hx_0,hx_1,hx_2,hx_3,hx_4]) rfl ⟨rfl,HP.out.then hm (fun i hi e=>by have:=HQ.out;omega)⟩
theorem zko(h : ∀ Y,zb w Y→Calls prog 35 #[.pointer o] Y fun e w'=>e=.returned (.bool true)∧Y=w'):Calls prog 16 #[.pointer o] w fun e w'=>e=.returned (.tuple #[.pointer none,.int .i64 1])∧zb w w':=by
 have HC:=za (zhL h);clear h;go_enter func16,ntmps16
 go_wp2_with (go_at_call 32;refine HC.out.mono ?_;rintro e w' ⟨rfl,hp⟩)
 go_ret2;exact⟨rfl,hp⟩
end
section
variable{w:World}{o:Option Addr}
theorem zf4(h:NoS w o):Calls prog 8 #[.pointer o,.int .i64 0,.int .i64 1] w fun e w'=>e=.returned (.bool true)∧w=w':=zam (zeX h)
theorem zeE(h:NoS w o)(n:Int):Calls prog 14 #[.pointer o,.int .i64 n,.int .u64 0,.int .i64 1] w fun e w'=>e=.returned (.bool true)∧w=w':=Qk (zfH h n)
theorem zeA(h:NoS w o)(t:Nat)(n:Int):Calls prog 12 #[.pointer o,.int .u64 t,.int .i64 n,uF,.int .i64 1] w fun e w'=>e=.returned (.bool true)∧zb w w':=by
 refine KT (P:=zb w) (fun W W' g hp=>g.trans hp) (fun W hW => ?_);refine(zhK (h.pure hW) t n).mono ?_;rintro e w' ⟨rfl,hp⟩;exact⟨rfl,hp.size,fun k k1 k2=>hp.block k k2 (fun h=>h),hW.trans hp⟩
def QM(w:World)(o:Option Addr):Prop := ∀ Y,zb w Y→Calls prog 35 #[.pointer o] Y fun e w'=>e=.returned (.bool true)∧Y=w'
theorem zjo{q:Nat}(h:w.heap[q]? = some (.cells #[.pointer none,.pointer none,.pointer none,.pointer none,.pointer none,.pointer none,.int .i64 0,.int .i64 0,.int .i64 0,.int .u64 0,.bool false] 60 (0,0))):QM w (some ⟨q,0,none⟩):=fun Y hY=>by
 have hb:=hY.heap (fun h=>h) h;clear h hY;exact Azhxj
end
theorem zgA(w:World)(hT:xt w)(T:Nat)(_:T<18446744073709551616)(n:Int)(b:Nat)(_:b<18446744073709551616) :
    Calls prog 4 #[.int .u64 T,.int .i64 n,.int .u64 b] w fun e w'=>e=.returned (.bool true)∧zb w w':=by
  have HKn:=za (fun(W:World) (hW:zb w W)=>zeK W (hT.pure hW));have z1:=zi (w:=w) (o := .cells Tryz.zeroCells41 41 (0,0)) rfl;have z2:=zi (w:=(w.alloc (.cells Tryz.zeroCells41 41))) (o := .cells #[.pointer none,lkP w.heap.size] 24 (0,0)) (n:=w.heap.size+1) (by simp);have b2:zb (w.alloc (.cells Tryz.zeroCells41 41)) ((w.alloc (.cells Tryz.zeroCells41 41)).alloc (.cells #[.pointer none,lkP w.heap.size] 24)):=(Mod.refl _ _).alloc _;have b1:zb w (w.alloc (.cells Tryz.zeroCells41 41)):=(Mod.refl _ _).alloc _;have Z1:=za (b2.heap (fun h=>h) z1);have Z2:=za z2;have B1:=za (b1.trans b2);clear b1 b2 z1 z2 hT;go_enter func4,ntmps4;go_upto_region 2 with fail
  generalize((w.alloc (.cells Tryz.zeroCells41 41)).alloc (.cells #[.pointer none,lkP w.heap.size] 24))=V at *;obtain⟨q1,hq1⟩:=zc w.heap.size;rw[hq1]at Z1 Z2 ⊢;clear hq1;have HZ:Hid (NoS V (some ⟨q1,0,none⟩)):=za (ziH (by rw[zj V q1 0 _ _ (0,0) Z1.out];kernel_rfl));go_loopw [17] (fun v17 wr => ∃ i:Nat,v17=.int .i64 (i:Nat)∧i≤2∧zb V wr) (fun v17 _=>2-(intOf v17).toNat)
  case atStart=>exact⟨0,rfl,yk _,Mod.refl _ _⟩
  case round =>
    obtain⟨i,rfl,hi2,hp⟩:=hrel;by_cases hlt:i<2
    · have hlt':(i:Int)<2:=by omega
      have i0:(0:Int)≤(i:Int):=by omega
      have wi:IntKind.i64.wrap ((i:Int)+1)=(i:Int)+1:=zo _ (by omega);obtain⟨o,hv,hn⟩ : ∃ o,wr.cell? ⟨q1+1,i,none⟩=some (.pointer o)∧NoS V o:=by
        rcases(show i=0∨i=1 by omega)with rfl | rfl
        · exact⟨none,by rw[zj wr _ 0 _ _ (0,0) (hp.heap (fun h=>h) Z2.out)];rfl,ziZ V⟩
        · exact⟨some ⟨q1,0,none⟩,by rw[zj wr _ 1 _ _ (0,0) (hp.heap (fun h=>h) Z2.out)];rfl,HZ.out⟩
      have HN:=za hn;have HP:=za hp;clear hn hp
      go_wp2_with (first
        | (go_at_call 11;refine zm (zed (HN.out.pure HP.out)) ?_;rintro e w' ⟨rfl,rfl⟩)
        | (go_at_call 8;refine zm (zf4 (HN.out.pure HP.out)) ?_;rintro e w' ⟨rfl,rfl⟩)
        | (go_at_call 12;refine zm (zeA (HN.out.pure HP.out) T n) ?_;rintro e w' ⟨rfl,hq⟩;replace HP:=za (HP.out.trans hq))
        | (go_at_call 13;refine zm (zc3 (HN.out.pure HP.out) n b) ?_;rintro e w' ⟨rfl,rfl⟩)
        | (go_at_call 14;refine zm (zeE (HN.out.pure HP.out) n) ?_;rintro e w' ⟨rfl,rfl⟩)
        | (go_at_call 9;refine zm (zjC (HN.out.pure HP.out) n) ?_;rintro e w' ⟨rfl,rfl⟩)
        | (go_at_call 10;refine zm (zd4 (HN.out.pure HP.out)) ?_;rintro e w' ⟨rfl,rfl⟩)
        | (go_at_call 15;refine zm (zj4 (HN.out.pure HP.out)) ?_;rintro e w' ⟨rfl,rfl⟩))
      go_roundw
      case rel=>exact⟨i+1,by go_num,hlt,HP.out⟩
      case measure=>simp[intOf];omega
    · have e:i=2:=by omega
      subst e;have HP:=za (B1.out.trans hp);clear hp Z1 Z2 HZ B1;have z1:=zi (w:=wr) (o := .cells #[.pointer none,.pointer none,.pointer none,.pointer none,.pointer none,.pointer none,.int .i64 0,.int .i64 0,.int .i64 0,.int .u64 0,.bool false] 60 (0,0)) rfl;have z2:=zi (w:=(wr.alloc (.cells #[.pointer none,.pointer none,.pointer none,.pointer none,.pointer none,.pointer none,.int .i64 0,.int .i64 0,.int .i64 0,.int .u64 0,.bool false] 60))) (o := .cells #[.pointer none,lkP wr.heap.size] 23 (0,0)) (n:=wr.heap.size+1) (by simp);have b2:zb (wr.alloc (.cells #[.pointer none,.pointer none,.pointer none,.pointer none,.pointer none,.pointer none,.int .i64 0,.int .i64 0,.int .i64 0,.int .u64 0,.bool false] 60)) ((wr.alloc (.cells #[.pointer none,.pointer none,.pointer none,.pointer none,.pointer none,.pointer none,.int .i64 0,.int .i64 0,.int .i64 0,.int .u64 0,.bool false] 60)).alloc (.cells #[.pointer none,lkP wr.heap.size] 23)):=(Mod.refl _ _).alloc _;have b1:zb wr (wr.alloc (.cells #[.pointer none,.pointer none,.pointer none,.pointer none,.pointer none,.pointer none,.int .i64 0,.int .i64 0,.int .i64 0,.int .u64 0,.bool false] 60)):=(Mod.refl _ _).alloc _;have Z1:=za (b2.heap (fun h=>h) z1);have Z2:=za z2;have B1:=za (HP.out.trans (b1.trans b2));clear b1 b2 z1 z2 HP;go_upto_region 8 with fail
      generalize((wr.alloc (.cells #[.pointer none,.pointer none,.pointer none,.pointer none,.pointer none,.pointer none,.int .i64 0,.int .i64 0,.int .i64 0,.int .u64 0,.bool false] 60)).alloc (.cells #[.pointer none,lkP wr.heap.size] 23))=V2 at *;obtain⟨q2,hq2⟩:=zc wr.heap.size;rw[hq2]at Z1 Z2 ⊢;clear hq2;have HZ:=za (zjo Z1.out);go_loopw [72] (fun v72 wx => ∃ i:Nat,v72=.int .i64 (i:Nat)∧i≤2∧zb V2 wx) (fun v72 _=>2-(intOf v72).toNat)
      case atStart=>exact⟨0,rfl,yk _,Mod.refl _ _⟩
      case round =>
        obtain⟨j,rfl,hj2,hp⟩:=hrel;by_cases hlt2:j<2
        · have hlt':(j:Int)<2:=by omega
          have i0:(0:Int)≤(j:Int):=by omega
          have wi:IntKind.i64.wrap ((j:Int)+1)=(j:Int)+1:=zo _ (by omega);obtain⟨o,hv,hn⟩ : ∃ o,wr.cell? ⟨q2+1,j,none⟩=some (.pointer o)∧QM V2 o:=by
            rcases(show j=0∨j=1 by omega)with rfl | rfl
            · exact⟨none,by rw[zj wr _ 0 _ _ (0,0) (hp.heap (fun h=>h) Z2.out)];rfl,fun Y _=>ziF Y⟩
            · exact⟨some ⟨q2,0,none⟩,by rw[zj wr _ 1 _ _ (0,0) (hp.heap (fun h=>h) Z2.out)];rfl,HZ.out⟩
          have HN:=za hn;have HP:=za hp;clear hn hp
          go_wp2_with (go_at_call 16;refine zm (zko (fun Y hY=>HN.out Y (HP.out.trans hY))) ?_;rintro e w' ⟨rfl,hq⟩;replace HP:=za (HP.out.trans hq))
          go_roundw
          case rel=>exact⟨_,_,_,_,_,_,_,_,_,_,_,_,_,_,_,_,_,_,_,_,⟨j+1,by go_num,hlt2,HP.out⟩,rfl⟩
          case measure=>simp[intOf];omega
        · have e:j=2:=by omega
          subst e;have HP:=za (B1.out.trans hp);clear hp
          go_wp2_with (go_at_call 5;refine(HKn.out _ HP.out).mono ?_;rintro e w' ⟨rfl,hp⟩)
          have hpp:=HP.out.trans hp;go_ret;exact⟨rfl,hpp⟩
end
end Go.Proofs.YtpadepliilhmhaaGreatDoor
