/- Lemmas and contracts of functions. No condition. -/
import Derived.Test.YtdohbogbnheakaaGreatDoorJPfBoth4029
import Derived.Test.YtdohbogbnheakaaGreatDoorTie
import Derived.Test.YtdohbogbnheakaaGreatDoorJPfBoth4024
import Derived.Test.YtdohbogbnheakaaGreatDoorJPfBoth4025
namespace Go.Proofs.YtdohbogbnheakaaGreatDoor
open _root_.Go.Proofs.Tryz
set_option maxRecDepth 100000
set_option maxHeartbeats 20000000
set_option linter.all false
section
open Go.RowKit Go.Shelf
theorem qQ{w:World}{b:Nat}(h:w.heap[b]? = some (.cells #[.int .i64 0,.slice none 0 0,.int .i64 0] 34 (0,0))):w.cell? ⟨b,0,none⟩=some (.int .i64 0)∧w.cell? ⟨b,1,none⟩=some (.slice none 0 0)∧w.cell? ⟨b,2,none⟩=some (.int .i64 0) :=
 ⟨zi w b 0 _ _ (0,0) h,zi w b 1 _ _ (0,0) h,zi w b 2 _ _ (0,0) h⟩
theorem Az39u {P:Prop}(h:P:=by
 go_enter func4,ntmps4
 go_wp2_with (go_at_call 7;refine(HKn.out _ A1.out).mono ?_;rintro e w' ⟨rfl,hp⟩)
 have hpp:=A1.out.trans hp;exact zN (v := .bool true) (by simp[results,results4,go_sem]) rfl ⟨rfl,hpp⟩):P:=h
theorem zgA(w:World)(hT:xA w)(what who ld:Int)(T:Nat)(_:T<18446744073709551616)(N:Nat)(_:N<18446744073709551616)(key:ByteArray)(hk:key.size≤9223372036854775807)(a:Option Addr)(n c:Nat)(hn:n≤9223372036854775807)(code:Int) :
    Calls prog 4 #[.agg #[.int .i64 what,.int .i64 who,.int .i64 ld,.int .u64 T,.int .u64 N,.string key,.slice a n c,.int .i64 code]] w fun e w'=>e=.returned (.bool true)∧zc w w':=by
  have x1:=zj (w:=w) (o := .cells #[.int .i64 what,.int .i64 who,.int .i64 ld,.int .u64 T,.int .u64 N,.string key,.slice a n c,.int .i64 code] 45 (0,0)) rfl;have a1:zc w (w.alloc (.cells #[.int .i64 what,.int .i64 who,.int .i64 ld,.int .u64 T,.int .u64 N,.string key,.slice a n c,.int .i64 code] 45)):=(Mod.refl _ _).alloc _;have X1:=za x1;have A1:=za a1;have HKn:=za (fun(W:World) (hW:zc w W)=>zeZ W (hT.pure hW));clear a1 hT;obtain⟨x1_0,x1_1,x1_2,x1_3,x1_4,x1_5,x1_6,x1_7,x1_f,x1_l,H_x1⟩:=cr8 x1;clear x1;by_cases hb:key.size≤100∧n≤100
  case neg =>
    by_cases hb1:100<key.size
    · have hb1':(100:Int)<(key.size:Int):=by omega
      exact Az39u
    · have hb1' : ¬ (100:Int)<(key.size:Int):=by omega
      have hb2':(100:Int)<(n:Int):=by omega
      exact Az39u
  case pos =>
    have hb1 : ¬ (100:Int)<(key.size:Int):=by omega
    have hb2 : ¬ (100:Int)<(n:Int):=by omega
    clear hb;go_enter func4,ntmps4;go_upto_region 3 with fail
    clear x1_0 x1_1 x1_2 x1_3 x1_4 x1_5 x1_6 x1_7 x1_f x1_l;clear H_x1;generalize(w.alloc (.cells #[.int .i64 what,.int .i64 who,.int .i64 ld,.int .u64 T,.int .u64 N,.string key,.slice a n c,.int .i64 code] 45))=W at *;generalize w.heap.size=q0 at X1 ⊢;have z1:=zj (w:=W) (o := .cells #[.pointer none,.map none,.int .i64 0] 49 (0,0)) rfl;have z2:=zj (w:=(W.alloc (.cells #[.pointer none,.map none,.int .i64 0] 49 (0,0)))) (o := .cells #[.pointer none,lkP W.heap.size] 23 (0,0)) (n:=W.heap.size+1) (by simp);have b2:zc (W.alloc (.cells #[.pointer none,.map none,.int .i64 0] 49)) ((W.alloc (.cells #[.pointer none,.map none,.int .i64 0] 49)).alloc (.cells #[.pointer none,lkP W.heap.size] 23)):=(Mod.refl _ _).alloc _;have b1:zc W (W.alloc (.cells #[.pointer none,.map none,.int .i64 0] 49)):=(Mod.refl _ _).alloc _;have Z1:=za (b2.heap (fun h=>h) z1);have Z2:=za z2;have B1:=za (b1.trans b2);clear b1 b2 z1 z2;go_upto_region 4 with fail
    generalize((W.alloc (.cells #[.pointer none,.map none,.int .i64 0] 49)).alloc (.cells #[.pointer none,lkP W.heap.size] 23))=V at *;generalize W.heap.size=q1 at *;have HZ:=za (zh6 Z1.out);have Z:Hid (∀ Y,zc V Y→Y.cell? ⟨q0,1,none⟩=some (.int .i64 who)∧Y.cell? ⟨q0,2,none⟩=some (.int .i64 ld)∧Y.cell? ⟨q0,3,none⟩=some (.int .u64 T)∧Y.cell? ⟨q0,4,none⟩=some (.int .u64 N)∧Y.cell? ⟨q0,5,none⟩=some (.string key)∧Y.cell? ⟨q0,6,none⟩=some (.slice a n c)∧Y.cell? ⟨q0,7,none⟩=some (.int .i64 code)):=za (fun Y hY=>by
      have h9:=hY.heap (fun h=>h) (B1.out.heap (fun h=>h) X1.out);exact⟨zi Y q0 1 _ _ (0,0) h9,zi Y q0 2 _ _ (0,0) h9,zi Y q0 3 _ _ (0,0) h9,zi Y q0 4 _ _ (0,0) h9,zi Y q0 5 _ _ (0,0) h9,zi Y q0 6 _ _ (0,0) h9,zi Y q0 7 _ _ (0,0) h9⟩)
    go_loopw [28] (fun v27 wr => ∃ i:Nat,v27=.int .i64 (i:Nat)∧i≤2∧zc V wr) (fun v27 _=>2-(intOf v27).toNat)
    case atStart=>exact⟨0,rfl,yi _,Mod.refl _ _⟩
    case round =>
      obtain⟨i,rfl,hi2,hp⟩:=hrel;by_cases hlt:i<2
      · have hlt':(i:Int)<2:=by omega
        have i0:(0:Int)≤(i:Int):=by omega
        have wi:IntKind.i64.wrap ((i:Int)+1)=(i:Int)+1:=zt _ (by omega);obtain⟨o,hv,hn⟩ : ∃ o,wr.cell? ⟨q1+1,i,none⟩=some (.pointer o)∧km wr o:=by
          rcases(show i=0∨i=1 by omega)with rfl | rfl
          · exact⟨none,by rw[zi wr _ 0 _ _ (0,0) (hp.heap (fun h=>h) Z2.out)];rfl,zfW wr⟩
          · exact⟨some ⟨q1,0,none⟩,by rw[zi wr _ 1 _ _ (0,0) (hp.heap (fun h=>h) Z2.out)];rfl,HZ.out.pure hp⟩
        have HN:=za hn;have HP:=za hp;clear hn hp;obtain⟨y1,y2,y3,y4,y5,y6,y7⟩:=Z.out _ HP.out;go_upto_region 7 with(go_at_call 10;refine zq (zhb HN.out T key who) ?_;rintro e w' ⟨rfl,hp⟩;replace HN:=za (HN.out.pure hp);replace HP:=za (HP.out.trans hp);clear hp y1 y2 y3 y4 y5 y6 y7)
        have hal:zc w' (w'.alloc (.cells #[.int .i64 0,.slice none 0 0,.int .i64 0] 34)):=(Mod.refl _ _).alloc _;have HX:=za (zj (w:=w') (o := .cells #[.int .i64 0,.slice none 0 0,.int .i64 0] 34 (0,0)) rfl);replace HN:=za (HN.out.pure hal);replace HP:=za (HP.out.trans hal);clear hal hv;generalize(w'.alloc (.cells #[.int .i64 0,.slice none 0 0,.int .i64 0] 34))=w3 at *;generalize w'.heap.size=xb at *;obtain⟨y1,y2,y3,y4,y5,y6,y7⟩:=Z.out _ HP.out;obtain⟨m0,m1,m2⟩:=qQ HX.out
        go_wp2_with (first
          | (go_at_call 11;refine zq (zfs HN.out T ld a n c N) ?_;rintro e w' ⟨rfl,hp⟩;replace HN:=za (HN.out.pure hp);replace HP:=za (HP.out.trans hp);replace HX:=za (hp.heap (fun e=>e) HX.out);clear hp y1 y2 y3 y4 y5 y6 y7 m0 m1 m2;obtain⟨y1,y2,y3,y4,y5,y6,y7⟩:=Z.out _ HP.out;obtain⟨m0,m1,m2⟩:=qQ HX.out)
          | (go_at_call 12;refine zq (ziN HN.out T ld code) ?_;rintro e w' ⟨rfl,hp⟩;replace HN:=za (HN.out.pure hp);replace HP:=za (HP.out.trans hp);replace HX:=za (hp.heap (fun e=>e) HX.out);clear hp y1 y2 y3 y4 y5 y6 y7 m0 m1 m2;obtain⟨y1,y2,y3,y4,y5,y6,y7⟩:=Z.out _ HP.out;obtain⟨m0,m1,m2⟩:=qQ HX.out)
          | (go_at_call 14;refine zq (zeM HN.out ld who) ?_;rintro e w' ⟨rfl,hp⟩;replace HN:=za (HN.out.pure hp);replace HP:=za (HP.out.trans hp);replace HX:=za (hp.heap (fun e=>e) HX.out);clear hp y1 y2 y3 y4 y5 y6 y7 m0 m1 m2;obtain⟨y1,y2,y3,y4,y5,y6,y7⟩:=Z.out _ HP.out;obtain⟨m0,m1,m2⟩:=qQ HX.out)
          | (go_at_call 13;refine zq (zlh HN.out T key) ?_;rintro e w' ⟨rfl,hp⟩;replace HN:=za (HN.out.pure hp);replace HP:=za (HP.out.trans hp);replace HX:=za (hp.heap (fun e=>e) HX.out);clear hp y1 y2 y3 y4 y5 y6 y7 m0 m1 m2;obtain⟨y1,y2,y3,y4,y5,y6,y7⟩:=Z.out _ HP.out;obtain⟨m0,m1,m2⟩:=qQ HX.out)
          | (go_at_call 15;refine zq (zgG HN.out) ?_;rintro e w' ⟨rfl,hp⟩;replace HN:=za (HN.out.pure hp);replace HP:=za (HP.out.trans hp);replace HX:=za (hp.heap (fun e=>e) HX.out);clear hp y1 y2 y3 y4 y5 y6 y7 m0 m1 m2;obtain⟨y1,y2,y3,y4,y5,y6,y7⟩:=Z.out _ HP.out;obtain⟨m0,m1,m2⟩:=qQ HX.out)
          | (go_at_call 16;refine zq (zdO HN.out) ?_;rintro e w' ⟨rfl,hp⟩;replace HN:=za (HN.out.pure hp);replace HP:=za (HP.out.trans hp);replace HX:=za (hp.heap (fun e=>e) HX.out);clear hp y1 y2 y3 y4 y5 y6 y7 m0 m1 m2;obtain⟨y1,y2,y3,y4,y5,y6,y7⟩:=Z.out _ HP.out;obtain⟨m0,m1,m2⟩:=qQ HX.out)
          | (go_at_call 17;refine zq (zfS HN.out) ?_;rintro e w' ⟨rfl,hp⟩;replace HN:=za (HN.out.pure hp);replace HP:=za (HP.out.trans hp);replace HX:=za (hp.heap (fun e=>e) HX.out);clear hp y1 y2 y3 y4 y5 y6 y7 m0 m1 m2;obtain⟨y1,y2,y3,y4,y5,y6,y7⟩:=Z.out _ HP.out;obtain⟨m0,m1,m2⟩:=qQ HX.out))
        go_roundw
        case rel=>exact⟨i+1,by go_num,hlt,HP.out⟩
        case measure=>simp[intOf];omega
      · have e:i=2:=by omega
        subst e;have HP:=za (A1.out.trans (B1.out.trans hp));clear hp
        go_wp2_with (go_at_call 7;refine(HKn.out _ HP.out).mono ?_;rintro e w' ⟨rfl,hp⟩)
        have hpp:=HP.out.trans hp;exact zN (v := .bool true) (by simp[results,results4,go_sem]) rfl ⟨rfl,hpp⟩
end
section
open Go.ChangeShapes Go.WideShapes Go.ChangeAt Go.RowKit
set_option maxRecDepth 100000 in
theorem zdC(os:Os)(started:os.Started)(H:Type)(enc:TypeId × Value→H) :
  ReturnsInHanded {} Tryz.checked os 4 .any (fun w args=>(Rows.fetchNoneSpec.pre enc prog f4 Rows.fetchNoneRow.domain false w args∧laidMetH prog Rows.fetchNoneRow.laid w)∧sizedMet enc prog f4 (OpenSpec.ofChange Rows.fetchNoneSpec) false w args)
   (Rows.fetchNoneSpec.post enc prog f4 false true false false):=by
 refine returnsInHanded_of_change_and (C:=Tryz.checked) (X:=fun w _=>laidMetH prog Rows.fetchNoneRow.laid w) (fun _ _ _ hh h=>h.of_heap hh) zij started (by kernel_rfl) func4
  (ChangeSpec.witness_shaped (enc:=enc) (C:=Tryz.checked) (os:=os) (X:=fun w _=>laidMetH prog Rows.fetchNoneRow.laid w) false (World.laidAll prog os Rows.fetchNoneRow.laid) #[.agg #[.int .i64 0,.int .i64 0,.int .i64 0,.int .u64 0,.int .u64 0,.string ⟨#[]⟩,.slice none 0 0,.int .i64 0]] 8 (World.laidAll_os _ _ _)
   (World.shaped_of_ZipB (by kernel_rfl) (by kernel_rfl)) (by kernel_rfl) (by kernel_rfl) (by kernel_rfl)
   (by rw[MakeChecks.laidMetH_plain _ _ _ (by kernel_rfl)];exact laidMet_laidAll _ (by kernel_rfl) (by kernel_rfl))) ?_
 intro W base args ds gs before hval0 hW _ _ hL _;have hval : ∀(j:Nat) t v,f4.params[j]? = some t→args[j]? = some v→Value.okWide prog W .any base t v:=hval0;have hW':=hW;obtain⟨p,q,hA0,hV,rfl,hfz,hnd⟩:=hW;have hA:DataW.TrodAll enc prog W 0 (fun _=>true) true f4.params.toList args.toList ds p:=hA0;rw[params4]at hA hval;obtain⟨v0,vs0,d0,ds0,p0,q0,hargs,rfl,rfl,h0,r0⟩:=trodAll_cons hA;obtain⟨rfl,rfl,rfl⟩:=trodAll_nil r0;obtain rfl:args=#[v0]:=by cases args;simp_all
 obtain⟨rfl,rfl⟩:=trodVars_none hV;have hTab:=ziK hL;obtain⟨u0,k0,l0,T0,N0,key0,va0,vn0,vc0,cd0,rfl,j0,jN0,jk0,jn0⟩:=zic (hval 0 45 v0 rfl rfl) h0;clear hA0 hval0;refine(zgA W hTab u0 k0 l0 T0 j0 N0 jN0 key0 jk0 va0 vn0 vc0 jn0 cd0).mono fun e W' ⟨he,hg⟩ => ?_
 subst he;exact⟨_,rfl,zko zd2 (by kernel_rfl) rfl (by kernel_rfl) underlying4 hW' rfl hg⟩
end
section
open Go.ChangeShapes Go.WideShapes Go.ChangeAt Go.RowKit
theorem FetchNone_said:Rows.FetchNoneSaid :=
 OpenClaim.holds_of_wide 4 f4 rfl rfl rfl rfl rfl rfl rfl ⟨rfl,rfl,rfl,rfl,rfl⟩ rfl rfl rfl rfl rfl (by kernel_rfl) func4 zkF
  (of_decide_eq_true (by kernel_rfl)) (by unfold Func.isWrapper;first | (rw[zk (by decide +kernel)];kernel_rfl) | (rw[zh (by decide +kernel)];exact⟨rfl,rfl⟩))
  (fun os started H enc _=>zdC os started H enc)
end
end Go.Proofs.YtdohbogbnheakaaGreatDoor
