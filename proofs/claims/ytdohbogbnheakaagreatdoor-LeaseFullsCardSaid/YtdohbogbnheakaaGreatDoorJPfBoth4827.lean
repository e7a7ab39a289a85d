/- Lemmas and contracts of functions. No condition. -/
import Derived.Test.YtdohbogbnheakaaGreatDoorJPfBoth4824
import Derived.Test.YtdohbogbnheakaaGreatDoorJPfBoth4826
import Derived.Test.YtdohbogbnheakaaGreatDoorTie
import Derived.Test.YtdohbogbnheakaaGreatDoorJPfBoth485
namespace Go.Proofs.YtdohbogbnheakaaGreatDoor
open _root_.Go.Proofs.Tryz
set_option maxRecDepth 100000
set_option maxHeartbeats 20000000
set_option linter.all false
section
open Go.RowKit Go.Shelf
theorem Azb3h {P:Prop}(h:P:=by
 go_enter func6,ntmps6
 go_wp2_with (go_at_call 18;refine(HKn.out _ A1.out).mono ?_;rintro e w' ⟨rfl,hp⟩)
 have hpp:=A1.out.trans hp;exact zO (v := .bool true) (by simp[results,results6,go_sem]) rfl ⟨rfl,hpp⟩):P:=h
theorem zdD(w:World)(hT:xu w)(what tok:Int)(T:Nat)(_:T<18446744073709551616)(N:Nat)(_:N<18446744073709551616)(key:ByteArray)(hk:key.size≤9223372036854775807)(a:Option Addr)(n c:Nat)(hn:n≤9223372036854775807) :
    Calls prog 6 #[.agg #[.int .i64 what,.int .i64 tok,.int .u64 T,.int .u64 N,.string key,.slice a n c]] w fun e w'=>e=.returned (.bool true)∧zb w w':=by
  have x1:=zi (w:=w) (o := .cells #[.int .i64 what,.int .i64 tok,.int .u64 T,.int .u64 N,.string key,.slice a n c] 70 (0,0)) rfl;have a1:zb w (w.alloc (.cells #[.int .i64 what,.int .i64 tok,.int .u64 T,.int .u64 N,.string key,.slice a n c] 70)):=(Mod.refl _ _).alloc _;have X1:=za x1;have A1:=za a1;have HKn:=za (fun(W:World) (hW:zb w W)=>zcE W (hT.pure hW));clear a1 hT;obtain⟨x1_0,x1_1,x1_2,x1_3,x1_4,x1_5,x1_f,x1_l,H_x1⟩:=cr6 x1;clear x1;by_cases hb:key.size≤100∧n≤100
  case neg =>
    by_cases hb1:100<key.size
    · have hb1':(100:Int)<(key.size:Int):=by omega
      exact Azb3h
    · have hb1' : ¬ (100:Int)<(key.size:Int):=by omega
      have hb2':(100:Int)<(n:Int):=by omega
      exact Azb3h
  case pos =>
    have hb1 : ¬ (100:Int)<(key.size:Int):=by omega
    have hb2 : ¬ (100:Int)<(n:Int):=by omega
    clear hb;go_enter func6,ntmps6;go_upto_region 3 with fail
    clear x1_0 x1_1 x1_2 x1_3 x1_4 x1_5 x1_f x1_l;clear H_x1;generalize(w.alloc (.cells #[.int .i64 what,.int .i64 tok,.int .u64 T,.int .u64 N,.string key,.slice a n c] 70))=W at *;generalize w.heap.size=q0 at X1 ⊢;have z1:=zi (w:=W) (o := .cells #[.pointer none,.int .u64 0,.map none,.map none,.int .i64 0] 74 (0,0)) rfl;have z2:=zi (w:=(W.alloc (.cells #[.pointer none,.int .u64 0,.map none,.map none,.int .i64 0] 74 (0,0)))) (o := .cells #[.pointer none,lkP W.heap.size] 60 (0,0)) (n:=W.heap.size+1) (by simp);have b2:zb (W.alloc (.cells #[.pointer none,.int .u64 0,.map none,.map none,.int .i64 0] 74)) ((W.alloc (.cells #[.pointer none,.int .u64 0,.map none,.map none,.int .i64 0] 74)).alloc (.cells #[.pointer none,lkP W.heap.size] 60)):=(Mod.refl _ _).alloc _;have b1:zb W (W.alloc (.cells #[.pointer none,.int .u64 0,.map none,.map none,.int .i64 0] 74)):=(Mod.refl _ _).alloc _;have Z1:=za (b2.heap (fun h=>h) z1);have Z2:=za z2;have B1:=za (b1.trans b2);clear b1 b2 z1 z2;go_upto_region 4 with fail
    generalize((W.alloc (.cells #[.pointer none,.int .u64 0,.map none,.map none,.int .i64 0] 74)).alloc (.cells #[.pointer none,lkP W.heap.size] 60))=V at *;generalize W.heap.size=q1 at *;have HZ:=za (zeL Z1.out);have Z:Hid (∀ Y,zb V Y→Y.cell? ⟨q0,1,none⟩=some (.int .i64 tok)∧Y.cell? ⟨q0,2,none⟩=some (.int .u64 T)∧Y.cell? ⟨q0,3,none⟩=some (.int .u64 N)∧Y.cell? ⟨q0,4,none⟩=some (.string key)∧Y.cell? ⟨q0,5,none⟩=some (.slice a n c)):=za (fun Y hY=>by
      have h9:=hY.heap (fun h=>h) (B1.out.heap (fun h=>h) X1.out);exact⟨zj Y q0 1 _ _ (0,0) h9,zj Y q0 2 _ _ (0,0) h9,zj Y q0 3 _ _ (0,0) h9,zj Y q0 4 _ _ (0,0) h9,zj Y q0 5 _ _ (0,0) h9⟩)
    go_loopw [26] (fun v27 wr => ∃ i:Nat,v27=.int .i64 (i:Nat)∧i≤2∧zb V wr) (fun v27 _=>2-(intOf v27).toNat)
    case atStart=>exact⟨0,rfl,yj _,Mod.refl _ _⟩
    case round =>
      obtain⟨i,rfl,hi2,hp⟩:=hrel;by_cases hlt:i<2
      · have hlt':(i:Int)<2:=by omega
        have i0:(0:Int)≤(i:Int):=by omega
        have wi:IntKind.i64.wrap ((i:Int)+1)=(i:Int)+1:=zr _ (by omega);obtain⟨o,hv,hn⟩ : ∃ o,wr.cell? ⟨q1+1,i,none⟩=some (.pointer o)∧uF wr o:=by
          rcases(show i=0∨i=1 by omega)with rfl | rfl
          · exact⟨none,by rw[zj wr _ 0 _ _ (0,0) (hp.heap (fun h=>h) Z2.out)];rfl,zjk wr⟩
          · exact⟨some ⟨q1,0,none⟩,by rw[zj wr _ 1 _ _ (0,0) (hp.heap (fun h=>h) Z2.out)];rfl,HZ.out.pure hp⟩
        have HN:=za hn;have HP:=za hp;clear hn hp;obtain⟨y1,y2,y3,y4,y5⟩:=Z.out _ HP.out
        go_wp2_with (first
          | (go_at_call 20;refine zm (zff HN.out T key) ?_;rintro e w' ⟨rfl,rfl⟩)
          | (go_at_call 23;refine zm (zhI HN.out T key) ?_;rintro e w' ⟨rfl,rfl⟩)
          | (go_at_call 21;refine zm (zeq HN.out T tok a n c N) ?_;rintro e w' ⟨rfl,rfl⟩)
          | (go_at_call 24;refine zm (zfc HN.out T tok) ?_;rintro e w' ⟨rfl,rfl⟩)
          | (go_at_call 25;refine zm (zfC HN.out tok) ?_;rintro e w' ⟨rfl,rfl⟩)
          | (go_at_call 22;refine zm (zgE HN.out T key a n c N) ?_;rintro e w' ⟨rfl,rfl⟩)
          | (go_at_call 26;refine zm (zfR HN.out) ?_;rintro e w' ⟨rfl,rfl⟩)
          | (go_at_call 27;refine zm (zhK HN.out) ?_;rintro e w' ⟨rfl,rfl⟩)
          | (go_at_call 28;refine zm (zed HN.out) ?_;rintro e w' ⟨rfl,rfl⟩))
        go_roundw
        case rel=>exact⟨i+1,by go_num,hlt,HP.out⟩
        case measure=>simp[intOf];omega
      · have e:i=2:=by omega
        subst e;have HP:=za (A1.out.trans (B1.out.trans hp));clear hp
        go_wp2_with (go_at_call 18;refine(HKn.out _ HP.out).mono ?_;rintro e w' ⟨rfl,hp⟩)
        have hpp:=HP.out.trans hp;exact zO (v := .bool true) (by simp[results,results6,go_sem]) rfl ⟨rfl,hpp⟩
end
section
open Go.ChangeShapes Go.WideShapes Go.ChangeAt Go.RowKit
theorem Azdvy {P:Prop}(h:P:=by
 subst he;exact⟨_,rfl,zc3 QD (by kernel_rfl) rfl (by kernel_rfl) underlying4 hW' rfl hg⟩):P:=h
set_option maxRecDepth 100000 in
theorem ziP(os:Os)(started:os.Started)(H:Type)(enc:TypeId × Value→H) :
  ReturnsInHanded {} Tryz.checked os 6 .any (fun w args=>(Rows.leaseNoneSpec.pre enc prog f6 Rows.leaseNoneRow.domain false w args∧laidMetH prog Rows.leaseNoneRow.laid w)∧sizedMet enc prog f6 (OpenSpec.ofChange Rows.leaseNoneSpec) false w args)
   (Rows.leaseNoneSpec.post enc prog f6 false true false false):=by
 refine returnsInHanded_of_change_and (C:=Tryz.checked) (X:=fun w _=>laidMetH prog Rows.leaseNoneRow.laid w) (fun _ _ _ hh h=>h.of_heap hh) za2 started (by kernel_rfl) func6
  (ChangeSpec.witness_shaped (enc:=enc) (C:=Tryz.checked) (os:=os) (X:=fun w _=>laidMetH prog Rows.leaseNoneRow.laid w) false (World.laidAll prog os Rows.leaseNoneRow.laid) #[.agg #[.int .i64 0,.int .i64 0,.int .u64 0,.int .u64 0,.string ⟨#[]⟩,.slice none 0 0]] 8 (World.laidAll_os _ _ _)
   (World.shaped_of_ZipB (by kernel_rfl) (by kernel_rfl)) (by kernel_rfl) (by kernel_rfl) (by kernel_rfl)
   (by rw[MakeChecks.laidMetH_plain _ _ _ (by kernel_rfl)];exact laidMet_laidAll _ (by kernel_rfl) (by kernel_rfl))) ?_
 intro W base args ds gs before hval0 hW _ _ hL _;have hval : ∀(j:Nat) t v,f6.params[j]? = some t→args[j]? = some v→Value.okWide prog W .any base t v:=hval0;have hW':=hW;obtain⟨p,q,hA0,hV,rfl,hfz,hnd⟩:=hW;have hA:DataW.TrodAll enc prog W 0 (fun _=>true) true f6.params.toList args.toList ds p:=hA0;rw[params6]at hA hval;obtain⟨v0,vs0,d0,ds0,p0,q0,hargs,rfl,rfl,h0,r0⟩:=trodAll_cons hA;obtain⟨rfl,rfl,rfl⟩:=trodAll_nil r0;obtain rfl:args=#[v0]:=by cases args;simp_all
 obtain⟨rfl,rfl⟩:=trodVars_none hV;have hTab:=zbn hL;obtain⟨u0,k0,T0,N0,key0,va0,vn0,vc0,rfl,j0,jN0,jk0,jn0⟩:=zjb (hval 0 70 v0 rfl rfl) h0;clear hA0 hval0;refine(zdD W hTab u0 k0 T0 j0 N0 jN0 key0 jk0 va0 vn0 vc0 jn0).mono fun e W' ⟨he,hg⟩ => ?_
 exact Azdvy
end
section
open Go.ChangeShapes Go.WideShapes Go.ChangeAt Go.RowKit
theorem LeaseNone_said:Rows.LeaseNoneSaid :=
 OpenClaim.holds_of_wide 6 f6 rfl rfl rfl rfl rfl rfl rfl ⟨rfl,rfl,rfl,rfl,rfl⟩ rfl rfl rfl rfl rfl (by kernel_rfl) func6 zeG
  (of_decide_eq_true (by kernel_rfl)) (by unfold Func.isWrapper;first | (rw[zh (by decide +kernel)];kernel_rfl) | (rw[zf (by decide +kernel)];exact⟨rfl,rfl⟩))
  (fun os started H enc _=>ziP os started H enc)
end
end Go.Proofs.YtdohbogbnheakaaGreatDoor
