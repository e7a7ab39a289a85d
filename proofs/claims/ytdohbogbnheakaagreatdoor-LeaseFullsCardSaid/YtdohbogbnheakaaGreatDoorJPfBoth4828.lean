/- Lemmas and contracts of functions. No condition. -/
import Derived.Test.YtdohbogbnheakaaGreatDoorJPfBoth4827
import Derived.Test.YtdohbogbnheakaaGreatDoorJPfBoth486
namespace Go.Proofs.YtdohbogbnheakaaGreatDoor
open _root_.Go.Proofs.Tryz
set_option maxRecDepth 100000
set_option maxHeartbeats 20000000
set_option linter.all false
section
open Go.RowKit Go.Shelf
def kfD(i:Nat):ByteArray:=⟨#[UInt8.ofNat (48+i/1000),UInt8.ofNat (48+i/100%10),UInt8.ofNat (48+i/10%10),UInt8.ofNat (48+i%10)]⟩
theorem zhr(i:Nat):(⟨#[107]⟩:ByteArray)++kfD i=kfB i:=rfl
theorem zdV{i:Nat}(hi:i<2000)(W:World):(convert 32 9 (.slice (some ⟨W.heap.size,0,none⟩) 4 4)).run prog (W.alloc (.cells #[.int .u8 (48+(i:Int)/1000),.int .u8 (48+(i:Int)/100%10),.int .u8 (48+(i:Int)/10%10),.int .u8 (48+(i:Int)%10)] 5))=.ok (.string (kfD i)) (W.alloc (.cells #[.int .u8 (48+(i:Int)/1000),.int .u8 (48+(i:Int)/100%10),.int .u8 (48+(i:Int)/10%10),.int .u8 (48+(i:Int)%10)] 5)):=by
 have h4:=zgB (a:=48+i/1000) (b:=48+i/100%10) (c:=48+i/10%10) (d:=48+i%10) (by omega) (by omega) (by omega) (by omega) W;have e:(⟨#[UInt8.ofNat (48+i/1000),UInt8.ofNat (48+i/100%10),UInt8.ofNat (48+i/10%10),UInt8.ofNat (48+i%10)]⟩:ByteArray)=kfD i:=rfl;rw[e]at h4
 push_cast at h4
 exact h4
section
variable{w w' w0:World}{q p m1 m2 life last i m b:Nat}{X X1:List Lt}{t t1 t2:Bst}
theorem zc9{x:Lt}{now:Nat}(h:vp x.til now=false):xB (x::X) now=x::xB X now:=by
 unfold xB;rw[List.filter_cons_of_pos (by rw[h];rfl)]
def FL(m:Nat)(X:List Lt):Prop:=xB X 9=X ∧ ∃ b,(⟨1,kfB 0,10,b⟩:Lt)∈X
theorem zji(h:LeP w0 q p m1 m2 10 i X (lf 0) w)(hX:FX i X)(hi:i<1000):Calls prog 20 #[lkP q,.int .u64 0,.string (kfB i)] w fun e w'=>e=.returned (.tuple #[.int .i64 2,.slice none 0 0,.int .i64 (i+1),.int .i64 0]) ∧ ∃ X',FX (i+1) X'∧LeP w0 q p m1 m2 10 (i+1) X' (lf 0) w':=by
 refine(Va h (tt:=0) (t1:=lf 0) (ln:=i+1) (by decide) (by show(5:Nat)≤1000;decide) rfl rfl rfl (by decide) (hX.stay (by decide)) (hX.key (zH _) (by omega)) (by rw[hX.len];exact hi) rfl (by omega)).mono ?_;rintro e w' ⟨b,rfl,hk⟩;exact⟨rfl,_,hX.add b,hk⟩
theorem zdp(h:LeP w0 q p m1 m2 10 last X (lf 0) w)(hX:FX 1000 X){now:Nat}(hn:now<10){key:ByteArray}(hk:key.size≤1000)(hr:vZ key (lf 0)=0)(hl:vo (yu (lf 0) now) key=none)(ht1:uL (lf 0) now=lf now)(hne : ∀ x∈X,x.key≠key):Calls prog 20 #[lkP q,.int .u64 now,.string key] w fun e w'=>e=.returned (.tuple #[.int .i64 0,.slice none 0 0,.int .i64 0,.int .i64 7])∧LeP w0 q p m1 m2 10 last X (lf now) w' :=
 zio h (by omega) hk hr hl ht1 (hX.stay hn) hne (by rw[hX.len];exact zH _)
theorem zgh(h:LeP w0 q p m1 m2 10 i X (lf 0) w)(hX:FX i X)(hi:0<i∧i<1000):Calls prog 20 #[lkP q,.int .u64 9,.string qL] w fun e w'=>e=.returned (.tuple #[.int .i64 2,.slice none 0 0,.int .i64 (i+1),.int .i64 0]) ∧ ∃ X',FL i X'∧LeP w0 q p m1 m2 10 (i+1) X' (lf 9) w':=by
 refine(Va h (tt:=9) (t1:=lf 9) (ln:=i+1) (by decide) (by decide) rfl rfl rfl (by decide) (hX.stay (by decide)) (hX.size (by decide)) (by rw[hX.len];exact hi.2) rfl (by omega)).mono ?_;rintro e w' ⟨b,rfl,hk⟩;obtain⟨b1,hb1⟩:=hX.one hi.1;rw[show xe (lf 9).now 10=19 by decide]at hk;refine⟨rfl,_,⟨?_,b1,zW.2 (.inr hb1)⟩,hk⟩;rw[zc9 (show vp 19 9=false by decide),hX.stay (now:=9) (by decide)]
theorem zkw(h:LeP w0 q p m1 m2 10 i X (lf 0) w)(hX:FX i X)(hi:i≤1000):Calls prog 20 #[lkP q,.int .u64 10,.string qL] w fun e w'=>e=.returned (.tuple #[.int .i64 2,.slice none 0 0,.int .i64 (i+1),.int .i64 0]) ∧ ∃ b,LeP w0 q p m1 m2 10 (i+1) [⟨i+1,qL,20,b⟩] (lf 10) w':=by
 refine(Va h (tt:=10) (t1:=lf 10) (ln:=i+1) (by decide) (by decide) rfl rfl rfl (by decide) hX.over (fun x hx=>by cases hx) (by decide) rfl (by omega)).mono ?_;rintro e w' ⟨b,rfl,hk⟩;exact⟨rfl,b,hk⟩
variable{n:Nat}{cs:Array Value}{fz:Nat × Nat}{vs:List UInt8}
theorem K6(h:LeP w0 q p m1 m2 10 last X t w)(hn:65536<n)(now:Nat):Calls prog 21 #[lkP q,.int .u64 now,.int .i64 (1:Nat),.slice (some ⟨w.heap.size,0,none⟩) n n,.int .u64 (0:Nat)] (w.alloc (.cells cs 5 fz)) fun e w'=>e=.returned (.int .i64 5)∧LeP w0 q p m1 m2 10 last X t w' :=
 zin (h.pure ((Mod.refl _ w).alloc _)) hn
theorem JW(h:LeP w0 q p m1 m2 10 last X t w)(hn:n=65537){now:Nat}(he:vr t 1 65537=5):Calls prog 22 #[lkP q,.int .u64 now,.string ⟨#[107]⟩,.slice (some ⟨w.heap.size,0,none⟩) n n,.int .u64 (0:Nat)] (w.alloc (.cells cs 5 fz)) fun e w'=>e=.returned (.int .i64 5)∧LeP w0 q p m1 m2 10 last X (vA t) w' :=
 zfM (h.pure ((Mod.refl _ w).alloc _)) (by decide) (by decide) (by omega) (by rw[hn];exact he) (by decide)
theorem KM(h:LeP w0 q p m1 m2 10 last X t w)(hc:cs.toList=zM vs)(hm:vs.length=n){now:Nat}(hn:now≤100)(hok:j5 t ⟨#[107]⟩ n 0=true)(he:vr t 1 n=0):Calls prog 22 #[lkP q,.int .u64 now,.string ⟨#[107]⟩,.slice (some ⟨w.heap.size,0,none⟩) n n,.int .u64 (0:Nat)] (w.alloc (.cells cs 5 fz)) fun e w'=>e=.returned (.int .i64 0) ∧ ∃ X' t',LeP w0 q p m1 m2 10 last X' t' w':=by
 refine(ziM (h.pure ((Mod.refl _ w).alloc _)) (zcg hc hm w) (zbk w) (by omega) hok he rfl).mono ?_;rintro e w' ⟨rfl,hk⟩;exact⟨rfl,_,_,hk⟩
theorem zbE(h:LeP w0 q p m1 m2 10 last X (lf 9) w)(hX:xB X 9=X ∧ ∃ b,(⟨1,kfB 0,10,b⟩:Lt)∈X)(hc:cs.toList=zM vs)(hm:vs.length=n)(hn:n=65535∨n=65536):Calls prog 21 #[lkP q,.int .u64 (9:Nat),.int .i64 (1:Nat),.slice (some ⟨w.heap.size,0,none⟩) n n,.int .u64 (0:Nat)] (w.alloc (.cells cs 5 fz)) fun e w'=>e=.returned (.int .i64 0) ∧ ∃ X',LeP w0 q p m1 m2 10 last X' (lfe 9 vs (n+53)) w':=by
 obtain⟨h1,b,h2⟩:=hX;refine(zbh h (t1:=lf 9) (t2:=kE (lf 9) 9 (kfB 0) vs (dlT 0)) hc hm (by omega) (by decide) rfl rfl h1 h2 (zbR hn).1 (zbR hn).2 rfl).mono ?_;rintro e w' ⟨rfl,hk⟩;have e9:vA (kE (lf 9) 9 (kfB 0) vs (dlT 0))=lfe 9 vs (n+53):=zex hm hn;rw[e9]at hk;exact⟨rfl,_,hk⟩
theorem zjP(h:LeP w0 q p m1 m2 10 last [⟨i+1,qL,20,b⟩] (lf 10) w)(hi:0<i)(hn:n≤65536):Calls prog 21 #[lkP q,.int .u64 (10:Nat),.int .i64 (1:Nat),.slice (some ⟨w.heap.size,0,none⟩) n n,.int .u64 (0:Nat)] (w.alloc (.cells cs 5 fz)) fun e w'=>e=.returned (.int .i64 9)∧LeP w0 q p m1 m2 10 last [⟨i+1,qL,20,b⟩] (lf 10) w' :=
 UR h hn (by decide) rfl rfl (zc9 (X:=[]) (show vp 20 (lf 10).now=false by decide)) (by decide) (fun x hx=>by rw[ya.1 hx];dsimp only;omega) (fun x hx=>by rw[ya.1 hx];exact fun c=>absurd (congrArg ByteArray.size c) (show ¬ qL.size=(⟨#[]⟩:ByteArray).size by decide))
end
theorem Azowj {P:Prop}(h:P:=by
 by_cases h5:(n:Int)>65536
 · have HN1:Hid (n=65537):=za (by have:=HB.out;omega)
   go_wp2_with (first
     | (go_at_call 21;refine zm (K6 HK3.out (by have:=HN1.out;omega) 9) ?_;rintro e w4 ⟨rfl,hk4⟩;have HK4:=za hk4;clear hk4)
     | (go_at_call 22;refine zm (JW HK4.out HN1.out (by kernel_rfl)) ?_;rintro e w5 ⟨rfl,hk5⟩;have HPK:Hid (zb w w5):=za (by obtain⟨_,_,hx⟩:=hk5;exact hx.pu);clear hk5)
     | (go_at_call 18;refine(HKn.out _ HPK.out).mono ?_;rintro e w9 ⟨rfl,hp9⟩))
   go_ret;exact⟨rfl,HPK.out.trans hp9⟩
 · have HN1:Hid (n=65535∨n=65536):=za (by have:=HB.out;omega)
   go_wp2_with (first
     | (go_at_call 21;refine zm (zbE HK3.out HX.out HC.out HV.out HN1.out) ?_;rintro e w4 ⟨rfl,X4,hk4⟩;have HK4:=za hk4;clear hk4)
     | (go_at_call 22;refine zm (KM HK4.out HC.out HV.out (by decide) (Vb HN1.out).1 (Vb HN1.out).2) ?_;rintro e w5 ⟨rfl,_,_,hk5⟩;have HPK:Hid (zb w w5):=za (by obtain⟨_,_,hx⟩:=hk5;exact hx.pu);clear hk5)
     | (go_at_call 18;refine(HKn.out _ HPK.out).mono ?_;rintro e w9 ⟨rfl,hp9⟩))
   go_ret;exact⟨rfl,HPK.out.trans hp9⟩):P:=h
theorem Azcy0 {P:Prop}(h:P:=by
 go_wp2_with (go_at_call 18;refine(HKn.out _ (Mod.refl _ _)).mono ?_;rintro e w' ⟨rfl,hp⟩)
 go_ret;exact⟨rfl,hp⟩):P:=h
theorem zhG(w:World)(hT:xu w)(many size:Int)(late:Bool):Calls prog 5 #[.int .i64 many,.int .i64 size,.bool late] w fun e w'=>e=.returned (.bool true)∧zb w w':=by
  have HKn:=za (fun(W:World) (hW:zb w W)=>zcE W (hT.pure hW));have HN:=za (zbg w hT (c0:=5) (b0:=1048576) (life:=10) ⟨by decide,by decide,by decide,by decide,by decide,by decide⟩ (by decide));clear hT;by_cases h1:many<998
  · go_enter func5,ntmps5
    exact Azcy0
  by_cases h2:many>1002
  · go_enter func5,ntmps5
    exact Azcy0
  by_cases h3:size<65535
  · go_enter func5,ntmps5
    exact Azcy0
  by_cases h4:size>65537
  · go_enter func5,ntmps5
    exact Azcy0
  obtain⟨m,rfl⟩ : ∃ m:Nat,many=m:=⟨many.toNat,by omega⟩;obtain⟨n,rfl⟩ : ∃ n:Nat,size=n:=⟨size.toNat,by omega⟩;obtain⟨C,vs,hC,hvs,hmk⟩:=zhe n (by omega);have HB:=za (show 998≤m∧m≤1002∧65535≤n∧n≤65537 by omega);have HV:=za hvs;have HC:=za hC;clear hC hvs;go_enter func5,ntmps5;go_upto_region 7 with(go_at_call 19;refine HN.out.mono ?_;rintro e w1 ⟨q,p,m1,m2,rfl,hk⟩;have HK:Hid (LeP w q p m1 m2 10 0 [] (lf 0) w1):=za hk;clear hk HN)
  go_loopw [9] (fun v9 wr => ∃ i:Nat,v9=.int .i64 (i:Nat)∧i≤m ∧ ∃ X,FX (min i 1000) X∧LeP w q p m1 m2 10 (min i 1000) X (lf 0) wr) (fun v9 _=>m-(intOf v9).toNat)
  case atStart=>exact⟨0,rfl,yj _,[],FX.zero,HK.out⟩
  case round =>
    obtain⟨i,rfl,hi,X,hF,hk⟩:=hrel;have HF:=za hF;have HKr:=za hk;clear hF hk HK;by_cases hlt:i<m
    · have hlt':(i:Int)<(m:Int):=by omega
      have wi:IntKind.i64.wrap ((i:Int)+1)=(i:Int)+1:=zr _ (by have:=HB.out;omega);have h9c:=fun W=>zdV (i:=i) (by have:=HB.out;omega) W
      have hkf:=zhr i;by_cases hk0:i<1000
      · have g1:(i:Int)<1000:=by omega
        have g2 : ¬ (i:Int)≥1000:=by omega
        have HO:Hid (∀ W,zb wr W→Calls prog 20 #[lkP q,.int .u64 0,.string (kfB i)] W fun e w'=>e=.returned (.tuple #[.int .i64 2,.slice none 0 0,.int .i64 ((i:Int)+1),.int .i64 0]) ∧ ∃ X',FX (min (i+1) 1000) X'∧LeP w q p m1 m2 10 (min (i+1) 1000) X' (lf 0) w'):=za (fun W hp=>by
          have h9:=HKr.out.pure hp;have h8:=HF.out;rw[show min i 1000=i by omega]at h9 h8;rw[show min (i+1) 1000=i+1 by omega];exact zji h9 h8 hk0)
        clear hk0
        go_wp2_with (go_at_call 20;refine zm (HO.out _ ((Mod.refl _ _).alloc _)) ?_;rintro e w3 ⟨rfl,hk3⟩)
        go_roundw
        case rel=>exact⟨i+1,by first | rfl | go_num,hlt,hk3⟩
        case measure=>simp[intOf];omega
      · have g1 : ¬ (i:Int)<1000:=by omega
        have g2:(i:Int)≥1000:=by omega
        have HO:Hid (∀ W,zb wr W→Calls prog 20 #[lkP q,.int .u64 0,.string (kfB i)] W fun e w'=>e=.returned (.tuple #[.int .i64 0,.slice none 0 0,.int .i64 0,.int .i64 7])∧LeP w q p m1 m2 10 (min (i+1) 1000) X (lf 0) w'):=za (fun W hp=>by
          have h9:=HKr.out.pure hp;have h8:=HF.out;rw[show min i 1000=1000 by omega]at h9 h8;rw[show min (i+1) 1000=1000 by omega];exact zdp h9 h8 (by decide) (by show(5:Nat)≤1000;decide) rfl rfl rfl (h8.key (by omega) (by have:=HB.out;omega)))
        have HFn:Hid (FX (min (i+1) 1000) X):=za (by have h8:=HF.out;rw[show min i 1000=1000 by omega]at h8;rw[show min (i+1) 1000=1000 by omega];exact h8);clear hk0
        go_wp2_with (go_at_call 20;refine zm (HO.out _ ((Mod.refl _ _).alloc _)) ?_;rintro e w3 ⟨rfl,hk3⟩)
        go_roundw
        case rel=>exact⟨i+1,by first | rfl | go_num,hlt,X,HFn.out,hk3⟩
        case measure=>simp[intOf];omega
    · obtain rfl:i=m:=by omega
      cases late with
      | true =>
        have HA:=za (zkw HKr.out HF.out (by omega));obtain⟨l,hl⟩:=zc (min i 1000);rw[hl]at HA;have HL:Hid (0<l):=za (by have:=HB.out;omega);clear hl;go_upto_region 19 with(go_at_call 20;refine HA.out.mono ?_;rintro e w3 ⟨rfl,b,hk3⟩;have HK3:=za hk3;clear hk3)
        all_goals
          by_cases h5:(n:Int)>65536
          · have HN1:Hid (n=65537):=za (by have:=HB.out;omega)
            go_wp2_with (first
              | (go_at_call 21;refine zm (K6 HK3.out (by have:=HN1.out;omega) 10) ?_;rintro e w4 ⟨rfl,hk4⟩;have HK4:=za hk4;clear hk4)
              | (go_at_call 22;refine zm (JW HK4.out HN1.out (by kernel_rfl)) ?_;rintro e w5 ⟨rfl,hk5⟩;have HPK:Hid (zb w w5):=za (by obtain⟨_,_,hx⟩:=hk5;exact hx.pu);clear hk5)
              | (go_at_call 18;refine(HKn.out _ HPK.out).mono ?_;rintro e w9 ⟨rfl,hp9⟩))
            go_ret;exact⟨rfl,HPK.out.trans hp9⟩
          · have HN1:Hid (n=65535∨n=65536):=za (by have:=HB.out;omega)
            go_wp2_with (first
              | (go_at_call 21;refine zm (zjP HK3.out HL.out (by have:=HN1.out;omega)) ?_;rintro e w4 ⟨rfl,hk4⟩;have HK4:=za hk4;clear hk4)
              | (go_at_call 22;refine zm (KM HK4.out HC.out HV.out (by decide) (zb8 HN1.out).1 (zb8 HN1.out).2) ?_;rintro e w5 ⟨rfl,_,_,hk5⟩;have HPK:Hid (zb w w5):=za (by obtain⟨_,_,hx⟩:=hk5;exact hx.pu);clear hk5)
              | (go_at_call 18;refine(HKn.out _ HPK.out).mono ?_;rintro e w9 ⟨rfl,hp9⟩))
            go_ret;exact⟨rfl,HPK.out.trans hp9⟩
      | false =>
        by_cases hm:1000≤i
        · have g5:(i:Int)≥1000:=by omega
          have HA:Hid (Calls prog 20 #[lkP q,.int .u64 9,.string qL] wr fun e w'=>e=.returned (.tuple #[.int .i64 0,.slice none 0 0,.int .i64 0,.int .i64 7])∧LeP w q p m1 m2 10 1000 X (lf 9) w'):=za (by
            have h9:=HKr.out;have h8:=HF.out;rw[show min i 1000=1000 by omega]at h9 h8;exact zdp h9 h8 (by decide) (by decide) rfl rfl rfl (h8.size (by decide)))
          have HX:Hid (FL 1000 X):=za (by
            have h8:=HF.out;rw[show min i 1000=1000 by omega]at h8;exact⟨h8.stay (by decide),h8.one (by decide)⟩)
          clear hm;go_upto_region 19 with(go_at_call 20;refine HA.out.mono ?_;rintro e w3 ⟨rfl,hk3⟩;have HK3:=za hk3;clear hk3)
          exact Azowj
        · have g5 : ¬ (i:Int)≥1000:=by omega
          have HA:Hid (Calls prog 20 #[lkP q,.int .u64 9,.string qL] wr fun e w'=>e=.returned (.tuple #[.int .i64 2,.slice none 0 0,.int .i64 ((i:Int)+1),.int .i64 0]) ∧ ∃ X',FL i X'∧LeP w q p m1 m2 10 (i+1) X' (lf 9) w'):=za (by
            have h9:=HKr.out;have h8:=HF.out;rw[show min i 1000=i by omega]at h9 h8;exact zgh h9 h8 ⟨by have:=HB.out;omega,by omega⟩)
          clear hm;go_upto_region 19 with(go_at_call 20;refine HA.out.mono ?_;rintro e w3 ⟨rfl,X3,hx3,hk3⟩;have HK3:=za hk3;have HX:=za hx3;clear hk3 hx3)
          exact Azowj
end
section
open Go.ChangeShapes Go.WideShapes Go.ChangeAt Go.RowKit
set_option maxRecDepth 100000 in
theorem ziB(os:Os)(started:os.Started)(H:Type)(enc:TypeId × Value→H) :
  ReturnsInHanded {} Tryz.checked os 5 .any (fun w args=>(Rows.leaseFullsSpec.pre enc prog f5 Rows.leaseFullsRow.domain false w args∧laidMetH prog Rows.leaseFullsRow.laid w)∧sizedMet enc prog f5 (OpenSpec.ofChange Rows.leaseFullsSpec) false w args)
   (Rows.leaseFullsSpec.post enc prog f5 false true false false):=by
 refine returnsInHanded_of_change_and (C:=Tryz.checked) (X:=fun w _=>laidMetH prog Rows.leaseFullsRow.laid w) (fun _ _ _ hh h=>h.of_heap hh) za2 started (by kernel_rfl) func5
  (ChangeSpec.witness_shaped (enc:=enc) (C:=Tryz.checked) (os:=os) (X:=fun w _=>laidMetH prog Rows.leaseFullsRow.laid w) false (World.laidAll prog os Rows.leaseFullsRow.laid) #[.int .i64 0,.int .i64 0,.bool false] 8 (World.laidAll_os _ _ _)
   (World.shaped_of_ZipB (by kernel_rfl) (by kernel_rfl)) (by kernel_rfl) (by kernel_rfl) (by kernel_rfl)
   (by rw[MakeChecks.laidMetH_plain _ _ _ (by kernel_rfl)];exact laidMet_laidAll _ (by kernel_rfl) (by kernel_rfl))) ?_
 intro W base args ds gs before hval0 hW _ _ hL _;have hval : ∀(j:Nat) t v,f5.params[j]? = some t→args[j]? = some v→Value.okWide prog W .any base t v:=hval0;have hW':=hW;obtain⟨p,q,hA0,hV,rfl,hfz,hnd⟩:=hW;have hA:DataW.TrodAll enc prog W 0 (fun _=>true) true f5.params.toList args.toList ds p:=hA0;rw[params5]at hA hval;obtain⟨v0,vs0,d0,ds0,p0,q0,hargs,rfl,rfl,h0,r0⟩:=trodAll_cons hA;obtain⟨v1,vs1,d1,ds1,p1,q1,rfl,rfl,rfl,h1,r1⟩:=trodAll_cons r0;obtain⟨v2,vs2,d2,ds2,p2,q2,rfl,rfl,rfl,h2,r2⟩:=trodAll_cons r1;obtain⟨rfl,rfl,rfl⟩:=trodAll_nil r2;obtain rfl:args=#[v0,v1,v2]:=by cases args;simp_all
 obtain⟨rfl,rfl⟩:=trodVars_none hV;have hTab:=zbn hL;obtain⟨a0,rfl,rfl,rfl,w0⟩:=open_int underlying3 (hval 0 3 v0 rfl rfl) h0;obtain⟨a1,rfl,rfl,rfl,w1⟩:=open_int underlying3 (hval 1 3 v1 rfl rfl) h1;obtain⟨a2,rfl,rfl,rfl⟩:=open_bool underlying4 (hval 2 4 v2 rfl rfl) h2;clear hA0 hval0;refine(zhG W hTab a0 a1 a2).mono fun e W' ⟨he,hg⟩ => ?_
 exact Azdvy
end
section
open Go.ChangeShapes Go.WideShapes Go.ChangeAt Go.RowKit
theorem LeaseFulls_said:Rows.LeaseFullsSaid :=
 OpenClaim.holds_of_wide 5 f5 rfl rfl rfl rfl rfl rfl rfl ⟨rfl,rfl,rfl,rfl,rfl⟩ rfl rfl rfl rfl rfl (by kernel_rfl) func5 zfU
  (of_decide_eq_true (by kernel_rfl)) (by unfold Func.isWrapper;first | (rw[zh (by decide +kernel)];kernel_rfl) | (rw[zf (by decide +kernel)];exact⟨rfl,rfl⟩))
  (fun os started H enc _=>ziB os started H enc)
end
end Go.Proofs.YtdohbogbnheakaaGreatDoor
