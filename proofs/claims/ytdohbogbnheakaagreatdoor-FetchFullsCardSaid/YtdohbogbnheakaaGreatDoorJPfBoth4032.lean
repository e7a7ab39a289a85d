/- Lemmas and contracts of functions. No condition. -/
import Derived.Test.YtdohbogbnheakaaGreatDoorJPfBoth4029
import Derived.Test.YtdohbogbnheakaaGreatDoorTie
namespace Go.Proofs.YtdohbogbnheakaaGreatDoor
open _root_.Go.Proofs.Tryz
set_option maxRecDepth 100000
set_option maxHeartbeats 20000000
set_option linter.all false
section
open Go.RowKit Go.Shelf
section
variable{w:World}
theorem zl5{a:Option Addr}{m c:Nat}{vs:List UInt8}(h:yq w (.slice a m c) (zQ vs)):m=vs.length:=by
 obtain⟨a',n',c',e,hl,_⟩:=yq.read h (jn vs)
 cases e
 rw[kG]at hl;omega
theorem zl8(n:Nat)(hn:n≤65537) : ∃(C:Array Value) (vs:List UInt8),C.toList=zQ vs∧vs.length=n ∧ ∀ W:World,(Instr.makeSlice 32 (.int .i64 n) (.int .i64 n)).run prog W=.ok (.slice (some ⟨W.heap.size,0,none⟩) n n) (W.alloc (.cells C 5)):=by
 obtain⟨i8,h8,z8,y8,x8⟩:=xG zkA;refine⟨madeCells (Value.int .u8 0).cells (n*1),List.replicate n 0,?_,by simp,fun W => ?_⟩
 ·rw[show(Value.int .u8 0).cells=#[.int .u8 0]from rfl,Go.toList_madeCells_one,jW];simp[zQ]
 ·have:=run_make W 32 5 i8 _ underlying32 h8 z8 .i64 .i64 n n (by omega) (Int.le_refl _) (by rw[x8];omega) (by omega);rw[y8]at this;simpa using this
end
end
section
open Go.RowKit Go.Shelf Go.Maps
section
variable{w w' w1 w2 w0:World}{q p m1 last:Nat}{X X':List Ld}{D1 D1':DataW Unit}{S D0:Nat→Prop}{t t' t1 t2:Bst}
theorem zmh(h:FeP w0 q p m1 last X t w){tt ttl vn vc:Nat}{va:Option Addr}{x:Ld}(hx:x∈X)(hv:65536<vn) :
    Calls prog 11 #[lkP q,.int .u64 tt,.int .i64 x.num,.slice va vn vc,.int .u64 ttl] w fun e w'=>e=.returned (.tuple #[.slice none 0 0,.int .i64 5])∧FeP w0 q p m1 last X t w':=by
  obtain⟨D0,D1,h⟩:=h;have hal:zc w (w.alloc (.cells #[.slice va vn vc] 32)):=(Mod.refl _ w).alloc _;have h1:=h.pure hal;have z8:=zj (w:=w) (o := .cells #[.slice va vn vc] 32 (0,0)) rfl;have HN:=za (Zf h1.fe);have HF:=za (Vo h1.fe hx);have HH:=za h1;have Z8:=za z8;have hlv:(vn:Int)>65536:=by omega
  clear h h1 hx hal z8 hv
  go_enter_defers func11,ntmps11
  go_upto_region 1 with fail
  generalize w.alloc (.cells #[.slice va vn vc] 32)=W1 at *;generalize w.heap.size=c8 at *;go_upto_region 6 with(first
    | (go_at_call 32;refine HN.out.mono ?_;rintro e w' ⟨rfl,rfl⟩)
    | (go_at_call 39;refine HF.out.mono ?_;rintro e w2 ⟨rfl,hp⟩))
  have z8:=hp.heap (fun e=>e) Z8.out;obtain⟨z8_0,z8_f,z8_l,H_z8⟩:=cr1 z8;clear z8;go_wp2;exact⟨.tuple #[.slice none 0 0,.int .i64 5],by simp[results,results11,go_sem],rfl,D0,D1,HH.out.pure hp⟩
end
def kfA(i:Nat):ByteArray:=⟨#[107,UInt8.ofNat (48+i/10),UInt8.ofNat (48+i%10)]⟩
def kfE(i:Nat):ByteArray:=⟨#[UInt8.ofNat (48+i/10),UInt8.ofNat (48+i%10)]⟩
theorem zmj(i:Nat):(⟨#[107]⟩:ByteArray)++kfE i=kfA i:=rfl
theorem u8i{a b:Nat}(ha:a<256)(hb:b<256)(h:UInt8.ofNat a=UInt8.ofNat b):a=b:=by
 have:=congrArg UInt8.toNat h;rw[UInt8.toNat_ofNat',UInt8.toNat_ofNat']at this;omega
theorem zl0{i j:Nat}(hi:i<100)(hj:j<100)(h:kfA i=kfA j):i=j:=by
 unfold kfA at h;injection h with h
 have h:=congrArg Array.toList h;simp only[List.cons.injEq,and_true,true_and]at h;obtain⟨h1,h2⟩:=h;have:=u8i (by omega) (by omega) h1;have:=u8i (by omega) (by omega) h2;omega
theorem zmg{a b:Nat}(ha:a<256)(hb:b<256)(W:World):(convert 32 9 (.slice (some ⟨W.heap.size,0,none⟩) 2 2)).run prog (W.alloc (.cells #[.int .u8 a,.int .u8 b] 5))=.ok (.string ⟨#[UInt8.ofNat a,UInt8.ofNat b]⟩) (W.alloc (.cells #[.int .u8 a,.int .u8 b] 5)):=by
 refine zcD [UInt8.ofNat a,UInt8.ofNat b] ?_;have e : ∀ x:Nat,x<256→(Value.int .u8 (UInt8.ofNat x).toNat)=.int .u8 x:=fun x hx=>by rw[UInt8.toNat_ofNat',xY (by omega)]
 have h:=zo.of_block 2 2 1 (zj (w:=W) (o := .cells #[.int .u8 a,.int .u8 b] 5 (0,0)) rfl) rfl (by simp[Value.oneCell']);have e2:zQ [UInt8.ofNat a,UInt8.ofNat b]=[.int .u8 a,.int .u8 b]:=by
  show[Value.int .u8 (UInt8.ofNat a).toNat,.int .u8 (UInt8.ofNat b).toNat]=_
  rw[e a ha,e b hb]
 rw[e2];exact h
theorem zl6{i:Nat}(hi:i<100)(W:World):(convert 32 9 (.slice (some ⟨W.heap.size,0,none⟩) 2 2)).run prog (W.alloc (.cells #[.int .u8 (48+(i:Int)/10),.int .u8 (48+(i:Int)%10)] 5))=.ok (.string (kfE i)) (W.alloc (.cells #[.int .u8 (48+(i:Int)/10),.int .u8 (48+(i:Int)%10)] 5)):=by
 have h4:=zmg (a:=48+i/10) (b:=48+i%10) (by omega) (by omega) W;have e:(⟨#[UInt8.ofNat (48+i/10),UInt8.ofNat (48+i%10)]⟩:ByteArray)=kfE i:=rfl;rw[e]at h4
 push_cast at h4
 exact h4
structure FY(i:Nat)(L:List LdA):Prop where
 len:L.length=i
 each : ∀ x∈L,x.who<i∧x.num=x.who+1∧x.key=kfA x.who∧x.ws=[]
 one:0<i→(⟨1,kfA 0,0,[],false⟩:LdA)∈L
theorem FY.zero:FY 0 []:=⟨rfl,fun x hx=>(by cases hx),fun h=>(by omega)⟩
theorem FY.add{i:Nat}{L:List LdA}(h:FY i L):FY (i+1) (⟨i+1,kfA i,i,[],false⟩::L):=by
 refine⟨by rw[kz,h.len],fun x hx => ?_,fun _ => ?_⟩
 ·rcases zO.1 hx with rfl | hx
  ·exact⟨Nat.lt_succ_self _,rfl,rfl,rfl⟩
  ·obtain⟨h1,h2⟩:=h.each x hx;exact⟨by omega,h2⟩
 ·by_cases e:i=0
  ·subst e;exact zO.2 (.inl rfl)
  ·exact zO.2 (.inr (h.one (by omega)))
theorem FY.free{i j:Nat}{L:List LdA}(h:FY i L)(hj:i≤j)(hl:j<100) : ∀ x∈L,¬ U4 x j∧x.key≠kfA j:=fun x hx=>by
 obtain⟨h1,h2,h3,h4⟩:=h.each x hx;refine⟨fun e => ?_,fun e => ?_⟩
 ·unfold U4 at e;rw[h4]at e;rcases e with e | e
  ·omega
  ·cases e
 ·rw[h3]at e;have:=zl0 (by omega) hl e;omega
def zlX(L:List LdA)(n:Nat):List LdA:=L.filter fun y=>decide (y.num≠n)
theorem FY.off{i:Nat}{L:List LdA}(h:FY i L)(hi:i<100) : ∀ x∈zlX L 1,¬ U4 x 0∧x.key≠kfA 0:=fun x hx=>by
 unfold zlX at hx;obtain⟨hx,hn⟩:=qT.1 hx;have hn:x.num≠1:=by simpa using hn
 obtain⟨h1,h2,h3,h4⟩:=h.each x hx;refine⟨fun e => ?_,fun e => ?_⟩
 ·unfold U4 at e;rw[h4]at e;rcases e with e | e
  ·omega
  ·cases e
 ·rw[h3]at e;have:=zl0 (by omega) (by omega) e;omega
theorem FY.less{i:Nat}{L:List LdA}(h:FY i L)(hi:0<i):(zlX L 1).length<i:=by
 rw[← h.len];unfold zlX;exact List.length_filter_lt_length_iff_exists.2 ⟨_,h.one hi,by simp⟩
theorem zma(X:List Ld)(n:Nat):(vr X n).map Ld.ab=zlX (X.map Ld.ab) n:=by
 unfold vr zlX;rw[List.filter_map]
 rfl
theorem zlZ(a i:Nat):vA (jm (fk0 a 0) i)=fk0 (max a i) 0:=rfl
section
variable{w w' w0:World}{q p m1 last i n:Nat}{L:List LdA}{t t1 t2:Bst}
theorem zmo(h:FeS w0 q p m1 last L (fk0 (i-1) 0) w)(hno : ∀ x∈L,¬ U4 x n∧x.key≠kfA n)(hL:L.length<64)(hi:i≤200)(hn:n≤200)(hl:last≤200) :
  Calls prog 10 #[lkP q,.int .u64 i,.string (kfA n),.int .i64 n] w fun e w'=>e=FA 2 (.slice none 0 0) ((last:Int)+1) 0∧FeS w0 q p m1 (last+1) (⟨last+1,kfA n,n,[],false⟩::L) (fk0 i 0) w':=by
 obtain⟨X,rfl,h⟩:=h;refine VM h (by omega) (by omega) (by show(3:Nat)≤1000;decide) rfl (.inr ⟨fun x hx=>(hno _ (zz.2 ⟨x,hx,rfl⟩)).1,rfl,.inr ⟨rfl,.inr ⟨fun x hx=>(hno _ (zz.2 ⟨x,hx,rfl⟩)).2,.inr ⟨by simpa using hL,by omega,fun W b hW=>⟨by push_cast;rfl,⟨last+1,kfA n,n,.slice none 0 0,[],false,b⟩::X,rfl,?_⟩⟩⟩⟩⟩);rw[zlZ,show max (i-1) i=i by omega]at hW;exact hW
theorem zmm(h:FeS w0 q p m1 last L (fk0 (i-1) 0) w)(hno : ∀ x∈L,¬ U4 x n∧x.key≠kfA n)(hL:L.length=64)(hi:i≤200)(hn:n≤200) :
  Calls prog 10 #[lkP q,.int .u64 i,.string (kfA n),.int .i64 n] w fun e w'=>e=FA 0 (.slice none 0 0) 0 7∧FeS w0 q p m1 last L (fk0 i 0) w':=by
 obtain⟨X,rfl,h⟩:=h;refine VM h (by omega) (by omega) (by show(3:Nat)≤1000;decide) rfl (.inr ⟨fun x hx=>(hno _ (zz.2 ⟨x,hx,rfl⟩)).1,rfl,.inr ⟨rfl,.inr ⟨fun x hx=>(hno _ (zz.2 ⟨x,hx,rfl⟩)).2,.inl ⟨Nat.le_of_eq (by simpa using hL.symm),fun W hW=>⟨rfl,_,rfl,?_⟩⟩⟩⟩⟩);rw[zlZ,show max (i-1) i=i by omega]at hW;exact hW
theorem zmf{a:Nat}(h:FeS w0 q p m1 last L (fk0 a 0) w)(hno : ∀ x∈L,¬ U4 x 0∧x.key≠kfA 0)(hL:L.length<64)(hl:last≤200) :
  Calls prog 10 #[lkP q,.int .u64 101,.string (kfA 0),.int .i64 0] w fun e w'=>e=FA 2 (.slice none 0 0) ((last:Int)+1) 0∧zc w0 w':=by
 obtain⟨X,rfl,h⟩:=h;refine VM h (tt:=101) (who:=0) (key:=kfA 0) (by decide) (by decide) (by show(3:Nat)≤1000;decide) rfl (.inr ⟨fun x hx=>(hno _ (zz.2 ⟨x,hx,rfl⟩)).1,rfl,.inr ⟨rfl,.inr ⟨fun x hx=>(hno _ (zz.2 ⟨x,hx,rfl⟩)).2,.inr ⟨by simpa using hL,by omega,fun W b hW=>⟨by push_cast;rfl,?_⟩⟩⟩⟩⟩);obtain⟨_,_,hx⟩:=hW;exact hx.pu
theorem zlY{b:Nat}{x y z:Value}(h:w.heap[b]? = some (.cells #[x,y,z] 34 (0,0))):w.cell? ⟨b,0,none⟩=some x∧w.cell? ⟨b,1,none⟩=some y∧w.cell? ⟨b,2,none⟩=some z :=
 ⟨zi w b 0 _ _ (0,0) h,zi w b 1 _ _ (0,0) h,zi w b 2 _ _ (0,0) h⟩
theorem zl7{v:Value}{vs:List UInt8}(h:Zj w 0 [] 0 vs v) : ∃ g c va vc,v=.slice (some ⟨g,0,none⟩) 1 c∧w.cell? ⟨g,0,none⟩=some (.int .i64 0)∧w.cell? ⟨g,1,none⟩=some (.slice va vs.length vc):=by
 obtain⟨a,c,l,rfl,hrow,hl,hv⟩:=h;obtain⟨g,c',e',_,_,hc,_⟩:=uO hrow (by decide)
 cases e'
 cases l with
 | nil=>cases hl
 | cons p l =>
  obtain⟨n,v⟩:=p;obtain rfl:n=0:=by
   have:=(List.cons.inj hl).1;exact this
  have hb:=hv _ (zO.2 (.inl rfl));obtain⟨va,vn,vc,rfl,hz,_⟩:=yq.read hb (jn vs);obtain rfl:vn=vs.length:=zl5 hb;exact⟨g,_,va,vc,rfl,hc 0 _ rfl,hc 1 _ rfl⟩
variable{cs:Array Value}{fz:Nat × Nat}{vs:List UInt8}
theorem zme(hc:cs.toList=zQ vs)(hm:vs.length=n)(W:World):zo (W.alloc (.cells cs 5 fz)) (.slice (some ⟨W.heap.size,0,none⟩) n n) 1 (zQ vs):=by
 rw[← hc];exact zo.of_block n n 1 (zj rfl) (by rw[hc,kG,hm,jW]) (by rw[hc];exact jn vs)
theorem zl1(W:World):kx (W.alloc (.cells cs 5 fz)) (.slice (some ⟨W.heap.size,0,none⟩) n n):=fun g hg=>by
 unfold vE at hg;dsimp only at hg;split at hg
 ·cases hg
 ·cases hg;exact⟨cs,fz,zj rfl⟩
theorem zl2(h:FeS w0 q p m1 last L t w)(hX:(⟨1,kfA 0,0,[],false⟩:LdA)∈L)(hn:65536<n) :
  Calls prog 11 #[lkP q,.int .u64 100,.int .i64 1,.slice (some ⟨w.heap.size,0,none⟩) n n,.int .u64 0] (w.alloc (.cells cs 5 fz)) fun e w'=>e=.returned (.tuple #[.slice none 0 0,.int .i64 5])∧FeS w0 q p m1 last L t w':=by
 obtain⟨X,rfl,h⟩:=h;obtain⟨x,hx,e⟩:=zz.1 hX;have e1:x.num=1:=congrArg LdA.num e;have h9:=zmh (h.pure ((Mod.refl _ w).alloc (.cells cs 5 fz))) (tt:=100) (ttl:=0) (vn:=n) (vc:=n) (va:=some ⟨w.heap.size,0,none⟩) hx hn;rw[e1]at h9;refine h9.mono ?_;rintro e w' ⟨rfl,hk⟩;exact⟨rfl,_,rfl,hk⟩
theorem zmr{now:Nat}(hn:n=65535∨n=65536):ji (fk0 now 0) (kfA 0).size n=12:=by
 rcases hn with rfl | rfl<;>kernel_rfl
theorem zmq{now:Nat}(h:FeS w0 q p m1 last L (fk0 now 0) w)(hX:(⟨1,kfA 0,0,[],false⟩:LdA)∈L)(hc:cs.toList=zQ vs)(hm:vs.length=n)(hn:n=65535∨n=65536) :
  Calls prog 11 #[lkP q,.int .u64 100,.int .i64 1,.slice (some ⟨w.heap.size,0,none⟩) n n,.int .u64 0] (w.alloc (.cells cs 5 fz)) fun e w' => ∃ v,e=.returned (.tuple #[v,.int .i64 0])∧Zj w' 0 [] 0 vs v∧FeS w0 q p m1 last (zlX L 1) (fk0 now 0) w':=by
 obtain⟨X,rfl,D0,D1,h⟩:=h;obtain⟨x,hx,e⟩:=zz.1 hX;obtain⟨x1,x2,x3,x4,x5,x6,x7⟩:=x;simp only[Ld.ab,LdA.mk.injEq]at e;obtain⟨rfl,rfl,rfl,rfl,rfl⟩:=e;refine(ze1 (h.pure ((Mod.refl _ w).alloc (.cells cs 5 fz))) (tt:=100) (ttl:=0) (t2:=fk0 now 0) hx (zme hc hm w) (zl1 w) (by omega) (by decide) (.inr (.inr ⟨rfl,rfl,(by show(3:Nat)≤1000;decide),12,zmr hn,by decide,rfl⟩))).mono ?_;rintro e w' ⟨v,rfl,ho,hk,_⟩;exact⟨v,rfl,ho,_,zma X 1,hk⟩
end
end
section
open Go.RowKit Go.Shelf
theorem zmc(w:World)(hT:xA w)(many size:Int):Calls prog 3 #[.int .i64 many,.int .i64 size] w fun e w'=>e=.returned (.bool true)∧zc w w':=by
  have HKn:=za (fun(W:World) (hW:zc w W)=>zeZ W (hT.pure hW));have HN:=za (fun(W:World) (hW:zc w W)=>zgC W (hT.pure hW));clear hT;by_cases h1:many<63
  · go_enter func3,ntmps3
    go_wp2_with (go_at_call 7;refine(HKn.out _ (Mod.refl _ _)).mono ?_;rintro e w' ⟨rfl,hp⟩)
    go_ret;exact⟨rfl,hp⟩
  by_cases h2:many>65
  · go_enter func3,ntmps3
    go_wp2_with (go_at_call 7;refine(HKn.out _ (Mod.refl _ _)).mono ?_;rintro e w' ⟨rfl,hp⟩)
    go_ret;exact⟨rfl,hp⟩
  by_cases h3:size<65535
  · go_enter func3,ntmps3
    go_wp2_with (go_at_call 7;refine(HKn.out _ (Mod.refl _ _)).mono ?_;rintro e w' ⟨rfl,hp⟩)
    go_ret;exact⟨rfl,hp⟩
  by_cases h4:size>65537
  · go_enter func3,ntmps3
    go_wp2_with (go_at_call 7;refine(HKn.out _ (Mod.refl _ _)).mono ?_;rintro e w' ⟨rfl,hp⟩)
    go_ret;exact⟨rfl,hp⟩
  obtain⟨m,rfl⟩ : ∃ m:Nat,many=m:=⟨many.toNat,by omega⟩;obtain⟨n,rfl⟩ : ∃ n:Nat,size=n:=⟨size.toNat,by omega⟩;obtain⟨C,vs,hC,hvs,hmk⟩:=zl8 n (by omega);have HB:=za (show 63≤m∧m≤65∧65535≤n∧n≤65537 by omega);have HV:=za hvs;have HC:=za hC;clear hC hvs;go_enter func3,ntmps3;go_upto_region 7 with(first
    | (go_at_call 9;refine zq (ziC _) ?_;rintro e wB ⟨rfl,hpB⟩)
    | (go_at_call 8;refine(HN.out _ hpB).mono ?_;rintro e w1 ⟨q,p,m1,rfl,hk⟩;have HK:Hid (FeS wB q p m1 0 [] (fk0 0 0) w1):=za hk;have HPB:=za hpB;clear hk HN hpB))
  go_loopw [7] (fun v7 wr => ∃ i:Nat,v7=.int .i64 (i:Nat)∧i≤m ∧ ∃ L,FY (min i 64) L∧FeS wB q p m1 (min i 64) L (fk0 (i-1) 0) wr) (fun v7 _=>m-(intOf v7).toNat)
  case atStart=>exact⟨0,rfl,yi _,[],FY.zero,HK.out⟩
  case round =>
    obtain⟨i,rfl,hi,L,hF,hk⟩:=hrel;have HF:=za hF;have HKr:=za hk;clear hF hk HK;by_cases hlt:i<m
    · have hlt':(i:Int)<(m:Int):=by omega
      have wi:IntKind.i64.wrap ((i:Int)+1)=(i:Int)+1:=zt _ (by have:=HB.out;omega);have h9c:=fun W=>zl6 (i:=i) (by have:=HB.out;omega) W
      have hkf:=zmj i;by_cases hk0:i<64
      · have g1:(i:Int)<64:=by omega
        have g2 : ¬ (i:Int)≥64:=by omega
        have HO:Hid (∀ W,zc wr W→Calls prog 10 #[lkP q,.int .u64 i,.string (kfA i),.int .i64 i] W fun e w'=>e=FA 2 (.slice none 0 0) ((i:Int)+1) 0 ∧ ∃ L',FY (min (i+1) 64) L'∧FeS wB q p m1 (min (i+1) 64) L' (fk0 (i+1-1) 0) w'):=za (fun W hp=>by
          have h9:=HKr.out.pure hp;have h8:=HF.out;rw[show min i 64=i by omega]at h9 h8;rw[show min (i+1) 64=i+1 by omega,Nat.add_sub_cancel];refine(zmo h9 (h8.free (zI _) (by omega)) (by rw[h8.len];exact hk0) (by omega) (by omega) (by omega)).mono ?_;rintro e w' ⟨rfl,h7⟩;exact⟨rfl,_,h8.add,h7⟩)
        clear hk0;go_upto_region 10 with(go_at_call 10;refine zq (HO.out _ ((Mod.refl _ _).alloc _)) ?_;rintro e w3 ⟨rfl,L3,hF3,hk3⟩)
        have hal:zc w3 (w3.alloc (.cells #[.int .i64 2,.slice none 0 0,.int .i64 ((i:Int)+1)] 34)):=(Mod.refl _ _).alloc _;obtain⟨m0,m1',m2⟩:=zlY (zj (w:=w3) (o := .cells #[.int .i64 2,.slice none 0 0,.int .i64 ((i:Int)+1)] 34 (0,0)) rfl);have HK3:=za (hk3.pure hal);have HF3:=za hF3;clear hk3 hal hF3;generalize(w3.alloc (.cells #[.int .i64 2,.slice none 0 0,.int .i64 ((i:Int)+1)] 34))=w4 at *;generalize w3.heap.size=xb at *;go_wp2;go_roundw
        case rel=>exact⟨i+1,by first | rfl | go_num,hlt,L3,HF3.out,HK3.out⟩
        case measure=>simp[intOf];omega
      · have g1 : ¬ (i:Int)<64:=by omega
        have g2:(i:Int)≥64:=by omega
        have HO:Hid (∀ W,zc wr W→Calls prog 10 #[lkP q,.int .u64 i,.string (kfA i),.int .i64 i] W fun e w'=>e=FA 0 (.slice none 0 0) 0 7 ∧ ∃ L',FY (min (i+1) 64) L'∧FeS wB q p m1 (min (i+1) 64) L' (fk0 (i+1-1) 0) w'):=za (fun W hp=>by
          have h9:=HKr.out.pure hp;have h8:=HF.out;rw[show min i 64=64 by omega]at h9 h8;rw[show min (i+1) 64=64 by omega,Nat.add_sub_cancel];refine(zmm h9 (h8.free (by omega) (by have:=HB.out;omega)) h8.len (by have:=HB.out;omega) (by have:=HB.out;omega)).mono ?_;rintro e w' ⟨rfl,h7⟩;exact⟨rfl,_,h8,h7⟩)
        clear hk0;go_upto_region 10 with(go_at_call 10;refine zq (HO.out _ ((Mod.refl _ _).alloc _)) ?_;rintro e w3 ⟨rfl,L3,hF3,hk3⟩)
        have hal:zc w3 (w3.alloc (.cells #[.int .i64 0,.slice none 0 0,.int .i64 0] 34)):=(Mod.refl _ _).alloc _;obtain⟨m0,m1',m2⟩:=zlY (zj (w:=w3) (o := .cells #[.int .i64 0,.slice none 0 0,.int .i64 0] 34 (0,0)) rfl);have HK3:=za (hk3.pure hal);have HF3:=za hF3;clear hk3 hal hF3;generalize(w3.alloc (.cells #[.int .i64 0,.slice none 0 0,.int .i64 0] 34))=w4 at *;generalize w3.heap.size=xb at *;go_wp2;go_roundw
        case rel=>exact⟨i+1,by first | rfl | go_num,hlt,L3,HF3.out,HK3.out⟩
        case measure=>simp[intOf];omega
    · obtain rfl:i=m:=by omega
      have HONE:Hid ((⟨1,kfA 0,0,[],false⟩:LdA)∈L):=za (HF.out.one (by have:=HB.out;omega));by_cases h5:(n:Int)>65536
      · have HN1:Hid (65536<n):=za (by omega)
        go_wp2_with (first
          | (go_at_call 11;refine zq (zl2 HKr.out HONE.out HN1.out) ?_;rintro e w4 ⟨rfl,hk4⟩;have HPK:Hid (zc w w4):=za (by obtain⟨_,_,_,_,hx⟩:=hk4;exact HPB.out.trans hx.pu);clear hk4)
          | (go_at_call 7;refine(HKn.out _ HPK.out).mono ?_;rintro e w9 ⟨rfl,hp9⟩))
        go_ret;exact⟨rfl,HPK.out.trans hp9⟩
      · have HN1:Hid (n=65535∨n=65536):=za (by have:=HB.out;omega)
        have HOff:=za (HF.out.off (by omega));have HLess:=za (HF.out.less (by have:=HB.out;omega));go_upto_region 13 with(go_at_call 11;refine zq (zmq HKr.out HONE.out HC.out HV.out HN1.out) ?_;rintro e w4 ⟨v,rfl,ho,hk4⟩;obtain⟨g,c,va,vc,rfl,c0,c1⟩:=zl7 ho;rw[HV.out]at c1;have HK4:=za hk4;clear hk4 ho)
        go_upto_region 18 with(go_at_call 10;refine zq (zmf HK4.out HOff.out (by have:=HLess.out;omega) (by omega)) ?_;rintro e w5 ⟨rfl,hp5⟩)
        have hal:zc w5 (w5.alloc (.cells #[.int .i64 2,.slice none 0 0,.int .i64 (((min i 64:Nat):Int)+1)] 34)):=(Mod.refl _ _).alloc _;obtain⟨m0,m1',m2⟩:=zlY (zj (w:=w5) (o := .cells #[.int .i64 2,.slice none 0 0,.int .i64 (((min i 64:Nat):Int)+1)] 34 (0,0)) rfl);have HPK:Hid (zc w (w5.alloc (.cells #[.int .i64 2,.slice none 0 0,.int .i64 (((min i 64:Nat):Int)+1)] 34))):=za ((HPB.out.trans hp5).trans hal);clear hal hp5;generalize(w5.alloc (.cells #[.int .i64 2,.slice none 0 0,.int .i64 (((min i 64:Nat):Int)+1)] 34))=w6 at *;generalize w5.heap.size=xb at *
        go_wp2_with (go_at_call 7;refine(HKn.out _ HPK.out).mono ?_;rintro e w9 ⟨rfl,hp9⟩)
        go_ret;exact⟨rfl,HPK.out.trans hp9⟩
end
section
open Go.ChangeShapes Go.WideShapes Go.ChangeAt Go.RowKit
set_option maxRecDepth 100000 in
theorem zmi(os:Os)(started:os.Started)(H:Type)(enc:TypeId × Value→H) :
  ReturnsInHanded {} Tryz.checked os 3 .any (fun w args=>(Rows.fetchFullsSpec.pre enc prog f3 Rows.fetchFullsRow.domain false w args∧laidMetH prog Rows.fetchFullsRow.laid w)∧sizedMet enc prog f3 (OpenSpec.ofChange Rows.fetchFullsSpec) false w args)
   (Rows.fetchFullsSpec.post enc prog f3 false true false false):=by
 refine returnsInHanded_of_change_and (C:=Tryz.checked) (X:=fun w _=>laidMetH prog Rows.fetchFullsRow.laid w) (fun _ _ _ hh h=>h.of_heap hh) zij started (by kernel_rfl) func3
  (ChangeSpec.witness_shaped (enc:=enc) (C:=Tryz.checked) (os:=os) (X:=fun w _=>laidMetH prog Rows.fetchFullsRow.laid w) false (World.laidAll prog os Rows.fetchFullsRow.laid) #[.int .i64 0,.int .i64 0] 8 (World.laidAll_os _ _ _)
   (World.shaped_of_ZipB (by kernel_rfl) (by kernel_rfl)) (by kernel_rfl) (by kernel_rfl) (by kernel_rfl)
   (by rw[MakeChecks.laidMetH_plain _ _ _ (by kernel_rfl)];exact laidMet_laidAll _ (by kernel_rfl) (by kernel_rfl))) ?_
 intro W base args ds gs before hval0 hW _ _ hL _;have hval : ∀(j:Nat) t v,f3.params[j]? = some t→args[j]? = some v→Value.okWide prog W .any base t v:=hval0;have hW':=hW;obtain⟨p,q,hA0,hV,rfl,hfz,hnd⟩:=hW;have hA:DataW.TrodAll enc prog W 0 (fun _=>true) true f3.params.toList args.toList ds p:=hA0;rw[params3]at hA hval;obtain⟨v0,vs0,d0,ds0,p0,q0,hargs,rfl,rfl,h0,r0⟩:=trodAll_cons hA;obtain⟨v1,vs1,d1,ds1,p1,q1,rfl,rfl,rfl,h1,r1⟩:=trodAll_cons r0;obtain⟨rfl,rfl,rfl⟩:=trodAll_nil r1;obtain rfl:args=#[v0,v1]:=by cases args;simp_all
 obtain⟨rfl,rfl⟩:=trodVars_none hV;have hTab:=ziK hL;obtain⟨a0,rfl,rfl,rfl,w0⟩:=open_int underlying3 (hval 0 3 v0 rfl rfl) h0;obtain⟨a1,rfl,rfl,rfl,w1⟩:=open_int underlying3 (hval 1 3 v1 rfl rfl) h1;clear hA0 hval0;refine(zmc W hTab a0 a1).mono fun e W' ⟨he,hg⟩ => ?_
 subst he;exact⟨_,rfl,zko zd2 (by kernel_rfl) rfl (by kernel_rfl) underlying4 hW' rfl hg⟩
end
end Go.Proofs.YtdohbogbnheakaaGreatDoor
