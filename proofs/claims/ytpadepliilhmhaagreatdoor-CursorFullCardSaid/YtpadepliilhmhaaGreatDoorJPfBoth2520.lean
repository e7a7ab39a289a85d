/- Lemmas and contracts of functions. No condition. -/
import Derived.Test.YtpadepliilhmhaaGreatDoorJPfBoth2519
import Derived.LaidEql
namespace Go.Proofs.YtpadepliilhmhaaGreatDoor
open _root_.Go.Proofs.Tryz
set_option maxRecDepth 100000
set_option maxHeartbeats 20000000
set_option linter.all false
section
open Go.RowKit Go.Shelf
def uf0:Nat→Bool:=fun _=>false
def up0:Nat→Nat:=fun _=>0
abbrev Vz:Value := .agg #[.int .i64 1024,.int .i64 1048576,.int .i64 80,.int .u64 0,.bool false]
def us0:Bst:=⟨⟨1024,1048576,80,0,false⟩,0,0,[],[],[],[]⟩
theorem zd6(w:World):Calls prog 7 #[] w fun e w'=>e=.returned Vz∧zb w w':=by
 go_enter func7,ntmps7;have hz:=zi (w:=w) (o := .cells #[.int .i64 1024,.int .i64 1048576,.int .i64 80,.int .u64 0,.bool false] 29 (0,0)) rfl;have hp:=za (show zb w (w.alloc (.cells #[.int .i64 1024,.int .i64 1048576,.int .i64 80,.int .u64 0,.bool false] 29))from(Mod.refl _ w).alloc _);go_wp2;generalize w.alloc (.cells #[.int .i64 1024,.int .i64 1048576,.int .i64 80,.int .u64 0,.bool false] 29)=W at *;generalize w.heap.size=r at *;obtain⟨hz_0,hz_1,hz_2,hz_3,hz_4,hz_f,hz_l,H_hz⟩:=cr5 hz;clear hz;exact zM (v:=Vz) (by simp[results,results7,go_sem,hz_0,hz_1,hz_2,hz_3,hz_4]) rfl ⟨rfl,hp.out⟩
theorem zg1:Tryz.zeroCells41=⟨.pointer none :: .int .u64 0::(List.range 64).map fun _ => .int .u64 0⟩:=by kernel_rfl
theorem zfd(p:Nat):Tryz.zeroCells41.setIfInBounds 0 (lkP p)=kn p uf0 up0:=by
 rw[zg1,jX,JY];have e:zE uf0 0=0:=by decide
 unfold kn;rw[e]
 rfl
theorem zj9{w:World}{p:Nat}(h:Calls prog 32 #[lkP p] w fun e w'=>e=.returned Vz∧zb w w') :
  Calls prog 16 #[lkP p] w fun e w' => ∃ q,e=.returned (.tuple #[lkP q,.int .i64 0])∧yD w' q p uf0 up0∧zb w w'∧w.heap.size≤q:=by
 have H:=za h;clear h;go_enter func16,ntmps16
 go_wp2_with (go_at_call 32;refine H.out.mono ?_;rintro e w1 ⟨rfl,hp⟩)
 rw[zfd];go_ret2;exact⟨_,rfl,zi rfl,hp.trans ((Mod.refl _ w1).alloc _),hp.size⟩
theorem zdX{P:Program}(w:World){tp te:TypeId}{j:TypeInfo}(a:Addr)(hp:P.underlying tp=some (.pointer te))(hte:P.info? te=some j):(binOp .neq tp (.pointer (some a)) (.pointer (some a))).run P w=.ok (.bool false) w:=by
 have h : ∀ d,(Op.equalIn (d+1) tp (.pointer (some a)) (.pointer (some a))).run P w=.ok true w:=fun d=>by
  simp[Op.equalIn,run_underlying hp,sizeOf,typeInfo,hte,run_sameAddr_same]
 simp only[binOp];simp[Op.equal,Op.maxDepth,h 9999]
theorem zkC(p:Nat)(w:World):(binOp .neq 23 (lkP p) (lkP p)).run prog w=.ok (.bool false) w:=by
 obtain⟨j,hj⟩ : ∃ j,prog.info? 60=some j:=by
  have h:=underlying60;unfold Program.underlying at h
  cases hi:prog.info? 60 with
  | none=>rw[hi]at h;cases h
  | some i=>exact⟨i,rfl⟩
 exact zdX w _ underlying23 hj
attribute [local go_sem] zkC
theorem zj0:qL uf0=[]:=by decide
theorem KnU.of_new{w w1:World}{p q:Nat}{D:Nat→Prop}(h:yC NoF w1 D p us0)(hp:zb w w1)(hge : ∀ k,D k→w.heap.size≤k)(hpos:0<w.heap.size){w2:World}(hc:yD w2 q p uf0 up0)(hp2:zb w1 w2)(hq:w1.heap.size≤q):KnU w w2 q p uf0 up0 D us0 :=
 ⟨h.pure hp2,hp.trans hp2,hge,hc,fun e=>by have:=h.lt e;omega,zJ hp.size hq,hpos⟩
theorem zhy(w:World)(hT:xt w):Calls prog 6 #[Vz] w fun e w' => ∃ p q,e=.returned (.tuple #[lkP p,lkP q])∧KuP w q p uf0 up0 us0 w':=by
  have hal:zb w (w.alloc (.cells #[.int .i64 1024,.int .i64 1048576,.int .i64 80,.int .u64 0,.bool false] 29)):=(Mod.refl _ w).alloc _;have z:=zi (w:=w) (o := .cells #[.int .i64 1024,.int .i64 1048576,.int .i64 80,.int .u64 0,.bool false] 29 (0,0)) rfl;have HN:=za (zgO (Fo:=NoF) (cfg:=us0.cfg) ⟨by decide,by decide,by decide,by decide,by decide,by decide⟩ (by decide) _ (hT.pure hal) (fun k hk=>hk.elim));have HPos:=za hT.lt;have HP:=za hal;clear hal hT;go_enter func6,ntmps6;go_upto_region 1 with fail
  generalize w.alloc (.cells #[.int .i64 1024,.int .i64 1048576,.int .i64 80,.int .u64 0,.bool false] 29)=W1 at *;generalize w.heap.size=r at z ⊢;obtain⟨z_0,z_1,z_2,z_3,z_4,z_f,z_l,H_z⟩:=cr5 z;clear z;go_upto_region 4 with(go_at_call 22;refine HN.out.mono ?_;rintro e w2 ⟨p,D,rfl,h1,h2,h3⟩)
  have HCf:=za (zj9 h1.config);have H1:=za h1;have H2:=za (HP.out.trans h2);have H3:Hid (∀ k,D k→w.heap.size≤k):=za (fun k hk=>zJ HP.out.size (h3 k hk));clear h1 h2 h3 HN;go_upto_region 5 with(go_at_call 16;refine HCf.out.mono ?_;rintro e w3 ⟨q,rfl,hc,hp3,hq⟩)
  have hU:=KnU.of_new H1.out H2.out H3.out HPos.out hc hp3 hq;have HU:=za hU;have HCa:=za (zhH hU.cu);have HOp:=za (za9 (l:=[]) ⟨D,hU⟩ zj0);clear hU hc hp3 hq HCf
  go_wp2_with (first
    | (go_at_call 11;refine HCa.out.mono ?_;rintro e w' ⟨rfl,rfl⟩)
    | (go_at_call 10;refine HOp.out.mono ?_;rintro e w4 ⟨a,c,rfl,hr,hK⟩))
  go_ret2;exact⟨p,q,rfl,hK⟩
end
section
open Go.RowKit Go.Shelf
def us1:Bst:=⟨⟨1024,1048576,80,0,false⟩,5,1,[⟨⟨#[97]⟩,[],18446744073709551615,1⟩],[⟨1,49⟩],[],[]⟩
def us2:Bst:=⟨⟨1024,1048576,80,0,false⟩,5,2,[⟨⟨#[97]⟩,[],18446744073709551615,1⟩,⟨⟨#[98]⟩,[],9,2⟩],[⟨1,49⟩,⟨2,49⟩],[],[]⟩
def us3:Bst:=⟨⟨1024,1048576,80,0,false⟩,5,3,[⟨⟨#[97]⟩,[],18446744073709551615,1⟩,⟨⟨#[98]⟩,[],9,2⟩,⟨⟨#[99]⟩,[],18446744073709551615,3⟩],[⟨1,49⟩,⟨2,49⟩,⟨3,49⟩],[],[]⟩
def us4:Bst:=⟨⟨1024,1048576,80,0,false⟩,9,3,[⟨⟨#[97]⟩,[],18446744073709551615,1⟩,⟨⟨#[99]⟩,[],18446744073709551615,3⟩],[⟨1,49⟩,⟨3,49⟩],[],[⟨1,⟨⟨#[98]⟩,[],9,2⟩,9⟩]⟩
def us5:Bst:=⟨⟨1024,1048576,80,0,false⟩,9,4,[⟨⟨#[97]⟩,[],18446744073709551615,1⟩,⟨⟨#[99]⟩,[],18446744073709551615,3⟩,⟨⟨#[100]⟩,[],18446744073709551615,4⟩],[⟨1,49⟩,⟨3,49⟩,⟨4,49⟩],[],[⟨1,⟨⟨#[98]⟩,[],9,2⟩,9⟩]⟩
theorem uk1:jw us0 5 ⟨#[97]⟩ [] (fun _=>18446744073709551615)=us1:=by kernel_rfl
theorem uk2:jw us1 5 ⟨#[98]⟩ [] (fun q=>km q 4)=us2:=by kernel_rfl
theorem uk3:jw us2 5 ⟨#[99]⟩ [] (fun _=>18446744073709551615)=us3:=by kernel_rfl
theorem uk4:vY us3 5=us3:=by kernel_rfl
theorem uk5:vY us3 9=us4:=by kernel_rfl
theorem uk6:vY us4 9=us4:=by kernel_rfl
theorem uk7:jw us4 9 ⟨#[100]⟩ [] (fun _=>18446744073709551615)=us5:=by kernel_rfl
theorem uk8:vY us5 9=us5:=by kernel_rfl
def uf1:Nat→Bool:=yT uf0 0 true
def uf2:Nat→Bool:=yT uf1 1 true
def uf3:Nat→Bool:=yT uf2 0 false
def uf4:Nat→Bool:=yT uf3 0 true
def up1:Nat→Nat:=plN up0 0 0
def up2:Nat→Nat:=plN up1 1 0
def up3:Nat→Nat:=plN up2 0 1
def up4:Nat→Nat:=plN up3 0 3
def up5:Nat→Nat:=plN up4 0 4
def up6:Nat→Nat:=plN up5 1 1
def up7:Nat→Nat:=plN up6 1 3
def up8:Nat→Nat:=plN up7 1 4
def up9:Nat→Nat:=plN up8 0 0
theorem ziu{v:Int}{n:Nat}(hv:v=(n:Nat))(W:World):zn (W.alloc (.cells #[.int .i64 v] 3)) (.slice (some ⟨W.heap.size,0,none⟩) 1 1) 1 (vI [n]):=by
 subst hv;exact zn.of_block 1 1 1 (zi rfl) (by rfl) (by simp[Value.oneCell'])
theorem zkB{w0 w:World}{q p:Nat}{f:Nat→Bool}{pl:Nat→Nat}{t:Bst}{a:Option Addr}{c:Nat}{n:Nat}{v:Int}(h:KuP w0 q p f pl t w)(hr:zn w (.slice a 1 c) 1 (vI [n]))(hv:v=(n:Nat)):Calls prog 20 #[.slice a 1 c,.slice (some ⟨w.heap.size,0,none⟩) 1 1] (w.alloc (.cells #[.int .i64 v] 3)) fun e w'=>e=.returned (.bool true)∧KuP w0 q p f pl t w':=by
 have hal:zb w (w.alloc (.cells #[.int .i64 v] 3)):=(Mod.refl _ w).alloc _;refine(zdf (n:=1) (L:=[n]) rfl (by decide) (hr.frame hal (fun _ _ h=>h)) (ziu hv w)).mono ?_;rintro e w' ⟨rfl,hp⟩;exact⟨rfl,h.pure (hal.trans hp)⟩
theorem zeK(w:World)(hT:xt w):Calls prog 5 #[] w fun e w'=>e=.returned (.bool true)∧zb w w':=by
  have HD:=za (zd6 w);have HM:=za (fun W (hW:zb w W)=>zhy W (hT.pure hW));clear hT;have T1:True:=trivial;have T2:True:=trivial;have T3:True:=trivial;have T4:True:=trivial;have T5:True:=trivial;have T6:True:=trivial;have T7:True:=trivial;have T8:True:=trivial;have T9:True:=trivial;have T10:True:=trivial;have T11:True:=trivial;have T12:True:=trivial;have T13:True:=trivial;have T14:True:=trivial;have T15:True:=trivial;have T16:True:=trivial;have T17:True:=trivial;have T18:True:=trivial;have T19:True:=trivial;have T20:True:=trivial;have T21:True:=trivial;have T22:True:=trivial;have T23:True:=trivial;go_enter func5,ntmps5;go_upto_region 2 with(first
    | (go_at_call 7;refine HD.out.mono ?_;rintro e w1 ⟨rfl,hp1⟩;have HM1:=za (HM.out _ hp1);have HP1:=za hp1)
    | (go_at_call 6;refine HM1.out.mono ?_;rintro e w2 ⟨p,q,rfl,hk⟩;have HK:Hid (KuP w1 q p uf0 up0 us0 w2):=za hk;clear hk HM1 HM HD))
  go_upto_region 4 with(first
    | (go_at_call 17;clear T1;refine zm (U7 HK.out (t':=us1) (by decide) (by kernel_rfl) (by decide) uk1) ?_;rintro e w' ⟨rfl,hk⟩;replace HK:=za hk;clear hk)
    | (go_at_call 18;clear T2;refine zm (zdh HK.out (ttl:=4) (t':=us2) (by decide) (by decide) (by decide) (by decide) (by kernel_rfl) (by decide) uk2) ?_;rintro e w' ⟨rfl,hk⟩;replace HK:=za hk;clear hk)
    | (go_at_call 17;clear T3;refine zm (U7 HK.out (t':=us3) (by decide) (by kernel_rfl) (by decide) uk3) ?_;rintro e w' ⟨rfl,hk⟩;replace HK:=za hk;clear hk))
  go_upto_region 6 with(first
    | (go_at_call 8;clear T4;refine zm (KE HK.out (n:=0) (f':=uf1) (pl':=up1) (by kernel_rfl) (by decide) rfl rfl) ?_;rintro e w' ⟨rfl,hk⟩;replace HK:=za hk;clear hk)
    | (go_at_call 8;clear T5;refine zm (KE HK.out (n:=1) (f':=uf2) (pl':=up2) (by kernel_rfl) (by decide) rfl rfl) ?_;rintro e w' ⟨rfl,hk⟩;replace HK:=za hk;clear hk)
    | (go_at_call 19;clear T6;refine zm (Xc HK.out (n:=0) (tt:=5) (x:=⟨⟨#[97]⟩,[],18446744073709551615,1⟩) (t':=us3) (pl':=up3) (by decide) rfl (by decide) (by kernel_rfl) (by decide) uk4 (by kernel_rfl) rfl rfl) ?_;rintro e w' ⟨rfl,hk⟩;replace HK:=za hk;clear hk)
    | (go_at_call 19;clear T7;refine zm (Xc HK.out (n:=0) (tt:=9) (x:=⟨⟨#[99]⟩,[],18446744073709551615,3⟩) (t':=us4) (pl':=up4) (by decide) rfl (by decide) (by kernel_rfl) (by decide) uk5 (by kernel_rfl) rfl rfl) ?_;rintro e w' ⟨rfl,hk⟩;replace HK:=za hk;clear hk)
    | (go_at_call 12;clear T8;refine zm (zjm HK.out (n:=0) (tt:=9) (t':=us4) (by decide) rfl (by decide) (by kernel_rfl) (by decide) uk6 (by kernel_rfl)) ?_;rintro e w' ⟨rfl,hk⟩;replace HK:=za hk;clear hk)
    | (go_at_call 14;clear T9;refine zm (zaB HK.out (n:=0) (x:=3) (by decide) rfl rfl) ?_;rintro e w' ⟨rfl,rfl⟩;skip)
    | (go_at_call 17;clear T10;refine zm (U7 HK.out (t':=us5) (by decide) (by kernel_rfl) (by decide) uk7) ?_;rintro e w' ⟨rfl,hk⟩;replace HK:=za hk;clear hk))
  go_upto_region 8 with(first
    | (go_at_call 19;clear T11;refine zm (Xc HK.out (n:=0) (tt:=9) (x:=⟨⟨#[100]⟩,[],18446744073709551615,4⟩) (t':=us5) (pl':=up5) (by decide) rfl (by decide) (by kernel_rfl) (by decide) uk8 (by kernel_rfl) rfl rfl) ?_;rintro e w' ⟨rfl,hk⟩;replace HK:=za hk;clear hk)
    | (go_at_call 19;clear T12;refine zm (Xc HK.out (n:=1) (tt:=9) (x:=⟨⟨#[97]⟩,[],18446744073709551615,1⟩) (t':=us5) (pl':=up6) (by decide) rfl (by decide) (by kernel_rfl) (by decide) uk8 (by kernel_rfl) rfl rfl) ?_;rintro e w' ⟨rfl,hk⟩;replace HK:=za hk;clear hk)
    | (go_at_call 13;clear T13;refine zm (zke HK.out (n:=1) (b:=3) (pl':=up7) (by decide) rfl rfl) ?_;rintro e w' ⟨rfl,hk⟩;replace HK:=za hk;clear hk)
    | (go_at_call 19;clear T14;refine zm (Xc HK.out (n:=1) (tt:=9) (x:=⟨⟨#[100]⟩,[],18446744073709551615,4⟩) (t':=us5) (pl':=up8) (by decide) rfl (by decide) (by kernel_rfl) (by decide) uk8 (by kernel_rfl) rfl rfl) ?_;rintro e w' ⟨rfl,hk⟩;replace HK:=za hk;clear hk)
    | (go_at_call 13;clear T15;refine zm (zdx HK.out (by kernel_rfl)) ?_;rintro e w' ⟨rfl,rfl⟩;skip))
  go_wp2_with (first
    | (go_at_call 9;clear T16;refine zm (zj3 HK.out (n:=0) (f':=uf3) (by decide) rfl rfl) ?_;rintro e w' ⟨rfl,hk⟩;replace HK:=za hk;clear hk)
    | (go_at_call 10;clear T17;refine zm (za9 HK.out (l:=[1]) (by kernel_rfl)) ?_;rintro e w' ⟨a,c,rfl,hr,hk⟩;replace HK:=za hk;clear hk;have HR:=za hr;clear hr)
    | (go_at_call 20;clear T18;refine zm (zkB HK.out HR.out (by decide)) ?_;rintro e w' ⟨rfl,hk⟩;replace HK:=za hk;clear hk;clear HR)
    | (go_at_call 8;clear T19;refine zm (KE HK.out (n:=0) (f':=uf4) (pl':=up9) (by kernel_rfl) (by decide) rfl rfl) ?_;rintro e w' ⟨rfl,hk⟩;replace HK:=za hk;clear hk)
    | (go_at_call 14;clear T20;refine zm (zaB HK.out (n:=0) (x:=0) (by decide) rfl rfl) ?_;rintro e w' ⟨rfl,rfl⟩;skip)
    | (go_at_call 9;clear T21;refine zm (zkJ HK.out (by kernel_rfl)) ?_;rintro e w' ⟨rfl,rfl⟩;skip)
    | (go_at_call 12;clear T22;refine zm (zhu HK.out (by kernel_rfl) 20) ?_;rintro e w' ⟨rfl,hk⟩;replace HK:=za hk;clear hk)
    | (go_at_call 21;clear T23;refine zm (zg4 HK.out (n:=9) rfl) ?_;rintro e w' ⟨rfl,rfl⟩;skip))
  go_ret;obtain⟨D9,hk9⟩:=HK.out;exact⟨rfl,HP1.out.trans hk9.pu⟩
section
variable{w0 w w':World}{q p i:Nat}{f:Nat→Bool}{pl:Nat→Nat}{t:Bst}
def zlx(f:Nat→Bool)(i:Nat):Prop := ∀ j,j<64→f j=decide (j<i)
theorem zlx.free(h:zlx f i):ZT f=min i 64:=by
 refine JB (Nat.min_le_right _ _) (fun j hj => ?_) (fun hlt => ?_)
 ·rw[h j (by omega)];exact zK (by omega)
 ·rw[h _ hlt];exact zO (by omega)
theorem zlx.next(h:zlx f i):zlx (yT f i true) (i+1):=fun j hj=>by
 unfold yT;by_cases e:j=i
 ·rw[zh e];subst e;exact(zK (by omega)).symm
 ·rw[zf e,h j hj];by_cases c:j<i
  ·rw[zK c,zK (by omega)]
  ·rw[zO c,zO (by omega)]
theorem zlx.more(h:zlx f i)(hi:64≤i):zlx f (i+1):=fun j hj=>by
 rw[h j hj,zK (by omega),zK (by omega)]
theorem zlx.gone(h:zlx f i){m k:Nat}(hm:m=min i 64)(hk:k<m):(qL (yT f k false)).length=m-1∧ZT (yT f k false)=k:=by
 have hf : ∀ j,j<64→yT f k false j=(decide (j<m)&&decide (j≠k)):=fun j hj=>by
  unfold yT;by_cases e:j=k
  ·rw[zh e];simp[e]
  ·rw[zf e,h j hj];by_cases c:j<i
   ·rw[zK c,zK (show j<m by omega)];simp[e]
   ·rw[zO c,zO (show ¬ j<m by omega)];rfl
 constructor
 ·have hc : ∀ n,n≤64→(Zn (yT f k false) n).length=if k<min n m then min n m-1 else min n m:=by
   intro n
   induction n with
   | zero=>intro _;simp[Zn]
   | succ n ih =>
    intro hn;have ih:=ih (by omega);rw[zch,hf n (by omega)];by_cases c:n<m
    ·by_cases e:n=k
     ·subst e;rw[zf (by simp)];rw[ih,zf (by omega),zh (by omega)];omega
     ·rw[zh (by simp[c,e]),zN,ih];simp only[List.length_cons,List.length_nil];by_cases ck:k<min n m
      ·rw[zh ck,zh (by omega)];omega
      ·rw[zf ck,zf (by omega)];omega
    ·rw[zf (by simp[c]),ih];have e1:min n m=m:=by omega
     have e2:min (n+1) m=m:=by omega
     rw[e1,e2]
  have h9:=hc 64 (zH _);rw[zh (by omega),show min 64 m=m by omega]at h9;exact h9
 ·refine JB (by omega) (fun j hj => ?_) (fun hlt => ?_)
  ·rw[hf j (by omega)];simp;omega
  ·rw[hf k hlt];simp
theorem zlC(h:KuP w0 q p f pl t w)(hfr:ZT f=64):Calls prog 8 #[lkP q,.int .i64 0,.int .i64 7] w fun e w'=>e=.returned (.bool true)∧w=w':=by
 obtain⟨D,h⟩:=h;exact zam (zlJ h.cu hfr)
end
theorem zlD(w:World)(hT:xt w)(many:Nat)(hm:many<256)(gone:Nat)(hg:gone<256) :
    Calls prog 3 #[.int .u8 many,.int .u8 gone] w fun e w'=>e=.returned (.bool true)∧zb w w':=by
  have HKn:=za (fun(W:World) (hW:zb w W)=>zeK W (hT.pure hW));have HD:=za (zd6 w);have HM:=za (fun W (hW:zb w W)=>zhy W (hT.pure hW));clear hT;by_cases hb:many<60∨70<many
  case pos =>
    have h1:(many:Int)<60 ∨ ¬ (many:Int)<60∧(many:Int)>70:=by omega
    clear hb;go_enter func3,ntmps3;rcases h1 with h1 | ⟨h1,h2⟩
    all_goals
      go_wp2_with (go_at_call 5;refine(HKn.out _ (Mod.refl _ _)).mono ?_;rintro e w' ⟨rfl,hp⟩)
      go_ret;exact⟨rfl,hp⟩
  case neg =>
    have h1 : ¬ (many:Int)<60:=by omega
    have h2 : ¬ (many:Int)>70:=by omega
    have wm:IntKind.i64.wrap (many:Int)=(many:Int):=zo _ (by omega);have wg:IntKind.i64.wrap (gone:Int)=(gone:Int):=zo _ (by omega);have HB:=za hb;clear hb;go_enter func3,ntmps3;go_upto_region 7 with(first
      | (go_at_call 7;refine HD.out.mono ?_;rintro e w1 ⟨rfl,hp1⟩;have HM1:=za (HM.out _ hp1);have HP1:=za hp1)
      | (go_at_call 6;refine HM1.out.mono ?_;rintro e w2 ⟨p,q,rfl,hk⟩;have HK:Hid (KuP w1 q p uf0 up0 us0 w2):=za hk;clear hk HM1 HM HD))
    go_loopw [7] (fun v7 wr => ∃ i:Nat,v7=.int .i64 (i:Nat)∧i≤many ∧ ∃ f pl,zlx f i∧KuP w1 q p f pl us0 wr) (fun v7 _=>many-(intOf v7).toNat)
    case atStart=>exact⟨0,rfl,yk _,uf0,up0,fun j _=>by unfold uf0;exact(zO (by omega)).symm,HK.out⟩
    case round =>
      obtain⟨i,rfl,hi,f,pl,hF,hK⟩:=hrel;have HF:=za hF;have HKr:=za hK;clear hF hK;by_cases hlt:i<many
      · have hlt':(i:Int)<(many:Int):=by omega
        have i0:(0:Int)≤(i:Int):=by omega
        have wi:IntKind.i64.wrap ((i:Int)+1)=(i:Int)+1:=zo _ (by omega);by_cases h64:i<64
        · have g64 : ¬ (i:Int)≥64:=by omega
          have HO:=za (KE HKr.out (n:=i) (by rw[HF.out.free];omega) h64 rfl rfl)
          go_wp2_with (go_at_call 8;refine HO.out.mono ?_;rintro e w3 ⟨rfl,hk⟩)
          go_roundw
          case rel=>exact⟨i+1,by first | rfl | go_num,hlt,_,_,HF.out.next,hk⟩
          case measure=>simp[intOf];omega
        · have g64:(i:Int)≥64:=by omega
          have HO:=za (zlC HKr.out (by rw[HF.out.free];omega))
          go_wp2_with (go_at_call 8;refine HO.out.mono ?_;rintro e w3 ⟨rfl,rfl⟩)
          go_roundw
          case rel=>exact⟨i+1,by first | rfl | go_num,hlt,_,_,HF.out.more (by omega),HKr.out⟩
          case measure=>simp[intOf];omega
      · obtain rfl:i=many:=by omega
        have hge : ¬ (i:Int)<(i:Int):=by omega
        obtain⟨mm,hmm⟩ : ∃ mm,min i 64=mm+1:=⟨min i 64-1,by have:=HB.out;omega⟩;obtain⟨k,hk⟩:=zc (gone%(mm+1));have hkm:k<mm+1:=by rw[← hk];exact xY _ (by omega)
        have e1:min (i:Int) 64=(mm:Int)+1:=by omega
        have e2:(gone:Int)%((mm:Int)+1)=(k:Int):=by rw[← hk];simp
        have hk64:k<64:=by omega
        obtain⟨g1,g2⟩:=HF.out.gone hmm.symm hkm;have hfk:f k=true:=by rw[HF.out k hk64];exact zK (by omega)
        have hno:vq (yT f k false) (k:Int)=false:=by rw[qK hk64];simp[yT]
        have HC1:=za (zj3 HKr.out hk64 hfk rfl);have HC2:=za (fun W (h:KuP w1 q p (yT f k false) pl us0 W)=>zkJ h hno);have HOp:=za (fun W (h:KuP w1 q p (yT f k false) pl us0 W)=>za9 h (l:=qL (yT f k false)) rfl);rw[show(qL (yT f k false)).length=mm by rw[g1];omega]at HOp;have HO:=za (fun W (h:KuP w1 q p (yT f k false) pl us0 W)=>KE h g2 hk64 rfl rfl);have wm1:IntKind.i64.wrap ((mm:Int)+1-1)=(mm:Int):=by rw[Int.add_sub_cancel];exact zo _ (by omega)
        have wm2:IntKind.i64.wrap (mm:Int)=(mm:Int):=zo _ (by omega);clear hmm hk hkm g1 g2 hfk hno hk64;have T1:True:=trivial;have T2:True:=trivial;go_upto_region 15 with fail
        go_upto_region 17 with(first
          | (go_at_call 9;clear T1;refine HC1.out.mono ?_;rintro e w3 ⟨rfl,hk3⟩;have HK3:=za hk3)
          | (go_at_call 9;clear T2;refine(HC2.out _ HK3.out).mono ?_;rintro e w3 ⟨rfl,rfl⟩)
          | (go_at_call 10;refine(HOp.out _ HK3.out).mono ?_;rintro e w4 ⟨a,c,rfl,hr,hk4⟩;have HK4:=za hk4))
        go_wp2_with (first
          | (go_at_call 8;refine(HO.out _ HK4.out).mono ?_;rintro e w5 ⟨rfl,D5,hk5⟩;have HP5:=za (HP1.out.trans hk5.pu))
          | (go_at_call 5;refine(HKn.out _ HP5.out).mono ?_;rintro e w6 ⟨rfl,hp6⟩))
        go_ret;exact⟨rfl,HP5.out.trans hp6⟩
end
end Go.Proofs.YtpadepliilhmhaaGreatDoor
