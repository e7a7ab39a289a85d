/- Lemmas and contracts of functions. No condition. -/
import Derived.Test.YtifbnponicgplaaGreatDoorJPfBoth4220
namespace Go.Proofs.YtifbnponicgplaaGreatDoor
open _root_.Go.Proofs.Tryz
set_option maxRecDepth 100000
set_option maxHeartbeats 20000000
set_option linter.all false
section
open Go.RowKit Go.Shelf
def klo:ByteArray:=⟨#[107]⟩
def kI:CE:=⟨klo,[111,108,100],18446744073709551615,1⟩
def la0:Bst:=⟨⟨1,100,0,0,false⟩,0,1,[kI],[⟨1,52⟩],[],[]⟩
def la1:Bst:=⟨⟨1,1048576,0,0,false⟩,0,1,[kI],[⟨1,52⟩],[],[]⟩
def lb0:Bst:=⟨⟨1,100,0,0,false⟩,2,1,[kI],[⟨1,52⟩],[],[]⟩
def lb1:Bst:=⟨⟨1,1048576,0,0,false⟩,2,1,[kI],[⟨1,52⟩],[],[]⟩
theorem Q7:kW false false (vf ⟨1,100,0,0,false⟩) (vf ⟨1,1048576,0,0,false⟩) 0 klo [111,108,100] 0=(0,la0,la1):=by kernel_rfl
theorem zcJ:kO false false (vf ⟨1,100,0,0,false⟩) (vf ⟨1,1048576,0,0,false⟩) 0 klo [111,108,100] 0 0 0=true:=by kernel_rfl
theorem zfh:Xq false la0 la1 2 kI=(lb0,lb1):=by kernel_rfl
theorem zes:Xx false la0 la1 2 kI 0 0=true:=by kernel_rfl
theorem zlu:vg (zv la0 (tmT la0 la1 2)) (tmT la0 la1 2) klo=some kI:=by kernel_rfl
def kn(vs:List UInt8):CE:=⟨klo,vs,18446744073709551615,1⟩
def lc0:Bst:=⟨⟨1,100,0,0,false⟩,1,1,[],[],[],[]⟩
def lc1(vs:List UInt8)(c:Nat):Bst:=⟨⟨1,1048576,0,0,false⟩,1,1,[kn vs],[⟨1,c⟩],[],[]⟩
def ld0:Bst:=⟨⟨1,100,0,0,false⟩,2,1,[],[],[],[]⟩
def ld1(vs:List UInt8)(c:Nat):Bst:=⟨⟨1,1048576,0,0,false⟩,2,1,[kn vs],[⟨1,c⟩],[],[]⟩
def lx0:Bst:=⟨⟨1,100,0,0,false⟩,1,1,[],[],[],[⟨4,kI,1⟩]⟩
def lx1(vs:List UInt8)(c:Nat):Bst:=⟨⟨1,1048576,0,0,false⟩,1,1,[kn vs],[⟨1,c⟩],[],[⟨3,kI,1⟩]⟩
def JX:Bst:=⟨⟨1,100,0,0,false⟩,1,1,[kI],[⟨1,52⟩],[],[]⟩
def Jj:Bst:=⟨⟨1,1048576,0,0,false⟩,1,1,[kI],[⟨1,52⟩],[],[]⟩
theorem ziX{t:Bst}{tt:Nat}{key:ByteArray}{vs:List UInt8}{dl:Nat→Nat}{x:CE}(h:uj (yQ t tt) key=some x):qr t tt key vs dl=vG (qd {yQ t tt with evs:=(yQ t tt).evs++[⟨3,x,(yQ t tt).now⟩]} ⟨key,vs,dl (yQ t tt).now,x.birth⟩) x.birth:=by
 unfold qr;rw[h]
section
variable{vs:List UInt8}{n:Nat}
theorem zcE(hl:vs.length=n)(d b:Nat):CE.cost ⟨klo,vs,d,b⟩=n+49:=by
 unfold CE.cost;dsimp only;rw[hl,show klo.size=1 from rfl];omega
theorem zdj(hl:vs.length=n)(hn:n=65535∨n=65536):kP JX 1 klo vs 0=(12,lx0):=by
 unfold kP;rw[hl];rcases hn with rfl | rfl<;>kernel_rfl
theorem zbS(hl:vs.length=n)(hn:n=65535∨n=65536):kP Jj 1 klo vs 0=(0,lx1 vs (n+49)):=by
 unfold kP;rw[hl,ziX (x:=kI) (by kernel_rfl)];unfold qd;rw[zcE hl];clear hl;rcases hn with rfl | rfl<;>kernel_rfl
theorem zgJ(hl:vs.length=n)(hn:n=65535∨n=65536):kW false false la0 la1 1 klo vs 0=(0,lc0,lc1 vs (n+49)):=by
 unfold kW;dsimp only;rw[show tmT la0 la1 1=1 by kernel_rfl,show zv la0 1=JX by kernel_rfl,show zv la1 1=Jj by kernel_rfl,zdj hl hn];dsimp only;unfold Yz;rw[zh (by decide),zbS hl hn]
 kernel_rfl
theorem zlL(hl:vs.length=n)(hn:n=65535∨n=65536):kO false false la0 la1 1 klo vs 0 0 2=true:=by
 unfold kO;dsimp only;rw[show tmT la0 la1 1=1 by kernel_rfl,show zv la0 1=JX by kernel_rfl,show zv la1 1=Jj by kernel_rfl,zdj hl hn];dsimp only;unfold Yz;rw[zh (by decide),zbS hl hn,hl];clear hl;rcases hn with rfl | rfl<;>kernel_rfl
theorem zkI:vg (zv lc0 (tmT lc0 (lc1 vs (n+49)) 2)) (tmT lc0 (lc1 vs (n+49)) 2) klo=none:=by kernel_rfl
theorem zed(hn:n=65535∨n=65536):vg (zv (lc1 vs (n+49)) (tmT lc0 (lc1 vs (n+49)) 2)) (tmT lc0 (lc1 vs (n+49)) 2) klo=some (kn vs):=by
 rcases hn with rfl | rfl<;>kernel_rfl
theorem zcK(hl:vs.length=n)(hn:n=65535∨n=65536):YJ lc0 (lc1 vs (n+49)) 2 (kn vs)=ld0:=by
 unfold YJ Zx kn;dsimp only;rw[zj (show(18446744073709551615:Nat)=uP from rfl),hl];clear hl;rcases hn with rfl | rfl<;>kernel_rfl
theorem zcV(hl:vs.length=n)(hn:n=65535∨n=65536):YH false ld0 (ld1 vs (n+49)) 2 klo=ld1 vs (n+49):=by
 unfold YH;rw[zh (by simp)];unfold UK;rw[show uj (yQ (ld1 vs (n+49)) 2) klo=some (kn vs) by kernel_rfl];dsimp only;unfold kn;rw[zcE hl];clear hl;rcases hn with rfl | rfl<;>kernel_rfl
theorem QV(hn:n=65535∨n=65536):zv (zv (lc1 vs (n+49)) 2) 2=ld1 vs (n+49):=by
 rcases hn with rfl | rfl<;>kernel_rfl
theorem ziO(hl:vs.length=n)(hn:n=65535∨n=65536):qW false false lc0 (lc1 vs (n+49)) 2 (kn vs)=(ld0,ld1 vs (n+49)):=by
 unfold qW;dsimp only;rw[show tmT lc0 (lc1 vs (n+49)) 2=2 by kernel_rfl,zcK hl hn,QV hn,show(kn vs).key=klo from rfl,zcV hl hn];clear hl;rcases hn with rfl | rfl<;>kernel_rfl
theorem zjm(hl:vs.length=n)(hn:n=65535∨n=65536):Zg false false lc0 (lc1 vs (n+49)) 2 (kn vs) 2 0=true:=by
 unfold Zg;dsimp only;rw[show tmT lc0 (lc1 vs (n+49)) 2=2 by kernel_rfl,zcK hl hn,QV hn,show(kn vs).key=klo from rfl,zcV hl hn];unfold qV;rw[show(kn vs).val.length=n from hl];clear hl;rcases hn with rfl | rfl<;>kernel_rfl
end
section
variable{w0 w w':World}{q p0 p1 n:Nat}{ex dm:Bool}{D:Nat→Prop}{t0 t1 t0' t1':Bst}
theorem zkW(h:yj w D q p0 p1 ex dm n t0 t1){tt ttl vn vc:Nat}{va:Option Addr}{key:ByteArray}(hk:key.size≤1000)(hv:xo key.size=true)(hn:65536<vn) :
  Calls prog 7 #[lkP q,.int .u64 tt,.string key,.slice va vn vc,.int .u64 ttl] w fun e w'=>e=.returned (.int .i64 5)∧w=w':=by
 have HM:=za (YU h hk hv);have hlv:(vn:Int)>65536:=by omega
 clear h hk hv hn;exact Az7j4
theorem zjf{cs:Array Value}{fz:Nat × Nat}{vs:List UInt8}{m:Nat}(hc:cs.toList=zJ vs)(hm:vs.length=m)(W:World):zr (W.alloc (.cells cs 5 fz)) (.slice (some ⟨W.heap.size,0,none⟩) m m) 1 (zJ vs):=by
 rw[← hc];exact zr.of_block m m 1 (zk rfl) (by rw[hc,ur,hm,je]) (by rw[hc];exact uQ vs)
theorem JQ(h:TiP w0 q p0 p1 ex dm n t0 t1 w){tt ttl k m:Nat}{key:ByteArray}{cs:Array Value}{fz:Nat × Nat}{vs:List UInt8}(hc:cs.toList=zJ vs)(hm:vs.length=m)(ok:kO ex dm t0 t1 tt key vs ttl n k=true){er:Int}(hr:kW ex dm t0 t1 tt key vs ttl=(er,t0',t1')) :
  Calls prog 7 #[lkP q,.int .u64 tt,.string key,.slice (some ⟨w.heap.size,0,none⟩) m m,.int .u64 ttl] (w.alloc (.cells cs 5 fz)) fun e w'=>e=.returned (.int .i64 er)∧TiP w0 q p0 p1 ex dm (n+k) t0' t1' w' :=
 za8 (h.pure ((Mod.refl _ w).alloc _)) (zjf hc hm w) (QJ w) hm ok hr
theorem zkl(h:TiP w0 q p0 p1 ex dm n t0 t1 w){tt ttl m:Nat}{key:ByteArray}{cs:Array Value}{fz:Nat × Nat}(hk:key.size≤1000)(hv:xo key.size=true)(hm:65536<m) :
  Calls prog 7 #[lkP q,.int .u64 tt,.string key,.slice (some ⟨w.heap.size,0,none⟩) m m,.int .u64 ttl] (w.alloc (.cells cs 5 fz)) fun e w'=>e=.returned (.int .i64 5)∧TiP w0 q p0 p1 ex dm n t0 t1 w':=by
 have h2:=h.pure ((Mod.refl _ w).alloc (.cells cs 5 fz));obtain⟨D,h1,h3,h4⟩:=h2;refine(zkW h1 hk hv hm).mono ?_;rintro e w' ⟨rfl,rfl⟩;exact⟨rfl,D,h1,h3,h4⟩
theorem zkp{a:Option Addr}{m c:Nat}{vs:List UInt8}(h:zW w (.slice a m c) (zJ vs)):m=vs.length:=by
 obtain⟨a',n',c',e,hl,_⟩:=zW.read h (uQ vs)
 cases e
 rw[ur]at hl;omega
theorem zeo(n:Nat)(hn:n≤65537) : ∃(C:Array Value) (vs:List UInt8),C.toList=zJ vs∧vs.length=n ∧ ∀ W:World,(Instr.makeSlice 34 (.int .i64 n) (.int .i64 n)).run prog W=.ok (.slice (some ⟨W.heap.size,0,none⟩) n n) (W.alloc (.cells C 5)):=by
 obtain⟨i8,h8,z8,y8,x8⟩:=xB zcf;refine⟨madeCells (Value.int .u8 0).cells (n*1),List.replicate n 0,?_,by simp,fun W => ?_⟩
 ·rw[show(Value.int .u8 0).cells=#[.int .u8 0]from rfl,Go.toList_madeCells_one,je];simp[zJ]
 ·have:=run_make W 34 5 i8 _ underlying34 h8 z8 .i64 .i64 n n (by omega) (Int.le_refl _) (by rw[x8];omega) (by omega);rw[y8]at this;simpa using this
end
theorem zh4(w:World)(hT:xb w):Calls prog 6 #[.agg #[.int .i64 1,.int .i64 100,.int .i64 0,.int .u64 0,.bool false],.agg #[.int .i64 1,.int .i64 1048576,.int .i64 0,.int .u64 0,.bool false],.agg #[.bool false,.bool false]] w fun e w' => ∃ q p0 p1,e=.returned (.tuple #[lkP q,.int .i64 0])∧TiP w q p0 p1 false false 0 (vf ⟨1,100,0,0,false⟩) (vf ⟨1,1048576,0,0,false⟩) w':=by
 have h:=zbp w hT false false (n0:=1) (b0:=100) (s0:=0) (n1:=1) (b1:=1048576) (s1:=0) (r0:=0) (r1:=0) (m0:=false) (m1:=false) ⟨by decide,by decide,by decide,by decide,by decide,by decide⟩ ⟨by decide,by decide,by decide,by decide,by decide,by decide⟩ (by decide) (by decide);refine zq h ?_;rintro e w' ⟨q,p0,p1,D,rfl,h1,h2,h3⟩;exact⟨q,p0,p1,rfl,D,h1,h2,h3⟩
theorem Az3k1 {P:Prop}(h:P:=by
 go_enter func3,ntmps3
 go_wp2_with (go_at_call 5;refine(HKn.out _ (Mod.refl _ _)).mono ?_;rintro e w' ⟨rfl,hp⟩)
 go_ret;exact⟨rfl,hp⟩):P:=h
theorem zfz(w:World)(hT:xb w)(size:Int):Calls prog 3 #[.int .i64 size] w fun e w'=>e=.returned (.bool true)∧zb w w':=by
  have HKn:=za (fun(W:World) (hW:zb w W)=>zaG W (hT.pure hW));have HN:=za (zh4 w hT);clear hT;have hcv:=fun(W:World) (C:Array Value) (n c:Nat)=>Go.Lib.run_convert_bytes_const (P:=prog) W 34 5 C n c underlying34 underlying5
  by_cases h1:size<65535
  · clear hcv
    exact Az3k1
  by_cases h2:size>65537
  · clear hcv
    exact Az3k1
  obtain⟨n,rfl⟩ : ∃ n:Nat,size=n:=⟨size.toNat,by omega⟩;obtain⟨C,vs,hC,hvs,hmk⟩:=zeo n (by omega);by_cases h3:(n:Int)>65536
  · have HX:Hid (65536<n):=za (by omega)
    have T1:True:=trivial;have T2:True:=trivial;go_enter func3,ntmps3;go_upto_region 4 with(go_at_call 6;refine HN.out.mono ?_;rintro e w1 ⟨q,p0,p1,rfl,hk⟩;have HK:Hid (TiP w q p0 p1 false false 0 (vf ⟨1,100,0,0,false⟩) (vf ⟨1,1048576,0,0,false⟩) w1):=za hk;clear hk)
    go_wp2_with (first
      | (go_at_call 7;clear T1;refine zq (JQ HK.out (tt:=0) (ttl:=0) (k:=0) (key:=klo) (vs:=[111,108,100]) rfl rfl zcJ Q7) ?_;rintro e w' ⟨rfl,hk⟩;replace HK:Hid (TiP w q p0 p1 false false 0 la0 la1 w'):=za hk;clear hk)
      | (go_at_call 7;clear T2;refine zq (zkl HK.out (key:=klo) (by decide) (by decide) HX.out) ?_;rintro e w' ⟨rfl,hk⟩;replace HK:Hid (TiP w q p0 p1 false false 0 la0 la1 w'):=za hk;clear hk)
      | (go_at_call 8;refine zq (zdh HK.out (tt:=2) (k:=0) (x:=kI) zes zlu zfh) ?_;rintro e w' ⟨a,m,c,rfl,hby,hk⟩;have k1:=zcN _ (zW.read hby (uQ _));replace HK:Hid (TiP w q p0 p1 false false 0 lb0 lb1 w'):=za hk;clear hk hby)
      | (go_at_call 5;refine(HKn.out _ (by obtain⟨D9,hk9⟩:=HK.out;exact hk9.2.1)).mono ?_;rintro e w' ⟨rfl,hp⟩))
    go_ret;obtain⟨D9,hk9⟩:=HK.out;exact⟨rfl,hk9.2.1.trans hp⟩
  · have hn:n=65535∨n=65536:=by omega
    have HV:=za hvs;have HNN:=za hn;have HC:=za hC;have T1:True:=trivial;have T2:True:=trivial;clear hn hC;go_enter func3,ntmps3;go_upto_region 4 with(go_at_call 6;refine HN.out.mono ?_;rintro e w1 ⟨q,p0,p1,rfl,hk⟩;have HK:Hid (TiP w q p0 p1 false false 0 (vf ⟨1,100,0,0,false⟩) (vf ⟨1,1048576,0,0,false⟩) w1):=za hk;clear hk)
    go_wp2_with (first
      | (go_at_call 7;clear T1;refine zq (JQ HK.out (tt:=0) (ttl:=0) (k:=0) (key:=klo) (vs:=[111,108,100]) rfl rfl zcJ Q7) ?_;rintro e w' ⟨rfl,hk⟩;replace HK:Hid (TiP w q p0 p1 false false 0 la0 la1 w'):=za hk;clear hk)
      | (go_at_call 7;clear T2;refine zq (JQ HK.out (tt:=1) (ttl:=0) (k:=2) (key:=klo) HC.out HV.out (zlL HV.out HNN.out) (zgJ HV.out HNN.out)) ?_;rintro e w' ⟨rfl,hk⟩;replace HK:Hid (TiP w q p0 p1 false false 2 lc0 (lc1 vs (n+49)) w'):=za hk;clear hk)
      | (go_at_call 8;refine zq (zdd HK.out (tt:=2) (k:=0) (x:=kn vs) (zjm HV.out HNN.out) zkI (zed HNN.out) (ziO HV.out HNN.out)) ?_;rintro e w' ⟨a,m,c,rfl,hby,hk⟩;have hm:=zkp hby;replace hm:=hm.trans HV.out;subst hm;replace HK:Hid (TiP w q p0 p1 false false 2 ld0 (ld1 vs (m+49)) w'):=za hk;clear hk hby)
      | (go_at_call 5;refine(HKn.out _ (by obtain⟨D9,hk9⟩:=HK.out;exact hk9.2.1)).mono ?_;rintro e w' ⟨rfl,hp⟩))
    go_ret;obtain⟨D9,hk9⟩:=HK.out;exact⟨rfl,hk9.2.1.trans hp⟩
end
end Go.Proofs.YtifbnponicgplaaGreatDoor
