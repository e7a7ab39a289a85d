/- Lemmas and contracts of functions. No condition. -/
import Derived.Test.YtpplkcnknabofaaGreatDoorJPfCacheNone8
namespace Go.Proofs.YtpplkcnknabofaaGreatDoor
open _root_.Go.Proofs.Tryz
set_option maxRecDepth 100000
set_option maxHeartbeats 20000000
set_option linter.all false
section
open Go.RowKit
theorem zlH(n:Nat)(hn:n<18446744073709551616)(hb0:4294967296≤n)(w:World):Calls prog 331 #[.int .u64 n] w fun e w'=>e=.returned (.int .i64 (yR n))∧w=w':=by
 have d0:decide (4294967296≤(n:Int))=true:=zL (by omega);have hbb:=ZL (n:=n) (j:=32) hb0;obtain⟨q,hq⟩:=zc (n/2 ^ 32);have e0:(n:Int)/4294967296=(q:Int):=by omega
 have hq2:q<4294967296:=by omega
 rw[hq]at hbb;have n0:(0:Int)≤n:=by omega
 have q0:(0:Int)≤q:=by omega
 by_cases c1:65536≤q
 ·have d1:decide (65536≤(q:Int))=true:=zL (by omega);have hb:=ZL (n:=q) (j:=16) c1;obtain⟨k,hk⟩:=zc (q/2 ^ 16);have e1:(q:Int)/65536=(k:Int):=by omega
  have hk2:k<65536:=by omega
  rw[hk]at hb;have k0:(0:Int)≤k:=by omega
  by_cases c2:256≤k
  ·have d2:decide (256≤(k:Int))=true:=zL (by omega);have hb2:=ZL (n:=k) (j:=8) c2;obtain⟨m,hm⟩:=zc (k/2 ^ 8);have e2:(k:Int)/256=(m:Int):=by omega
   have hm2:m<256:=by omega
   rw[hm]at hb2;have m0:(0:Int)≤m:=by omega
   have m1:(m:Int)<256:=by omega
   have w8:IntKind.u8.wrap (m:Int)=m:=by simp[IntKind.wrap,IntKind.signed,IntKind.bits];omega
   go_enter func331,ntmps331;go_wp2;go_ret;exact⟨congrArg (fun x=>Ending.returned (.int .i64 x)) (qN 56 _ (by decide) (by decide +kernel) m hm2 _ n (by omega) (by omega)),rfl⟩
  ·have d2:decide (256≤(k:Int))=false:=zQ (by omega);have m1:(k:Int)<256:=by omega
   have w8:IntKind.u8.wrap (k:Int)=k:=by simp[IntKind.wrap,IntKind.signed,IntKind.bits];omega
   go_enter func331,ntmps331;go_wp2;go_ret;exact⟨congrArg (fun x=>Ending.returned (.int .i64 x)) (qN 48 _ (by decide) (by decide +kernel) k (by omega) _ n (by omega) (by omega)),rfl⟩
 ·have d1:decide (65536≤(q:Int))=false:=zQ (by omega);by_cases c2:256≤q
  ·have d2:decide (256≤(q:Int))=true:=zL (by omega);have hb2:=ZL (n:=q) (j:=8) c2;obtain⟨m,hm⟩:=zc (q/2 ^ 8);have e2:(q:Int)/256=(m:Int):=by omega
   have hm2:m<256:=by omega
   rw[hm]at hb2;have m0:(0:Int)≤m:=by omega
   have m1:(m:Int)<256:=by omega
   have w8:IntKind.u8.wrap (m:Int)=m:=by simp[IntKind.wrap,IntKind.signed,IntKind.bits];omega
   go_enter func331,ntmps331;go_wp2;go_ret;exact⟨congrArg (fun x=>Ending.returned (.int .i64 x)) (qN 40 _ (by decide) (by decide +kernel) m hm2 _ n (by omega) (by omega)),rfl⟩
  ·have d2:decide (256≤(q:Int))=false:=zQ (by omega);have m1:(q:Int)<256:=by omega
   have w8:IntKind.u8.wrap (q:Int)=q:=by simp[IntKind.wrap,IntKind.signed,IntKind.bits];omega
   go_enter func331,ntmps331;go_wp2;go_ret;exact⟨congrArg (fun x=>Ending.returned (.int .i64 x)) (qN 32 _ (by decide) (by decide +kernel) q (by omega) _ n (by omega) (by omega)),rfl⟩
theorem ziF(n:Nat)(hn:n<18446744073709551616)(w:World):Calls prog 331 #[.int .u64 n] w fun e w'=>e=.returned (.int .i64 (yR n))∧w=w':=by
 by_cases h:n<4294967296
 ·exact zaW n h w
 ·exact zlH n hn (by omega) w
theorem zll{now dl:Nat}(hn:now<18446744073709551616)(hd:dl<18446744073709551616)(h:dl≠now):1≤yR (dl ^^^ now)∧yR (dl ^^^ now)≤64∧(yR (dl ^^^ now)-1)/8=lvl now dl:=by
 have h0:dl ^^^ now≠0:=fun e=>h (Kd.1 e)
 have hx:dl ^^^ now<2 ^ 64:=Za hd hn;have hb:yR (dl ^^^ now)=Nat.log2 (dl ^^^ now)+1:=by unfold yR;rw[zh h0]
 have h1:=Q9 (dl ^^^ now);have h2:2 ^ (yR (dl ^^^ now)-1)≤dl ^^^ now:=by rw[hb];exact Nat.log2_self_le h0
 exact⟨by omega,JE hx,zg8 hn hd h h1 h2 (by omega)⟩
def yZ(t n:Nat):Nat:=if 18446744073709551615-t≤n then 18446744073709551615 else t+n
theorem zax{t n:Nat}(ht:t≤18446744073709551615)(hn:n≤18446744073709551615)(w:World):Calls prog 68 #[.int .u64 t,.int .u64 n] w fun e w'=>e=.returned (.int .u64 (yZ t n:Nat))∧w=w':=by
 have h1:IntKind.u64.wrap ((18446744073709551615:Int)-(t:Int))=((18446744073709551615-t:Nat):Int):=by simp[IntKind.wrap,IntKind.signed,IntKind.bits];omega
 unfold yZ;by_cases h:18446744073709551615-t≤n
 ·rw[zk h];have h2:((18446744073709551615-t:Nat):Int)≤(n:Int):=by omega
  go_enter func68,ntmps68;go_wp2;go_ret;exact⟨rfl,rfl⟩
 ·rw[zh h];have h2 : ¬ ((18446744073709551615-t:Nat):Int)≤(n:Int):=by omega
  have h3:IntKind.u64.wrap ((t:Int)+(n:Int))=((t+n:Nat):Int):=by simp[IntKind.wrap,IntKind.signed,IntKind.bits];omega
  go_enter func68,ntmps68;go_wp2;go_ret;exact⟨rfl,rfl⟩
def kE(d t:Nat):Bool:=decide (d≠18446744073709551615)&&decide (d≤t)
theorem zl5(d t:Nat)(w:World):Calls prog 147 #[.int .u64 d,.int .u64 t] w fun e w'=>e=.returned (.bool (kE d t))∧w=w':=by
 unfold kE;by_cases h:d=18446744073709551615
 ·subst h;go_enter func147,ntmps147;go_wp2;go_ret;exact⟨rfl,rfl⟩
 ·have h1:(((d:Nat):Int) != 18446744073709551615)=true:=by simp;omega
  by_cases h2:d≤t
  ·have h3:((d:Nat):Int)≤((t:Nat):Int):=by omega
   go_enter func147,ntmps147;go_wp2;go_ret;exact⟨by simp[h,h2],rfl⟩
  ·have h3 : ¬ ((d:Nat):Int)≤((t:Nat):Int):=by omega
   go_enter func147,ntmps147;go_wp2;go_ret;exact⟨by simp[h,h2],rfl⟩
def uh(ks n:Nat):Nat:=if vi ks n 1=0 then ks+n+48 else 0
theorem Azxuh {P:Prop}(h:P:=by
 go_wp2_with (go_at_call 214;refine HC.out.mono ?_;rintro e w1 ⟨rfl,hp⟩)
 go_ret2;exact⟨rfl,hp⟩):P:=h
theorem JP(s:ByteArray)(a:Option Addr)(n c:Nat)(w:World)(hs:s.size≤140737488355328)(hn:n≤140737488355328) :
  Calls prog 124 #[.string s,.slice a n c] w fun e w'=>e=.returned (.tuple #[.int .i64 (uh s.size n:Nat),.int .i64 (vi s.size n 1)])∧zb w w':=by
 have HC:=za (UV s a n c 1 w hs hn);unfold uh;obtain⟨er,hE⟩:=zc (vi s.size n 1);unfold KD at HC;rw[hE]at HC ⊢;clear hE;have w1:IntKind.i64.wrap ((s.size:Int)+(n:Int))=(s.size:Int)+(n:Int):=zt _ (by omega);have w2:IntKind.i64.wrap ((s.size:Int)+(n:Int)+48)=(s.size:Int)+(n:Int)+48:=zt _ (by omega);by_cases h0:er=0
 ·subst h0;rw[zk rfl];go_enter func124,ntmps124;exact Azxuh
 ·rw[zh h0];have he0:(er != 0)=true:=by simp;omega
  go_enter func124,ntmps124;exact Azxuh
def XB(ks n:Nat)(b:Int):Bool:=vi ks n b==0
theorem zkH(k:ByteArray)(a:Option Addr)(n c:Nat)(d b:Int)(w:World)(hs:k.size≤140737488355328)(hn:n≤140737488355328) :
  Calls prog 208 #[.agg #[.string k,.slice a n c,.int .u64 d,.int .u64 b]] w fun e w'=>e=.returned (.bool (XB k.size n b))∧zb w w':=by
 unfold XB;have hp0:zb w (w.alloc (.cells #[.string k,.slice a n c,.int .u64 d,.int .u64 b] 57)):=(Mod.refl _ w).alloc _;have z:=zi (w:=w) (o:=(.cells #[.string k,.slice a n c,.int .u64 d,.int .u64 b] 57 (0,0))) rfl;have HC:=za (fun W=>UV k a n c b W hs hn);have HP:=za hp0;clear hp0;unfold KD at HC;obtain⟨er,hE⟩:=zc (vi k.size n b);rw[hE]at HC ⊢;clear hE;go_enter func208,ntmps208;go_upto_region 1 with fail
 generalize w.alloc (.cells #[.string k,.slice a n c,.int .u64 d,.int .u64 b] 57)=W1 at *;generalize w.heap.size=b1 at *;obtain⟨z_0,z_1,z_2,z_3,z_f,z_l,H_z⟩:=cr4 z;clear z
 go_wp2_with (go_at_call 214;refine(HC.out _).mono ?_;rintro e w1 ⟨rfl,hp⟩)
 go_ret;exact⟨rfl,HP.out.trans hp⟩
structure Cfg where
 count:Int
 bytes:Int
 prot:Int
 seed:Nat
 same:Bool
def Cfg.cells(c:Cfg):Array Value:=#[.int .i64 c.count,.int .i64 c.bytes,.int .i64 c.prot,.int .u64 c.seed,.bool c.same]
abbrev Cfg.v(c:Cfg):Value := .agg #[.int .i64 c.count,.int .i64 c.bytes,.int .i64 c.prot,.int .u64 c.seed,.bool c.same]
def uI(n a b:Int):Bool:=decide (a≤n)&&decide (n≤b)
theorem ziJ(n a b:Int)(w:World):Calls prog 134 #[.int .i64 n,.int .i64 a,.int .i64 b] w fun e w'=>e=.returned (.bool (uI n a b))∧w=w':=by
 unfold uI;by_cases h1:a≤n
 ·by_cases h2:n≤b
  ·go_enter func134,ntmps134;go_wp2;go_ret;exact⟨by simp[h1,h2],rfl⟩
  ·go_enter func134,ntmps134;go_wp2;go_ret;exact⟨by simp[h1,h2],rfl⟩
 ·go_enter func134,ntmps134;go_wp2;go_ret;exact⟨by simp;omega,rfl⟩
def Cfg.err(c:Cfg):Int:=if uI c.count 1 1048576 then(if uI c.bytes 1 1099511627776 then(if uI c.prot 0 99 then 0 else 242)else 241)else 240
theorem X9(c:Cfg)(w:World):Calls prog 59 #[c.v] w fun e w'=>e=.returned (.int .i64 c.err)∧zb w w':=by
 obtain⟨cn,cb,cp,sd,sm⟩:=c;unfold Cfg.err;dsimp only[Cfg.v];have hp0:zb w (w.alloc (.cells #[.int .i64 cn,.int .i64 cb,.int .i64 cp,.int .u64 sd,.bool sm] 24)):=(Mod.refl _ w).alloc _;have z:=zi (w:=w) (o:=(.cells #[.int .i64 cn,.int .i64 cb,.int .i64 cp,.int .u64 sd,.bool sm] 24 (0,0))) rfl;have HP:=za hp0;have HB:=za ziJ;clear hp0;generalize h1:uI cn 1 1048576=b1;generalize h2:uI cb 1 1099511627776=b2;generalize h3:uI cp 0 99=b3;have H1:=za h1;have H2:=za h2;have H3:=za h3;clear h1 h2 h3;go_enter func59,ntmps59;go_upto_region 1 with fail
 generalize w.alloc (.cells #[.int .i64 cn,.int .i64 cb,.int .i64 cp,.int .u64 sd,.bool sm] 24)=W1 at *;generalize w.heap.size=bb at *;obtain⟨z_0,z_1,z_2,z_3,z_4,z_f,z_l,H_z⟩:=cr5 z;clear z;have HT:=za HP.out
 go_wp2_with (go_at_call 134;refine(HB.out _ _ _ _).mono ?_;first | (rw[H1.out];rintro e w1 ⟨rfl,rfl⟩;cases b1) | (rw[H2.out];rintro e w1 ⟨rfl,rfl⟩;cases b2) | (rw[H3.out];rintro e w1 ⟨rfl,rfl⟩;cases b3))
 all_goals
  go_ret;exact⟨rfl,HT.out⟩
structure Bu where
 c0:Nat
 s0:Nat
 c1:Nat
 s1:Nat
def Bu.cells(mc mb:Nat)(U:Bu):Array Value:=#[.int .i64 mc,.int .i64 mb,.int .i64 U.c0,.int .i64 U.s0,.int .i64 U.c1,.int .i64 U.s1]
structure yQ(w:World)(u mc mb:Nat)(U:Bu):Prop where
 box:w.heap[u]? = some (.cells #[.int .i64 mc,.int .i64 mb,.int .i64 U.c0,.int .i64 U.s0,.int .i64 U.c1,.int .i64 U.s1] 238 (0,0))
 c:1≤mc∧mc≤1048576
 b:1≤mb∧mb≤1099511627776
 u0:U.c0≤2097152∧U.s0≤2305843009213693952
 u1:U.c1≤2097152∧U.s1≤2305843009213693952
abbrev buP(u:Nat):Value := .pointer (some ⟨u,0,none⟩)
abbrev prV(a b:Int):Value := .agg #[.int .i64 a,.int .i64 b]
section
variable{w w':World}{u mc mb:Nat}{U:Bu}
theorem yQ.frame{S:Nat→Prop}(h:yQ w u mc mb U)(hm:Mod S w w')(hn : ¬ S u):yQ w' u mc mb U:=⟨hm.heap hn h.box,h.c,h.b,h.u0,h.u1⟩
theorem yQ.pure(h:yQ w u mc mb U)(hm:zb w w'):yQ w' u mc mb U:=h.frame hm (fun h=>h)
theorem Zl(a b c d:Int)(h1:IntKind.i64.wrap (a+c)=a+c)(h2:IntKind.i64.wrap (b+d)=b+d)(w:World):Calls prog 193 #[prV a b,prV c d] w fun e w'=>e=.returned (prV (a+c) (b+d))∧zb w w':=by
 have hp0:zb w (((w.alloc (.cells #[.int .i64 a,.int .i64 b] 235)).alloc (.cells #[.int .i64 c,.int .i64 d] 235)).alloc (.cells #[.int .i64 0,.int .i64 0] 235)):=(((Mod.refl _ w).alloc _).alloc _).alloc _;have z2:=zz (o := .cells #[.int .i64 0,.int .i64 0] 235) (zz (o := .cells #[.int .i64 c,.int .i64 d] 235) (zi (w:=w) (o:=(.cells #[.int .i64 a,.int .i64 b] 235 (0,0))) rfl));have z3:=zz (o := .cells #[.int .i64 0,.int .i64 0] 235) (zi (w:=w.alloc (.cells #[.int .i64 a,.int .i64 b] 235)) (o:=(.cells #[.int .i64 c,.int .i64 d] 235 (0,0))) (n:=w.heap.size+1) (by simp));have z4:=zi (w:=(w.alloc (.cells #[.int .i64 a,.int .i64 b] 235)).alloc (.cells #[.int .i64 c,.int .i64 d] 235)) (o:=(.cells #[.int .i64 0,.int .i64 0] 235 (0,0))) (n:=w.heap.size+1+1) (by simp);have HP:=za hp0;clear hp0;go_enter func193,ntmps193;go_upto_region 1 with fail
 generalize(((w.alloc (.cells #[.int .i64 a,.int .i64 b] 235)).alloc (.cells #[.int .i64 c,.int .i64 d] 235)).alloc (.cells #[.int .i64 0,.int .i64 0] 235))=W1 at *;obtain⟨b2,hb2⟩:=zc w.heap.size;rw[hb2]at z2 z3 z4 ⊢;have HB:=za hb2;clear hb2;obtain⟨z2_0,z2_1,z2_f,z2_l,H_z2⟩:=cr2 z2;clear z2;obtain⟨z3_0,z3_1,z3_f,z3_l,H_z3⟩:=cr2 z3;clear z3;obtain⟨z4_0,z4_1,z4_f,z4_l,H_z4⟩:=cr2 z4;clear z4;go_wp2;obtain⟨f1,x0,x1⟩:=jR (v0 := .int .i64 (a+c)) (v1 := .int .i64 (b+d)) H_z4.out HP.out (by have:=HB.out;omega) rfl;obtain⟨Y,hY⟩:=zc ((W1.setCell ⟨b2+1+1,0,none⟩ (.int .i64 (a+c))).setCell ⟨b2+1+1,1,none⟩ (.int .i64 (b+d)));rw[hY]at f1 x0 x1 ⊢;exact zK (v:=prV (a+c) (b+d)) (by simp[results,results193,go_sem,x0,x1]) rfl ⟨rfl,f1⟩
theorem J2(a b:Int)(w:World):Calls prog 217 #[prV a b] w fun e w'=>e=.returned (.bool (decide (a≤2097152)&&decide (b≤2305843009213693952)))∧zb w w':=by
 have hp0:zb w (w.alloc (.cells #[.int .i64 a,.int .i64 b] 235)):=(Mod.refl _ w).alloc _;have z:=zi (w:=w) (o:=(.cells #[.int .i64 a,.int .i64 b] 235 (0,0))) rfl;have HP:=za hp0;clear hp0;go_enter func217,ntmps217;go_upto_region 1 with fail
 generalize w.alloc (.cells #[.int .i64 a,.int .i64 b] 235)=W1 at *;generalize w.heap.size=b1 at *;obtain⟨z_0,z_1,z_f,z_l,H_z⟩:=cr2 z;clear z;by_cases h1:a≤2097152
 ·go_wp2;go_ret;exact⟨by simp[h1],HP.out⟩
 ·go_wp2;go_ret;exact⟨by simp;omega,HP.out⟩
theorem zkU(c b:Int)(w:World):Calls prog 174 #[.int .i64 c,.int .i64 b] w fun e w'=>e=.returned (.bool (uI c 1 1048576&&uI b 1 1099511627776))∧w=w':=by
 unfold uI;by_cases h1:1≤c<;>by_cases h2:c≤1048576<;>by_cases h3:1≤b<;>by_cases h4:b≤1099511627776
 all_goals
  go_enter func174,ntmps174;go_wp2;go_ret;exact⟨by simp[h1,h2,h3,h4],rfl⟩
theorem Qj(h:yQ w u mc mb U):Calls prog 173 #[buP u] w fun e w'=>e=.returned (.bool false)∧w=w':=by
 have hb:=h.box;have hc:=h.c;have hne:((mc:Int)==0)=false:=by simp;omega
 clear h;obtain⟨hb_0,hb_1,hb_2,hb_3,hb_4,hb_5,hb_f,hb_l,H_hb⟩:=cr6 hb;clear hb;go_enter func173,ntmps173;go_wp2;go_ret;exact⟨rfl,rfl⟩
theorem XX(h:yQ w u mc mb U){g:Nat}(hg:g≤1){c:Nat}(hc:c≤1099511627776):Calls prog 216 #[buP u,.int .i64 g,.int .i64 c] w fun e w'=>e=.returned (.int .i64 0)∧w=w':=by
 have HN:=za (Qj h);have h1 : ¬ ((c:Int)<0):=by omega
 have h2 : ¬ (1099511627776:Int)<(c:Int):=by omega
 clear h;obtain rfl | rfl:g=0∨g=1:=by omega
 all_goals
  go_enter func216,ntmps216
  go_wp2_with (go_at_call 173;refine HN.out.mono ?_;rintro e w' ⟨rfl,rfl⟩)
  go_ret;exact⟨rfl,rfl⟩
def Bu.cnt(U:Bu)(g:Nat):Nat:=if g=0 then U.c0 else U.c1
def Bu.sum(U:Bu)(g:Nat):Nat:=if g=0 then U.s0 else U.s1
def Bu.holds(U:Bu)(g c:Nat):Prop:=(1<U.cnt g∧c≤U.sum g)∨(U.cnt g=1∧U.sum g=c)
theorem U9(h:yQ w u mc mb U){g:Nat}(hg:g≤1){c:Nat}(hc:c≤1099511627776)(hh:U.holds g c):Calls prog 237 #[buP u,.int .i64 g,.int .i64 c] w fun e w'=>e=.returned (.bool true)∧zb w w':=by
 have hb:=h.box;clear h;obtain⟨c0,s0,c1,s1⟩:=U;unfold Bu.holds Bu.cnt Bu.sum at hh;obtain⟨hb_0,hb_1,hb_2,hb_3,hb_4,hb_5,hb_f,hb_l,H_hb⟩:=cr6 hb;clear hb;obtain rfl | rfl:g=0∨g=1:=by omega
 ·simp only[if_true]at hh;have z:=zi (w:=w) (o:=(.cells #[.int .i64 c0,.int .i64 s0] 235 (0,0))) rfl;have hp:zb w (w.alloc (.cells #[.int .i64 c0,.int .i64 s0] 235)):=(Mod.refl _ w).alloc _;have HP:=za hp;clear hp;go_enter func237,ntmps237;go_upto_region 2 with fail
  generalize w.alloc (.cells #[.int .i64 c0,.int .i64 s0] 235)=W1 at *;generalize w.heap.size=b1 at *;obtain⟨z_0,z_1,z_f,z_l,H_z⟩:=cr2 z;clear z;rcases hh with⟨h1,h2⟩ | ⟨h1,h2⟩
  ·have h1':(1:Int)<(c0:Int):=by omega
   have h2':(c:Int)≤(s0:Int):=by omega
   go_wp2;go_ret;exact⟨rfl,HP.out⟩
  ·subst h1 h2;go_wp2;go_ret;exact⟨by simp,HP.out⟩
 ·simp only[Nat.one_ne_zero,if_false]at hh;have z:=zi (w:=w) (o:=(.cells #[.int .i64 c1,.int .i64 s1] 235 (0,0))) rfl;have hp:zb w (w.alloc (.cells #[.int .i64 c1,.int .i64 s1] 235)):=(Mod.refl _ w).alloc _;have HP:=za hp;clear hp;go_enter func237,ntmps237;go_upto_region 2 with fail
  generalize w.alloc (.cells #[.int .i64 c1,.int .i64 s1] 235)=W1 at *;generalize w.heap.size=b1 at *;obtain⟨z_0,z_1,z_f,z_l,H_z⟩:=cr2 z;clear z;rcases hh with⟨h1,h2⟩ | ⟨h1,h2⟩
  ·have h1':(1:Int)<(c1:Int):=by omega
   have h2':(c:Int)≤(s1:Int):=by omega
   go_wp2;go_ret;exact⟨rfl,HP.out⟩
  ·subst h1 h2;go_wp2;go_ret;exact⟨by simp,HP.out⟩
end
abbrev evV(k:Int)(key:ByteArray)(v:Value)(b d t:Nat):Value := .agg #[.int .i64 k,.string key,v,.int .u64 b,.int .u64 d,.int .u64 t]
def Xq(k:Int):Bool:=decide (1≤k)&&decide (k<6)
theorem zeQ(k:Int)(w:World):Calls prog 268 #[.int .i64 k] w fun e w'=>e=.returned (.bool (Xq k))∧w=w':=by
 unfold Xq;by_cases h1:1≤k
 ·by_cases h2:k<6
  ·go_enter func268,ntmps268;go_wp2;go_ret;exact⟨by simp[h1,h2],rfl⟩
  ·go_enter func268,ntmps268;go_wp2;go_ret;exact⟨by simp;omega,rfl⟩
 ·go_enter func268,ntmps268;go_wp2;go_ret;exact⟨by simp;omega,rfl⟩
theorem zgz(k:Int)(key:ByteArray)(a:Option Addr)(n c b d t:Nat)(w:World):Calls prog 269 #[evV k key (.slice a n c) b d t] w fun e w'=>e=.returned (.agg #[.string key,.slice a n c,.int .u64 d,.int .u64 b])∧zb w w':=by
 have hp0:zb w ((w.alloc (.cells #[.int .i64 k,.string key,.slice a n c,.int .u64 b,.int .u64 d,.int .u64 t] 148)).alloc (.cells #[.string ⟨#[]⟩,.slice none 0 0,.int .u64 0,.int .u64 0] 57)):=((Mod.refl _ w).alloc _).alloc _;have z1:=zz (o := .cells #[.string ⟨#[]⟩,.slice none 0 0,.int .u64 0,.int .u64 0] 57) (zi (w:=w) (o := .cells #[.int .i64 k,.string key,.slice a n c,.int .u64 b,.int .u64 d,.int .u64 t] 148 (0,0)) rfl);have z2:=zi (w:=w.alloc (.cells #[.int .i64 k,.string key,.slice a n c,.int .u64 b,.int .u64 d,.int .u64 t] 148)) (o := .cells #[.string ⟨#[]⟩,.slice none 0 0,.int .u64 0,.int .u64 0] 57 (0,0)) (n:=w.heap.size+1) (by simp);have HP:=za hp0;clear hp0;go_enter func269,ntmps269;go_upto_region 1 with fail
 generalize(w.alloc (.cells #[.int .i64 k,.string key,.slice a n c,.int .u64 b,.int .u64 d,.int .u64 t] 148)).alloc (.cells #[.string ⟨#[]⟩,.slice none 0 0,.int .u64 0,.int .u64 0] 57)=W1 at *;obtain⟨b1,hb1⟩:=zc w.heap.size;rw[hb1]at z1 z2 ⊢;have HB:=za hb1;clear hb1;have Z2:=za z2;obtain⟨z1_0,z1_1,z1_2,z1_3,z1_4,z1_5,z1_f,z1_l,H_z1⟩:=cr6 z1;clear z1;obtain⟨z2_0,z2_1,z2_2,z2_3,z2_f,z2_l,H_z2⟩:=cr4 z2;clear z2;go_wp2;have h0:=zP W1 (b1+1) 0 _ _ (.string key) Z2.out;have h1:=zP _ (b1+1) 1 _ _ (.slice a n c) h0;have h2:=zP _ (b1+1) 2 _ _ (.int .u64 d) h1;have h3:=zP _ (b1+1) 3 _ _ (.int .u64 b) h2;have hm:Mod (fun k=>k=b1+1) W1 ((((W1.setCell ⟨b1+1,0,none⟩ (.string key)).setCell ⟨b1+1,1,none⟩ (.slice a n c)).setCell ⟨b1+1,2,none⟩ (.int .u64 d)).setCell ⟨b1+1,3,none⟩ (.int .u64 b)) :=
  ((((Mod.refl (fun k=>k=b1+1) W1).setCell (p:=⟨b1+1,0,none⟩) (fun _=>rfl) _).setCell (p:=⟨b1+1,1,none⟩) (fun _=>rfl) _).setCell (p:=⟨b1+1,2,none⟩) (fun _=>rfl) _).setCell (p:=⟨b1+1,3,none⟩) (fun _=>rfl) _
 obtain⟨Y,hY⟩:=zc (((((W1.setCell ⟨b1+1,0,none⟩ (.string key)).setCell ⟨b1+1,1,none⟩ (.slice a n c)).setCell ⟨b1+1,2,none⟩ (.int .u64 d)).setCell ⟨b1+1,3,none⟩ (.int .u64 b)));rw[hY]at h3 hm ⊢;have c0:=zf Y (b1+1) 0 _ _ _ h3;have c1:=zf Y (b1+1) 1 _ _ _ h3;have c2:=zf Y (b1+1) 2 _ _ _ h3;have c3:=zf Y (b1+1) 3 _ _ _ h3;simp at c0 c1 c2 c3;refine zK (v := .agg #[.string key,.slice a n c,.int .u64 d,.int .u64 b]) (by simp[results,results269,go_sem,c0,c1,c2,c3]) rfl ⟨rfl,?_⟩;exact HP.out.then hm (fun i hi e=>by have:=HB.out;omega)
def evB(k:Int)(ks n b d t:Nat):Bool:=Xq k&&(XB ks n b&&(kE d t==(k==1)))
def EvS(b1:Nat)(k:Int)(key:ByteArray)(v:Value)(b d t:Nat)(X:World):Prop :=
 X.cell? ⟨b1,0,none⟩=some (.int .i64 k)∧X.cell? ⟨b1,1,none⟩=some (.string key)∧X.cell? ⟨b1,2,none⟩=some v∧X.cell? ⟨b1,3,none⟩=some (.int .u64 b)∧X.cell? ⟨b1,4,none⟩=some (.int .u64 d)∧X.cell? ⟨b1,5,none⟩=some (.int .u64 t)
theorem zhc(k:Int)(key:ByteArray)(a:Option Addr)(n c b d t:Nat)(w:World)(hs:key.size≤140737488355328)(hn:n≤140737488355328) :
  Calls prog 207 #[evV k key (.slice a n c) b d t] w fun e w'=>e=.returned (.bool (evB k key.size n b d t))∧zb w w':=by
 have hp0:zb w (w.alloc (.cells #[.int .i64 k,.string key,.slice a n c,.int .u64 b,.int .u64 d,.int .u64 t] 148)):=(Mod.refl _ w).alloc _;have z:=zi (w:=w) (o := .cells #[.int .i64 k,.string key,.slice a n c,.int .u64 b,.int .u64 d,.int .u64 t] 148 (0,0)) rfl;have HP:=za hp0;have HKi:=za (zeQ k);have HOf:=za (zgz k key a n c b d t);have HVa:=za (fun W=>zkH key a n c d b W hs hn);have HDu:=za (zl5 d t);clear hp0;unfold evB;obtain⟨kb,hkb⟩:=zc (Xq k);obtain⟨vb,hvb⟩:=zc (XB key.size n b);obtain⟨db,hdb⟩:=zc (kE d t);rw[hkb]at HKi ⊢;rw[hvb]at HVa ⊢;rw[hdb]at HDu ⊢;clear hkb hvb hdb
 cases kb
 ·go_enter func207,ntmps207;go_upto_region 1 with fail
  generalize w.alloc (.cells #[.int .i64 k,.string key,.slice a n c,.int .u64 b,.int .u64 d,.int .u64 t] 148)=W1 at *;generalize w.heap.size=b1 at *;have HS:=za (fun(X:World) (hX:zb W1 X)=>(⟨hX.cell (fun h=>h) (zf W1 b1 0 _ _ (0,0) z),hX.cell (fun h=>h) (zf W1 b1 1 _ _ (0,0) z),hX.cell (fun h=>h) (zf W1 b1 2 _ _ (0,0) z),hX.cell (fun h=>h) (zf W1 b1 3 _ _ (0,0) z),hX.cell (fun h=>h) (zf W1 b1 4 _ _ (0,0) z),hX.cell (fun h=>h) (zf W1 b1 5 _ _ (0,0) z)⟩:EvS b1 k key (.slice a n c) b d t X));refine qO (S:=EvS b1 k key (.slice a n c) b d t) (by kernel_rfl) (HS.out _ ((Mod.refl _ _).drew)) (fun h_ => ?_);refine hTk 0 ?_;refine hLd 1 ?_
  (refine hSt 2 (fun K hK => ?_);go_simp;refine(HKi.out _).mono ?_;rintro e u1 ⟨rfl,rfl⟩;refine hK.out _ _ ?_ (fun h_ => ?_);(· exact HS.out _ ((Mod.refl _ _).drew));clear hK K;refine clA ?_)
  refine hTk 3 ?_;refine hSk 4 ?_;refine hSk 5 ?_;refine hSk 6 ?_;refine hTk 7 ?_;refine hTk 8 ?_;refine hSk 9 ?_;refine hSk 10 ?_;refine hSk 11 ?_;refine hSk 12 ?_;refine hSk 13 ?_;refine hSk 14 ?_;refine hSk 15 ?_;refine hSk 16 ?_;refine hSk 17 ?_;refine hTk 18 ?_;refine hTk 19 ?_;refine hDn ?_;clear h_;go_wp2;go_ret;exact⟨rfl,HP.out.drew⟩
 ·cases vb
  ·go_enter func207,ntmps207;go_upto_region 1 with fail
   generalize w.alloc (.cells #[.int .i64 k,.string key,.slice a n c,.int .u64 b,.int .u64 d,.int .u64 t] 148)=W1 at *;generalize w.heap.size=b1 at *;have HS:=za (fun(X:World) (hX:zb W1 X)=>(⟨hX.cell (fun h=>h) (zf W1 b1 0 _ _ (0,0) z),hX.cell (fun h=>h) (zf W1 b1 1 _ _ (0,0) z),hX.cell (fun h=>h) (zf W1 b1 2 _ _ (0,0) z),hX.cell (fun h=>h) (zf W1 b1 3 _ _ (0,0) z),hX.cell (fun h=>h) (zf W1 b1 4 _ _ (0,0) z),hX.cell (fun h=>h) (zf W1 b1 5 _ _ (0,0) z)⟩:EvS b1 k key (.slice a n c) b d t X));refine qO (S:=EvS b1 k key (.slice a n c) b d t) (by kernel_rfl) (HS.out _ ((Mod.refl _ _).drew)) (fun h_ => ?_);refine hTk 0 ?_;refine hLd 1 ?_
   (refine hSt 2 (fun K hK => ?_);go_simp;refine(HKi.out _).mono ?_;rintro e u1 ⟨rfl,rfl⟩;refine hK.out _ _ ?_ (fun h_ => ?_);(· exact HS.out _ ((Mod.refl _ _).drew));clear hK K;refine clA ?_)
   refine hTk 3 ?_;refine hLd 4 ?_
   (refine hSt 5 (fun K hK => ?_);go_simp;refine(HOf.out _).mono ?_;rintro e u2 ⟨rfl,hp2⟩;refine hK.out _ _ ?_ (fun h_ => ?_);(· exact HS.out _ (Mod.of_drew hp2));clear hK K;refine clA ?_)
   (refine hSt 6 (fun K hK => ?_);go_simp;refine(HVa.out _).mono ?_;rintro e u3 ⟨rfl,hp3⟩;refine hK.out _ _ ?_ (fun h_ => ?_);(· exact HS.out _ ((Mod.of_drew hp2).trans hp3));clear hK K;refine clA ?_)
   refine hTk 7 ?_;refine hTk 8 ?_;refine hSk 9 ?_;refine hSk 10 ?_;refine hSk 11 ?_;refine hSk 12 ?_;refine hSk 13 ?_;refine hSk 14 ?_;refine hSk 15 ?_;refine hSk 16 ?_;refine hSk 17 ?_;refine hTk 18 ?_;refine hTk 19 ?_;refine hDn ?_;clear h_;go_wp2;go_ret;exact⟨rfl,HP.out.trans ((Mod.of_drew hp2).trans hp3)⟩
  ·go_enter func207,ntmps207;go_upto_region 1 with fail
   generalize w.alloc (.cells #[.int .i64 k,.string key,.slice a n c,.int .u64 b,.int .u64 d,.int .u64 t] 148)=W1 at *;generalize w.heap.size=b1 at *;have HS:=za (fun(X:World) (hX:zb W1 X)=>(⟨hX.cell (fun h=>h) (zf W1 b1 0 _ _ (0,0) z),hX.cell (fun h=>h) (zf W1 b1 1 _ _ (0,0) z),hX.cell (fun h=>h) (zf W1 b1 2 _ _ (0,0) z),hX.cell (fun h=>h) (zf W1 b1 3 _ _ (0,0) z),hX.cell (fun h=>h) (zf W1 b1 4 _ _ (0,0) z),hX.cell (fun h=>h) (zf W1 b1 5 _ _ (0,0) z)⟩:EvS b1 k key (.slice a n c) b d t X));refine qO (S:=EvS b1 k key (.slice a n c) b d t) (by kernel_rfl) (HS.out _ ((Mod.refl _ _).drew)) (fun h_ => ?_);refine hTk 0 ?_;refine hLd 1 ?_
   (refine hSt 2 (fun K hK => ?_);go_simp;refine(HKi.out _).mono ?_;rintro e u1 ⟨rfl,rfl⟩;refine hK.out _ _ ?_ (fun h_ => ?_);(· exact HS.out _ ((Mod.refl _ _).drew));clear hK K;refine clA ?_)
   refine hTk 3 ?_;refine hLd 4 ?_
   (refine hSt 5 (fun K hK => ?_);go_simp;refine(HOf.out _).mono ?_;rintro e u2 ⟨rfl,hp2⟩;refine hK.out _ _ ?_ (fun h_ => ?_);(· exact HS.out _ (Mod.of_drew hp2));clear hK K;refine clA ?_)
   (refine hSt 6 (fun K hK => ?_);go_simp;refine(HVa.out _).mono ?_;rintro e u3 ⟨rfl,hp3⟩;refine hK.out _ _ ?_ (fun h_ => ?_);(· exact HS.out _ ((Mod.of_drew hp2).trans hp3));clear hK K;refine clA ?_)
   refine hTk 7 ?_;refine hTk 8 ?_;refine hTk 9 ?_;refine hLd 10 ?_;refine hTk 11 ?_;refine hLd 12 ?_;refine hTk 14 ?_;refine hLd 15 ?_;refine hTk 16 ?_
   (refine hSt 13 (fun K hK => ?_);go_simp;refine(HDu.out _).mono ?_;rintro e u4 ⟨rfl,rfl⟩;refine hK.out _ _ ?_ (fun h_ => ?_);(· exact HS.out _ ((Mod.of_drew hp2).trans hp3));clear hK K;refine clA ?_)
   refine hTk 17 ?_;refine hTk 18 ?_;refine hTk 19 ?_;refine hDn ?_;clear h_;go_wp2;go_ret;exact⟨by simp,HP.out.trans ((Mod.of_drew hp2).trans hp3)⟩
section
variable{w w':World}{u mc mb:Nat}{U:Bu}
theorem VH(h:yQ w u mc mb U){W:World}(hp:zb w W)(b:Nat)(hb:w.heap.size≤b){j:Nat}{x y:Nat}{U2:Bu}(hY:((Bu.cells mc mb U).set! j (.int .i64 x)).set! (j+1) (.int .i64 y)=Bu.cells mc mb U2)(hu0:U2.c0≤2097152∧U2.s0≤2305843009213693952)(hu1:U2.c1≤2097152∧U2.s1≤2305843009213693952) :
  yQ ((W.setCell ⟨u,j,none⟩ (.int .i64 x)).setCell ⟨u,j+1,none⟩ (.int .i64 y)) u mc mb U2∧Mod (fun k=>k=u) w ((W.setCell ⟨u,j,none⟩ (.int .i64 x)).setCell ⟨u,j+1,none⟩ (.int .i64 y)):=by
 have h1:=(h.pure hp).box;have h2:=zP W u j _ _ (.int .i64 x) h1;have h3:=zP _ u (j+1) _ _ (.int .i64 y) h2;refine⟨⟨?_,h.c,h.b,hu0,hu1⟩,Mod.trans' hp (Mod.set2 u j (j+1) _ _) (fun _ _ h=>h.elim) (fun _ _ h=>h)⟩;rw[h3];have e:((#[.int .i64 mc,.int .i64 mb,.int .i64 U.c0,.int .i64 U.s0,.int .i64 U.c1,.int .i64 U.s1]:Array Value).set! j (.int .i64 x)).set! (j+1) (.int .i64 y)=Bu.cells mc mb U2:=hY;unfold Bu.cells at e
 first | (rw[e]) | (simp only[Array.set!_eq_setIfInBounds]at e;rw[e])
theorem zbq(h:yQ w u mc mb U){c:Nat}(hc:c≤1099511627776)(h1:U.c0+1≤2097152)(h2:U.s0+c≤2305843009213693952) :
  Calls prog 126 #[buP u,.int .i64 0,.int .i64 c] w fun e w'=>e=.returned (.int .i64 0)∧yQ w' u mc mb {U with c0:=U.c0+1,s0:=U.s0+c}∧Mod (fun k=>k=u) w w':=by
 have HC:=za (XX h (g:=0) (by omega) hc);have HU:=za h;have hb:=h.box;clear h;obtain⟨c0,s0,c1,s1⟩:=U;dsimp only at h1 h2 hb ⊢;have HPl:=za (fun W=>Zl (c0:Int) (s0:Int) 1 (c:Int) (zt _ (by omega)) (zt _ (by omega)) W);have HF:=za (fun W=>J2 ((c0:Int)+1) ((s0:Int)+(c:Int)) W);have hf:(decide ((c0:Int)+1≤2097152)&&decide ((s0:Int)+(c:Int)≤2305843009213693952))=true:=by simp;omega
 rw[hf]at HF;clear hf;obtain⟨hb_0,hb_1,hb_2,hb_3,hb_4,hb_5,hb_f,hb_l,H_hb⟩:=cr6 hb;clear hb;go_enter func126,ntmps126;go_upto_region 4 with(go_at_call 216;refine HC.out.mono ?_;rintro e w' ⟨rfl,rfl⟩)
 go_upto_region 5 with(go_at_call 193;refine(HPl.out _).mono ?_;rintro e w2 ⟨rfl,hp2⟩)
 have hb2:=(hp2.alloc (.cells #[.int .i64 ((c0:Int)+1),.int .i64 ((s0:Int)+(c:Int))] 235)).heap (fun h=>h) H_hb.out;have z:=zi (w:=w2) (o:=(.cells #[.int .i64 ((c0:Int)+1),.int .i64 ((s0:Int)+(c:Int))] 235 (0,0))) rfl;have HP:=za (hp2.alloc (.cells #[.int .i64 ((c0:Int)+1),.int .i64 ((s0:Int)+(c:Int))] 235));have hsz:u≠w2.heap.size:=by have:=hp2.size;omega
 have hsz2:w.heap.size≤w2.heap.size:=hp2.size;clear hb_0 hb_1 hb_2 hb_3 hb_4 hb_5 hb_f hb_l;clear hp2 H_hb;generalize w2.alloc (.cells #[.int .i64 ((c0:Int)+1),.int .i64 ((s0:Int)+(c:Int))] 235)=W2 at *;generalize w2.heap.size=b8 at *;obtain⟨z_0,z_1,z_f,z_l,H_z⟩:=cr2 z;clear z;obtain⟨hb2_0,hb2_1,hb2_2,hb2_3,hb2_4,hb2_5,hb2_f,hb2_l,H_hb2⟩:=cr6 hb2;clear hb2;go_upto_region 7 with(go_at_call 217;refine(HF.out _).mono ?_;rintro e w3 ⟨rfl,hp3⟩)
 have z3:=hp3.heap (fun h=>h) H_z.out;have hb3:=hp3.heap (fun h=>h) H_hb2.out;have HP3:=za (HP.out.trans hp3);clear z_0 z_1 z_f z_l;clear hb2_0 hb2_1 hb2_2 hb2_3 hb2_4 hb2_5 hb2_f hb2_l;clear H_z H_hb2 hp3;obtain⟨z3_0,z3_1,z3_f,z3_l,H_z3⟩:=cr2 z3;clear z3;obtain⟨hb3_0,hb3_1,hb3_2,hb3_3,hb3_4,hb3_5,hb3_f,hb3_l,H_hb3⟩:=cr6 hb3;clear hb3
 go_region_held3 (fun w'=>w'.cell? ⟨b8,0,none⟩=some (.int .i64 ((c0:Int)+1))∧w'.cell? ⟨b8,1,none⟩=some (.int .i64 ((s0:Int)+(c:Int))))
  (first | exact⟨z3_0,z3_1⟩ | exact⟨(Mod.set2 u 2 3 _ _).cell (fun e=>hsz e.symm) z3_0,(Mod.set2 u 2 3 _ _).cell (fun e=>hsz e.symm) z3_1⟩)
  (fail)
 go_wp2;go_ret;refine⟨rfl,?_⟩;exact VH HU.out (W:=w3.drew) (HP3.out.drew) b8 hsz2 (j:=2) (x:=c0+1) (y:=s0+c) rfl (by have:=HU.out.u0;dsimp only at this ⊢;omega) (by have:=HU.out.u1;dsimp only at this ⊢;omega)
theorem zl7(h:yQ w u mc mb U){c:Nat}(hc:c≤1099511627776)(hh:U.holds 0 c) :
  Calls prog 161 #[buP u,.int .i64 0,.int .i64 c] w fun e w'=>e=.returned (.int .i64 0)∧yQ w' u mc mb {U with c0:=U.c0-1,s0:=U.s0-c}∧Mod (fun k=>k=u) w w':=by
 have HC:=za (XX h (g:=0) (by omega) hc);have HHa:=za (U9 h (g:=0) (by omega) hc hh);have HU:=za h;have hb:=h.box;have hu0:=h.u0;have hu1:=h.u1;clear h;obtain⟨c0,s0,c1,s1⟩:=U;have hh1:1≤c0∧c≤s0:=by
  unfold Bu.holds Bu.cnt Bu.sum at hh;simp at hh;omega
 dsimp only at hb hu0 hu1 ⊢;have HPl:=za (fun W=>Zl (c0:Int) (s0:Int) (-1) (-(c:Int)) (zt _ (by omega)) (zt _ (by omega)) W);have wn:IntKind.i64.wrap (-(c:Int)) = -(c:Int):=zt _ (by omega);have HH1:=za hh1;clear hh hh1 hu0 hu1;obtain⟨hb_0,hb_1,hb_2,hb_3,hb_4,hb_5,hb_f,hb_l,H_hb⟩:=cr6 hb;clear hb;go_enter func161,ntmps161;go_upto_region 4 with(go_at_call 216;refine HC.out.mono ?_;rintro e w' ⟨rfl,rfl⟩)
 go_upto_region 6 with(go_at_call 237;refine HHa.out.mono ?_;rintro e w2 ⟨rfl,hp2⟩)
 have hb2:=hp2.heap (fun h=>h) H_hb.out;have HP:=za hp2;clear hb_0 hb_1 hb_2 hb_3 hb_4 hb_5 hb_f hb_l;clear H_hb hp2;obtain⟨hb2_0,hb2_1,hb2_2,hb2_3,hb2_4,hb2_5,hb2_f,hb2_l,H_hb2⟩:=cr6 hb2;clear hb2;refine rHd (S:=fun _=>True) trivial (fun h_ => ?_);refine hTk 0 ?_;refine hTk 1 ?_;refine hTk 2 ?_;refine hTk 3 ?_;refine hTk 4 ?_;refine hTk 5 ?_;refine hTk 6 ?_;refine hTk 8 ?_;refine hTk 9 ?_;refine hTk 10 ?_;refine hTk 12 ?_;refine hTk 13 ?_
 (refine hSt 7 (fun K hK => ?_);go_simp;refine hK.out _ _ ?_ (fun h_ => ?_);(· trivial);clear hK K;refine clA ?_)
 (refine hSt 11 (fun K hK => ?_);go_simp;refine(HPl.out _).mono ?_;rintro e w3 ⟨rfl,hp3⟩;have kf : ∀ j,w3.frozen? ⟨u,j,none⟩=false:=(fun j=>(hp3.cells.2 u j hb2_l).trans (hb2_f j));have kl:u<w3.heap.size:=hp3.lt hb2_l;have k2:=hp3.cell (fun h=>h) hb2_2;have k3:=hp3.cell (fun h=>h) hb2_3;refine hK.out _ _ ?_ (fun h_ => ?_);(· trivial);clear hK K;refine clA ?_)
 refine hTk 14 ?_
 (refine hSt 15 (fun K hK => ?_);go_simp;refine hK.out _ _ ?_ (fun h_ => ?_);(· trivial);clear hK K;refine clA ?_)
 refine hDn ?_;clear h_;go_wp2;go_ret;refine⟨rfl,?_⟩;have hh:=HH1.out;have e1:(c0:Int) + -1=((c0-1:Nat):Int):=by omega
 have e2:(s0:Int) + -(c:Int)=((s0-c:Nat):Int):=by omega
 rw[e1,e2];exact VH HU.out (W:=w3) (HP.out.trans (Mod.of_drew hp3)) w.heap.size (zG _) (j:=2) (x:=c0-1) (y:=s0-c) rfl (by have:=HU.out.u0;dsimp only at this ⊢;omega) (by have:=HU.out.u1;dsimp only at this ⊢;omega)
theorem zld(h:yQ w u mc mb U){c:Nat}(hc:c≤1099511627776)(h1:U.c1+1≤2097152)(h2:U.s1+c≤2305843009213693952) :
  Calls prog 126 #[buP u,.int .i64 1,.int .i64 c] w fun e w'=>e=.returned (.int .i64 0)∧yQ w' u mc mb {U with c1:=U.c1+1,s1:=U.s1+c}∧Mod (fun k=>k=u) w w':=by
 have HC:=za (XX h (g:=1) (by omega) hc);have HU:=za h;have hb:=h.box;clear h;obtain⟨c0,s0,c1,s1⟩:=U;dsimp only at h1 h2 hb ⊢;have HPl:=za (fun W=>Zl (c1:Int) (s1:Int) 1 (c:Int) (zt _ (by omega)) (zt _ (by omega)) W);have HF:=za (fun W=>J2 ((c1:Int)+1) ((s1:Int)+(c:Int)) W);have hf:(decide ((c1:Int)+1≤2097152)&&decide ((s1:Int)+(c:Int)≤2305843009213693952))=true:=by simp;omega
 rw[hf]at HF;clear hf;obtain⟨hb_0,hb_1,hb_2,hb_3,hb_4,hb_5,hb_f,hb_l,H_hb⟩:=cr6 hb;clear hb;go_enter func126,ntmps126;go_upto_region 4 with(go_at_call 216;refine HC.out.mono ?_;rintro e w' ⟨rfl,rfl⟩)
 go_upto_region 5 with(go_at_call 193;refine(HPl.out _).mono ?_;rintro e w2 ⟨rfl,hp2⟩)
 have hb2:=(hp2.alloc (.cells #[.int .i64 ((c1:Int)+1),.int .i64 ((s1:Int)+(c:Int))] 235)).heap (fun h=>h) H_hb.out;have z:=zi (w:=w2) (o:=(.cells #[.int .i64 ((c1:Int)+1),.int .i64 ((s1:Int)+(c:Int))] 235 (0,0))) rfl;have HP:=za (hp2.alloc (.cells #[.int .i64 ((c1:Int)+1),.int .i64 ((s1:Int)+(c:Int))] 235));have hsz:u≠w2.heap.size:=by have:=hp2.size;omega
 have hsz2:w.heap.size≤w2.heap.size:=hp2.size;clear hb_0 hb_1 hb_2 hb_3 hb_4 hb_5 hb_f hb_l;clear hp2 H_hb;generalize w2.alloc (.cells #[.int .i64 ((c1:Int)+1),.int .i64 ((s1:Int)+(c:Int))] 235)=W2 at *;generalize w2.heap.size=b8 at *;obtain⟨z_0,z_1,z_f,z_l,H_z⟩:=cr2 z;clear z;obtain⟨hb2_0,hb2_1,hb2_2,hb2_3,hb2_4,hb2_5,hb2_f,hb2_l,H_hb2⟩:=cr6 hb2;clear hb2;go_upto_region 7 with(go_at_call 217;refine(HF.out _).mono ?_;rintro e w3 ⟨rfl,hp3⟩)
 have z3:=hp3.heap (fun h=>h) H_z.out;have hb3:=hp3.heap (fun h=>h) H_hb2.out;have HP3:=za (HP.out.trans hp3);clear z_0 z_1 z_f z_l;clear hb2_0 hb2_1 hb2_2 hb2_3 hb2_4 hb2_5 hb2_f hb2_l;clear H_z H_hb2 hp3;obtain⟨z3_0,z3_1,z3_f,z3_l,H_z3⟩:=cr2 z3;clear z3;obtain⟨hb3_0,hb3_1,hb3_2,hb3_3,hb3_4,hb3_5,hb3_f,hb3_l,H_hb3⟩:=cr6 hb3;clear hb3
 go_region_held3 (fun w'=>w'.cell? ⟨b8,0,none⟩=some (.int .i64 ((c1:Int)+1))∧w'.cell? ⟨b8,1,none⟩=some (.int .i64 ((s1:Int)+(c:Int))))
  (first | exact⟨z3_0,z3_1⟩ | exact⟨(Mod.set2 u 4 5 _ _).cell (fun e=>hsz e.symm) z3_0,(Mod.set2 u 4 5 _ _).cell (fun e=>hsz e.symm) z3_1⟩)
  (fail)
 go_wp2;go_ret;refine⟨rfl,?_⟩;exact VH HU.out (W:=w3.drew) (HP3.out.drew) b8 hsz2 (j:=4) (x:=c1+1) (y:=s1+c) rfl (by have:=HU.out.u0;dsimp only at this ⊢;omega) (by have:=HU.out.u1;dsimp only at this ⊢;omega)
theorem zcv(h:yQ w u mc mb U){c:Nat}(hc:c≤1099511627776)(hh:U.holds 1 c) :
  Calls prog 161 #[buP u,.int .i64 1,.int .i64 c] w fun e w'=>e=.returned (.int .i64 0)∧yQ w' u mc mb {U with c1:=U.c1-1,s1:=U.s1-c}∧Mod (fun k=>k=u) w w':=by
 have HC:=za (XX h (g:=1) (by omega) hc);have HHa:=za (U9 h (g:=1) (by omega) hc hh);have HU:=za h;have hb:=h.box;have hu0:=h.u0;have hu1:=h.u1;clear h;obtain⟨c0,s0,c1,s1⟩:=U;have hh1:1≤c1∧c≤s1:=by
  unfold Bu.holds Bu.cnt Bu.sum at hh;simp at hh;omega
 dsimp only at hb hu0 hu1 ⊢;have HPl:=za (fun W=>Zl (c1:Int) (s1:Int) (-1) (-(c:Int)) (zt _ (by omega)) (zt _ (by omega)) W);have wn:IntKind.i64.wrap (-(c:Int)) = -(c:Int):=zt _ (by omega);have HH1:=za hh1;clear hh hh1 hu0 hu1;obtain⟨hb_0,hb_1,hb_2,hb_3,hb_4,hb_5,hb_f,hb_l,H_hb⟩:=cr6 hb;clear hb;go_enter func161,ntmps161;go_upto_region 4 with(go_at_call 216;refine HC.out.mono ?_;rintro e w' ⟨rfl,rfl⟩)
 go_upto_region 6 with(go_at_call 237;refine HHa.out.mono ?_;rintro e w2 ⟨rfl,hp2⟩)
 have hb2:=hp2.heap (fun h=>h) H_hb.out;have HP:=za hp2;clear hb_0 hb_1 hb_2 hb_3 hb_4 hb_5 hb_f hb_l;clear H_hb hp2;obtain⟨hb2_0,hb2_1,hb2_2,hb2_3,hb2_4,hb2_5,hb2_f,hb2_l,H_hb2⟩:=cr6 hb2;clear hb2;refine rHd (S:=fun _=>True) trivial (fun h_ => ?_);refine hTk 0 ?_;refine hTk 1 ?_;refine hTk 2 ?_;refine hTk 3 ?_;refine hTk 4 ?_;refine hTk 5 ?_;refine hTk 6 ?_;refine hTk 8 ?_;refine hTk 9 ?_;refine hTk 10 ?_;refine hTk 12 ?_;refine hTk 13 ?_
 (refine hSt 7 (fun K hK => ?_);go_simp;refine hK.out _ _ ?_ (fun h_ => ?_);(· trivial);clear hK K;refine clA ?_)
 (refine hSt 11 (fun K hK => ?_);go_simp;refine(HPl.out _).mono ?_;rintro e w3 ⟨rfl,hp3⟩;have kf : ∀ j,w3.frozen? ⟨u,j,none⟩=false:=(fun j=>(hp3.cells.2 u j hb2_l).trans (hb2_f j));have kl:u<w3.heap.size:=hp3.lt hb2_l;have k2:=hp3.cell (fun h=>h) hb2_4;have k3:=hp3.cell (fun h=>h) hb2_5;refine hK.out _ _ ?_ (fun h_ => ?_);(· trivial);clear hK K;refine clA ?_)
 refine hTk 14 ?_
 (refine hSt 15 (fun K hK => ?_);go_simp;refine hK.out _ _ ?_ (fun h_ => ?_);(· trivial);clear hK K;refine clA ?_)
 refine hDn ?_;clear h_;go_wp2;go_ret;refine⟨rfl,?_⟩;have hh:=HH1.out;have e1:(c1:Int) + -1=((c1-1:Nat):Int):=by omega
 have e2:(s1:Int) + -(c:Int)=((s1-c:Nat):Int):=by omega
 rw[e1,e2];exact VH HU.out (W:=w3) (HP.out.trans (Mod.of_drew hp3)) w.heap.size (zG _) (j:=4) (x:=c1-1) (y:=s1-c) rfl (by have:=HU.out.u0;dsimp only at this ⊢;omega) (by have:=HU.out.u1;dsimp only at this ⊢;omega)
end
@[go_sem] theorem zmU (w : World) (r : Option Nat) : (binOp .eql 213 (.map r) (.map none)).run prog w=.ok (.bool r.isNone) w := run_eql_map_nil w _ _ _ r underlying213
def Yw(now:Nat)(ws:List Nat)(bm bb:Nat):List Value := .int .u64 now::(ws.map lkP++[.map (some bm),.map (some bb)])
structure kz(w:World)(p now:Nat)(ws:List Nat)(bm bb:Nat):Prop where
 box:w.heap[p]? = some (.cells (Yw now ws bm bb).toArray 297 (0,0))
 len:ws.length=8
 now:now<18446744073709551616
section
variable{w w':World}{p now bm bb:Nat}{ws:List Nat}
theorem kz.mod{S:Nat→Prop}(h:kz w p now ws bm bb)(hm:Mod S w w')(hp : ¬ S p):kz w' p now ws bm bb:=⟨hm.heap hp h.box,h.len,h.now⟩
theorem kz.cells(h:kz w p now ws bm bb):w.cell? ⟨p,0,none⟩=some (.int .u64 now)∧w.cell? ⟨p,9,none⟩=some (.map (some bm))∧w.cell? ⟨p,10,none⟩=some (.map (some bb))∧(∀ i,w.frozen? ⟨p,i,none⟩=false)∧p<w.heap.size:=by
 have g:=fun j=>zf w p j _ _ (0,0) h.box
 have hl:=h.len;refine⟨by rw[g,vw];rfl,?_,?_,fun i=>yP w p i _ _ h.box,zl h.box⟩
 ·rw[g,vw];unfold Yw;rw[YE,ji (by simp;omega)];simp[hl]
 ·rw[g,vw];unfold Yw;rw[YE,ji (by simp;omega)];simp[hl]
theorem kz.level(h:kz w p now ws bm bb){l q:Nat}(hq:ws[l]? = some q):w.cell? ⟨p,1+l,none⟩=some (lkP q):=by
 rw[zf w p (1+l) _ _ (0,0) h.box,vw];unfold Yw;rw[show 1+l=l+1 by omega,YE,ur (by have:=(zF.1 hq).1;simpa using this),yw,hq]
 rfl
theorem Ya(h:kz w p now ws bm bb){s:Nat}(hs:s<4194304):Calls prog 233 #[lkP p,.int .u32 s] w fun e w'=>e=.returned (.int .i64 0)∧w=w':=by
 obtain⟨c0,c9,c10,_,_⟩:=h.cells;clear h;have d1:decide ((4194304:Int)≤(s:Int))=false:=zQ (by omega);have d1n:decide (4194304≤s)=false:=zQ (by omega);go_enter func233,ntmps233;go_wp2;go_ret;exact⟨rfl,rfl⟩
theorem zft(h:kz w p now ws bm bb){s:Nat}(hs:4194304≤s)(h32:s≤4294967295):Calls prog 233 #[lkP p,.int .u32 s] w fun e w'=>e=.returned (.int .i64 2)∧w=w':=by
 obtain⟨c0,c9,c10,_,_⟩:=h.cells;clear h;have d1:decide ((4194304:Int)≤(s:Int))=true:=zL (by omega);have d1n:decide (4194304≤s)=true:=zL hs;go_enter func233,ntmps233;go_wp2;go_ret;exact⟨rfl,rfl⟩
def qK(s:Nat):Int:=if s<4194304 then 0 else 2
theorem Ko(h:kz w p now ws bm bb){s:Nat}(h32:s≤4294967295):Calls prog 233 #[lkP p,.int .u32 s] w fun e w'=>e=.returned (.int .i64 (qK s))∧w=w':=by
 unfold qK;by_cases hs:s<4194304
 ·rw[zk hs];exact Ya h hs
 ·rw[zh hs];exact zft h (by omega) h32
theorem Jb(h:kz w p now ws bm bb){dl:Nat}(hd:dl<18446744073709551616)(hne:dl≠now) :
  Calls prog 285 #[lkP p,.int .u64 dl] w fun e w'=>e=.returned (.tuple #[.int .i64 (lvl now dl:Nat),.int .i64 (bkt now dl:Nat)])∧zb w w':=by
 obtain⟨c0,_,_,_,_⟩:=h.cells;have hn:=h.now;obtain⟨b1,b2,b3⟩:=zll hn hd hne;have hx:dl ^^^ now<18446744073709551616:=Za (n:=64) hd hn;have HLn:=za (ziF _ hx w);have hxor:=Yo dl now hd hn;have hl8:=(uR hn hd).1;have hbk:bkt now dl=dl/256 ^ lvl now dl%256:=rfl;have HBK:=za hbk;clear h hbk hx;generalize yR (dl ^^^ now)=bl at *;generalize dl ^^^ now=x at *;obtain⟨lv,hlv⟩:=zc (lvl now dl);obtain⟨bk,hbk2⟩:=zc (bkt now dl);rw[hlv]at b3 hl8 HBK;rw[hbk2]at HBK;have w1:IntKind.i64.wrap ((bl:Int)-1)=(bl:Int)-1:=zt _ (by omega);have e8:((bl:Int)-1)/8=(lv:Int):=by omega
 have w2:wrap64 (((bl:Int)-1)/8)=(lv:Int):=by rw[e8];exact jV _ (by omega)
 have b0:(0:Int)≤(bl:Int)-1:=by omega
 have HLV:=za hlv;have HB2:=za hbk2;clear hlv hbk2 hne;go_enter func285,ntmps285;go_upto_region 2 with(go_at_call 331;refine HLn.out.mono ?_;rintro e w' ⟨rfl,rfl⟩)
 have w3:IntKind.i64.wrap (8*(lv:Int))=8*(lv:Int):=zt _ (by omega);have l0:(0:Int)≤(lv:Int):=by omega
 have l1:(lv:Int)<8:=by omega
 have hand:bits .and .u64 ((dl:Int)/(2:Int) ^ (8*lv)) 255=(bk:Int):=by
  have hq:dl/2 ^ (8*lv)<18446744073709551616:=jO (YP _ _) hd;have:=XA (dl/2 ^ (8*lv)) 255 hq (by decide);rw[show(255:Nat)=2 ^ 8-1 from rfl,VX]at this;rw[HBK.out,show(256:Nat) ^ lv=2 ^ (8*lv) by rw[Nat.pow_mul],← this];simp
 have hbk8:bk<256:=by rw[HBK.out];exact vr _ (by decide)
 have wb:wrap64 (bk:Int)=(bk:Int):=jV _ (by omega);have hend:Ending.returned (.tuple #[.int .i64 (((bl:Int)-1)/8),.int .i64 (bk:Int)])=.returned (.tuple #[.int .i64 (lvl now dl:Nat),.int .i64 (bkt now dl:Nat)]):=by rw[e8,HLV.out,HB2.out]
 have HEnd:=za hend;clear hend wb HBK hxor
 go_region
 go_wp2;go_ret2;exact⟨HEnd.out,(Mod.refl _ _).drew⟩
end
structure yq(w:World)(D:Nat→Prop)(p now:Nat)(ws:List Nat)(bm bb:Nat)(Ds:Nat→Nat→Prop)(Dm Db:DataW Unit)(M:List Td)(Lss:List (List (List Nat))):Prop where
 box:kz w p now ws bm bb
 what:yL w bm M Dm
 births:xS w bb M Db
 len:Lss.length=8
 lev : ∀(l q:Nat) (Ls:List (List Nat)),ws[l]? = some q→Lss[l]? = some Ls→yV w (Ds l) q Ls
 apart : ∀ l l' k,l<8→l'<8→l≠l'→Ds l k → ¬ Ds l' k
 own : ∀ l k,l<8→Ds l k→k≠p∧k≠bm∧k≠bb
 ne:bm≠bb∧bm≠p∧bb≠p
 dd : ∀ k,D k↔(k=p∨k=bm∨k=bb ∨ ∃ l,l<8∧Ds l k)
section
variable{w w':World}{D:Nat→Prop}{p now:Nat}{ws:List Nat}{bm bb:Nat}{Ds:Nat→Nat→Prop}{Dm Db:DataW Unit}{M:List Td}{Lss:List (List (List Nat))}
theorem yq.frame{S:Nat→Prop}(h:yq w D p now ws bm bb Ds Dm Db M Lss)(hm:Mod S w w')(hd : ∀ k,D k → ¬ S k):yq w' D p now ws bm bb Ds Dm Db M Lss :=
 ⟨h.box.mod hm (hd p ((h.dd p).2 (.inl rfl))),h.what.mod hm (hd bm ((h.dd bm).2 (.inr (.inl rfl)))),h.births.mod hm (hd bb ((h.dd bb).2 (.inr (.inr (.inl rfl))))),h.len,
  fun l q Ls hq hl=>(h.lev l q Ls hq hl).frame hm (fun k hk=>hd k ((h.dd k).2 (.inr (.inr (.inr ⟨l,by have:=(zF.1 hl).1;rw[h.len]at this;exact this,hk⟩))))),h.apart,h.own,h.ne,h.dd⟩
theorem yq.pure(h:yq w D p now ws bm bb Ds Dm Db M Lss)(hm:zb w w'):yq w' D p now ws bm bb Ds Dm Db M Lss:=h.frame hm (fun _ _ h=>h)
theorem yq.lt(h:yq w D p now ws bm bb Ds Dm Db M Lss){k:Nat}(hk:D k):k<w.heap.size:=by
 rcases(h.dd k).1 hk with rfl | rfl | rfl | ⟨l,hl,hk⟩
 ·exact zl h.box.box
 ·exact h.what.own.lt
 ·exact h.births.own.lt
 ·obtain⟨q,hq⟩ : ∃ q,ws[l]? = some q:=⟨_,zN (by rw[h.box.len];exact hl)⟩;obtain⟨Ls,hL⟩ : ∃ Ls,Lss[l]? = some Ls:=⟨_,zN (by rw[h.len];exact hl)⟩;exact(h.lev l q Ls hq hL).lt hk
theorem zdM(h:yq w D p now ws bm bb Ds Dm Db M Lss){x:Td}{M':List Td}(hx:x∈M)(hs:x.slot≤4294967295)(hb:x.birth≤18446744073709551615)(hM : ∀ y,y∈M'↔y∈M∧y.slot≠x.slot)(hM2 : ∀ y,y∈M'↔y∈M∧y.birth≠x.birth)(hl:M'.length+1=M.length) :
  Calls prog 287 #[lkP p,tdV x] w fun e w'=>e=.returned (.tuple #[])∧(∃ Dm' Db',yq w' D p now ws bm bb Ds Dm' Db' M' Lss)∧Mod (fun k=>k=bm∨k=bb) w w':=by
 have hal:zb w (w.alloc (.cells #[.int .u32 x.slot,.int .u64 x.dl,.int .u64 x.birth] 226)):=(Mod.refl _ w).alloc _;have h3:=zi (w:=w) (o := .cells #[.int .u32 x.slot,.int .u64 x.dl,.int .u64 x.birth] 226 (0,0)) rfl;have HC:=za (h.pure hal);have n1:bm≠w.heap.size:=fun e=>by have:=h.what.own.lt;omega
 have n2:bb≠w.heap.size:=fun e=>by have:=h.births.own.lt;omega
 have HX:=za hx;have HM:=za hM;have HM2:=za hM2;have HAL:=za hal;obtain⟨ne1,ne2,ne3⟩:=h.ne;clear h hx hM hM2 hal;unfold tdV;go_enter func287,ntmps287;go_upto_region 1 with fail
 generalize w.alloc (.cells #[.int .u32 x.slot,.int .u64 x.dl,.int .u64 x.birth] 226)=W1 at *;generalize w.heap.size=b3 at *;obtain⟨c0,c9,c10,_,_⟩:=HC.out.box.cells;have H3:=za h3;obtain⟨h3_0,h3_1,h3_2,h3_f,h3_l,H_h3⟩:=cr3 h3;clear h3
 go_still_tail 6,(by kernel_rfl)
 go_upto_region 2 with(at_delete;refine Yp _ rfl _ _ 213 114 rfl 226 vk underlying213 kv bm M.length Dm rfl HC.out.what.own.drew (.int .u32 x.slot) (kS x.slot) rfl (uv hs) ?_;intro w2 ho2 ht2;go_frame)
 have hm2:Mod (fun k=>k=bm) W1 w2:=Mod.of_drew (Mod.of_grown ht2.grown (fun k e _=>by cases e;rfl));have hbx2:=HC.out.box.mod hm2 (fun e=>ne2 e.symm);have hbi2:=HC.out.births.mod hm2 (fun e=>ne1 e.symm);have h32:=hm2.heap (fun e=>n1 e.symm) H3.out;have hT2:=HC.out.what.del HX.out HM.out hl ho2;have HM2':=za hm2;have HT2:=za hT2;have HBI2:=za hbi2;clear h3_0 h3_1 h3_2 h3_f h3_l;clear H_h3 c0 c9 c10 ho2 ht2 hm2 hbi2 hT2;obtain⟨c0,c9,c10,_,_⟩:=hbx2.cells;clear hbx2;obtain⟨h32_0,h32_1,h32_2,h32_f,h32_l,H_h32⟩:=cr3 h32;clear h32
 go_still_tail 6,(by kernel_rfl)
 go_wp2_with (at_delete;refine Yp _ rfl _ _ 295 22 rfl 358 kr underlying295 unitElem bb M.length Db rfl HBI2.out.own.drew (.int .u64 x.birth) (kB x.birth) rfl (qS hb) ?_;intro w3 ho3 ht3;go_frame)
 have hm3:Mod (fun k=>k=bb) w2 w3:=Mod.of_drew (Mod.of_grown ht3.grown (fun k e _=>by cases e;rfl));have hB3:=HBI2.out.del HX.out HM2.out hl ho3;have hmm:Mod (fun k=>k=bm∨k=bb) W1 w3:=(HM2'.out.mono (fun _ _ h=>Or.inl h)).trans (hm3.mono (fun _ _ h=>Or.inr h))
 go_end0
 refine⟨rfl,⟨_,_,HC.out.box.mod hmm (fun e=>by rcases e with e | e;exact ne2 e.symm;exact ne3 e.symm),HT2.out.mod hm3 (fun e=>ne1 e),hB3,HC.out.len,fun l q Ls hq hL=>(HC.out.lev l q Ls hq hL).frame hmm (fun k hk e => ?_),HC.out.apart,HC.out.own,HC.out.ne,HC.out.dd⟩,(HAL.out.mono (fun _ _ h=>h.elim)).trans hmm⟩;have hl8:l<8:=by have:=(zF.1 hL).1;rw[HC.out.len]at this;exact this
 obtain⟨_,o2,o3⟩:=HC.out.own l k hl8 hk;rcases e with e | e
 ·exact o2 e
 ·exact o3 e
end
section
variable{w w':World}{D:Nat→Prop}{p now:Nat}{ws:List Nat}{bm bb:Nat}{Ds:Nat→Nat→Prop}{Dm Db:DataW Unit}{M:List Td}{Lss:List (List (List Nat))}
def kD{α:Type}(f:Nat→α)(l:Nat)(v:α):Nat→α:=fun k=>if k=l then v else f k
theorem yq.level(h:yq w D p now ws bm bb Ds Dm Db M Lss){l q:Nat}{Ls':List (List Nat)}{D':Nat→Prop}(hl:l<8)(hq:ws[l]? = some q)(hw:yV w' D' q Ls')(hg:yi (Ds l) D' w)(hm:Mod (Ds l) w w') :
  ∃ D2,yq w' D2 p now ws bm bb (kD Ds l D') Dm Db M (Lss.set l Ls')∧yi D D2 w:=by
 have hlt : ∀ k,D k→k<w.heap.size:=fun k hk=>h.lt hk
 have inD : ∀ {l' k:Nat},l'<8→Ds l' k→D k:=fun hl' hk=>(h.dd _).2 (.inr (.inr (.inr ⟨_,hl',hk⟩)))
 have o:=fun k=>h.own l k hl
 refine⟨fun k=>k=p∨k=bm∨k=bb ∨ ∃ l',l'<8∧kD Ds l D' l' k,⟨h.box.mod hm (fun e=>(o p e).1 rfl),h.what.mod hm (fun e=>(o bm e).2.1 rfl),h.births.mod hm (fun e=>(o bb e).2.2 rfl),by rw[xH];exact h.len,fun l2 q2 Ls2 hq2 hl2 => ?_,fun l2 l3 k h2 h3 hne hk => ?_,fun l2 k h2 hk => ?_,h.ne,fun k=>vE⟩,fun k hk => ?_⟩
 ·unfold kD;by_cases e:l2=l
  ·subst e;rw[zk rfl];rw[yo (by rw[h.len];exact hl)]at hl2
   cases hl2
   rw[hq]at hq2
   cases hq2
   exact hw
  ·rw[zh e];rw[yx (fun c=>e c.symm)]at hl2;have hl8:l2<8:=by have:=(zF.1 hl2).1;rw[h.len]at this;exact this
   exact(h.lev l2 q2 Ls2 hq2 hl2).frame hm (fun k hk hk2=>h.apart l2 l k hl8 hl e hk hk2)
 ·unfold kD at hk ⊢;by_cases e:l2=l
  ·rw[zk e]at hk;have e3:l3≠l:=fun c=>hne (by rw[e,c])
   rw[zh e3];intro hk3;rcases hg k hk with c | c
   ·exact h.apart l l3 k hl h3 (fun c=>e3 c.symm) c hk3
   ·have:=hlt k (inD h3 hk3);omega
  ·rw[zh e]at hk;by_cases e3:l3=l
   ·rw[zk e3];intro hk3;rcases hg k hk3 with c | c
    ·exact h.apart l2 l k h2 hl e hk c
    ·have:=hlt k (inD h2 hk);omega
   ·rw[zh e3];exact h.apart l2 l3 k h2 h3 hne hk
 ·unfold kD at hk;by_cases e:l2=l
  ·rw[zk e]at hk;rcases hg k hk with c | c
   ·exact o k c
   ·have a1:=hlt p ((h.dd p).2 (.inl rfl));have a2:=hlt bm ((h.dd bm).2 (.inr (.inl rfl)));have a3:=hlt bb ((h.dd bb).2 (.inr (.inr (.inl rfl))));omega
  ·rw[zh e]at hk;exact h.own l2 k h2 hk
 ·rcases hk with e | e | e | ⟨l2,h2,hk⟩
  ·exact .inl ((h.dd k).2 (.inl e))
  ·exact .inl ((h.dd k).2 (.inr (.inl e)))
  ·exact .inl ((h.dd k).2 (.inr (.inr (.inl e))))
  ·unfold kD at hk;by_cases e:l2=l
   ·rw[zk e]at hk;rcases hg k hk with c | c
    ·exact .inl (inD hl c)
    ·exact .inr c
   ·rw[zh e]at hk;exact .inl (inD h2 hk)
end
section
variable{w w':World}{D:Nat→Prop}{p now:Nat}{ws:List Nat}{bm bb:Nat}{Ds:Nat→Nat→Prop}{Dm Db:DataW Unit}{M:List Td}{Lss:List (List (List Nat))}
def Vr(M:List Td)(x:Td)(M':List Td):Prop:=(∀ y∈M,y.slot≠x.slot)∧(∀ y∈M,y.birth≠x.birth)∧M'=x::M∨x∈M∧(∀ y∈M,y.slot=x.slot→y=x)∧M'=M
theorem yL.putC{b:Nat}{x:Td}{M':List Td}(h:yL w b M Dm)(hc:Vr M x M')(ho:w'.ownsMap prog 114 kv b (M.length+1) (Dm.put (kS x.slot) (tdD x))):yL w' b M' (Dm.put (kS x.slot) (tdD x)):=by
 rcases hc with⟨h1,_,rfl⟩ | ⟨h1,h2,rfl⟩
 ·exact h.put h1 ho
 ·exact h.again h1 h2 ho
theorem xS.putC{b:Nat}{x:Td}{M':List Td}(h:xS w b M Db)(hc:Vr M x M')(ho:w'.ownsMap prog 22 unitElem b (M.length+1) (Db.put (kB x.birth) (.agg []))):xS w' b M' (Db.put (kB x.birth) (.agg [])):=by
 rcases hc with⟨_,h1,rfl⟩ | ⟨h1,h2,rfl⟩
 ·exact h.put h1 ho
 ·exact h.again h1 ho
theorem Azur6 {P:Prop}(h:P:=by
 rcases hk with rfl | rfl
 ·exact(HC0.out.dd k).2 (.inr (.inl rfl))
 ·exact(HC0.out.dd k).2 (.inr (.inr (.inl rfl)))):P:=h
theorem za6(h:yq w D p now ws bm bb Ds Dm Db M Lss){x:Td}{M':List Td}(hs:x.slot<4194304)(hd:x.dl<18446744073709551616)(hb:x.birth≤18446744073709551615)(hne:x.dl≠now)(hMl:M.length<maxLen){Ls:List (List Nat)}{L:List Nat}
  (hL:Lss[lvl now x.dl]? = some Ls) (hK:Ls[bkt now x.dl]? = some L) (hf : ¬ inL Ls x.slot) (hc:Vr M x M') :
  Calls prog 289 #[lkP p,tdV x] w fun e w'=>e=.returned (.tuple #[])∧(∃ D' Ds' Dm' Db',yq w' D' p now ws bm bb Ds' Dm' Db' M' (Lss.set (lvl now x.dl) (Ls.set (bkt now x.dl) (L++[x.slot])))∧yi D D' w)∧Mod D w w':=by
 have hal:zb w (w.alloc (.cells #[.int .u32 x.slot,.int .u64 x.dl,.int .u64 x.birth] 226)):=(Mod.refl _ w).alloc _;have h3:=zi (w:=w) (o := .cells #[.int .u32 x.slot,.int .u64 x.dl,.int .u64 x.birth] 226 (0,0)) rfl;have hl8:lvl now x.dl<8:=(uR h.box.now hd).1;have hbk:bkt now x.dl<256:=Y5;obtain⟨q,hq⟩ : ∃ q,ws[lvl now x.dl]? = some q:=⟨_,zN (by rw[h.box.len];exact hl8)⟩;have HPl:=za (Jb (h.pure hal).box hd hne);obtain⟨lv,hlv⟩:=zc (lvl now x.dl);obtain⟨bk,hbk2⟩:=zc (bkt now x.dl);rw[hlv]at hl8 hq hL HPl ⊢;rw[hbk2]at hbk hK HPl ⊢;have nD : ∀ k,D k→k≠w.heap.size:=fun k hk e=>by have:=h.lt hk;omega
 have HC0:=za h;have HC:=za (h.pure hal);have HND:=za nD;have HAL:=za hal;have HL:=za hL;have HK:=za hK;have HF:=za hf;have HCa:=za hc;have HQ:=za hq;clear h hal nD hL hK hf hc hq hlv hbk2 hne;obtain⟨ne1,ne2,ne3⟩:=HC0.out.ne;unfold tdV;go_enter func289,ntmps289;go_upto_region 1 with fail
 generalize w.alloc (.cells #[.int .u32 x.slot,.int .u64 x.dl,.int .u64 x.birth] 226)=W1 at *;obtain⟨b3,hb3⟩:=zc w.heap.size;rw[hb3]at h3 HND ⊢;have HB3:=za hb3;have H3:=za h3;clear hb3;obtain⟨h3_0,h3_1,h3_2,h3_f,h3_l,H_h3⟩:=cr3 h3;clear h3;go_upto_region 2 with(go_at_call 285;refine HPl.out.mono ?_;rintro e w2 ⟨rfl,hp2⟩)
 have h32:=hp2.heap (fun h=>h) H3.out;have HC2:=za (HC.out.pure hp2);have hcl:=HC2.out.box.level HQ.out;obtain⟨c0,c9,c10,_,_⟩:=HC2.out.box.cells;have H32:=za h32;have HP2:=za hp2;clear h3_0 h3_1 h3_2 h3_f h3_l;clear H_h3 HC hp2 HPl;obtain⟨h32_0,h32_1,h32_2,h32_f,h32_l,H_h32⟩:=cr3 h32;clear h32;have dl8:decide (lv<8)=true:=zL hl8;have l0:(0:Int)≤(lv:Int):=by omega
 have l1:(lv:Int)<8:=by omega
 have HPu:=za (zmd ((HC2.out.lev lv q Ls HQ.out HL.out).pure ((Mod.refl _ w2).drew:zb w2 w2.drew)) hs HK.out HF.out)
 go_still_tail 9,(by kernel_rfl)
 go_upto_region 3 with(go_at_call 334;refine HPu.out.mono ?_;rintro e w3 ⟨rfl,⟨D3,hw3,hg3⟩,hm3⟩)
 have hm3':Mod (Ds lv) w2 w3:=Mod.of_drew hm3;have inD : ∀ k,Ds lv k→D k:=fun k hk=>(HC0.out.dd k).2 (.inr (.inr (.inr ⟨lv,hl8,hk⟩)))
 have hg3':yi (Ds lv) D3 w2:=hg3;obtain⟨D4,hC3,hg4⟩:=HC2.out.level hl8 HQ.out hw3 hg3' hm3';have h33:=hm3'.heap (fun e=>HND.out b3 (inD b3 e) rfl) H32.out;have HC3:=za hC3;have HG4:=za hg4;have HM3:=za (hm3'.mono (fun k _ hk=>inD k hk):Mod D w2 w3);have H33:=za h33;clear h32_0 h32_1 h32_2 h32_f h32_l;clear H_h32 hw3 hg3 hm3 hm3' inD hg3' hC3 hg4 HPu c0 c9 c10 hcl dl8;obtain⟨c0,c9,c10,_,_⟩:=HC3.out.box.cells;have nb1:bm≠b3:=fun e=>HND.out bm ((HC0.out.dd bm).2 (.inr (.inl rfl))) e
 have nb2:bb≠b3:=fun e=>HND.out bb ((HC0.out.dd bb).2 (.inr (.inr (.inl rfl)))) e
 obtain⟨h33_0,h33_1,h33_2,h33_f,h33_l,H_h33⟩:=cr3 h33;clear h33
 go_still_tail 7,(by kernel_rfl)
 go_upto_region 4 with(at_mapUpdate;refine Xc _ rfl _ _ _ 213 rfl 114 226 vk underlying213 kv bm M.length Dm rfl HC3.out.what.own.drew hMl (.int .u32 x.slot) (tdV x) (kS x.slot) rfl rfl (uv (by omega)) (tdD x) [] (Ys x) ?_;intro w4 ho4 hg4;go_frame)
 have hm4:Mod (fun k=>k=bm) w3 w4:=Mod.of_drew (Mod.of_grown hg4 (fun k e _=>by cases e;rfl));have hbx4:=HC3.out.box.mod hm4 (fun e=>ne2 e.symm);have hT4:=HC3.out.what.putC HCa.out ho4;have hB4:=HC3.out.births.mod hm4 (fun e=>ne1 e.symm);have h34:=hm4.heap (fun e=>nb1 e.symm) H33.out;have HM4:=za hm4;have HT4:=za hT4;have HB4:=za hB4;clear h33_0 h33_1 h33_2 h33_f h33_l;clear H_h33 hm4 hT4 hB4 ho4 hg4 c0 c9 c10;obtain⟨c0,c9,c10,_,_⟩:=hbx4.cells;clear hbx4;obtain⟨h34_0,h34_1,h34_2,h34_f,h34_l,H_h34⟩:=cr3 h34;clear h34
 go_still_tail 7,(by kernel_rfl)
 go_wp2_with (at_mapUpdate;refine Xc _ rfl _ _ _ 295 rfl 22 358 kr underlying295 unitElem bb M.length Db rfl HB4.out.own.drew hMl (.int .u64 x.birth) (.agg #[]) (kB x.birth) rfl rfl (qS hb) (.agg []) [] unitElem_mk ?_;intro w5 ho5 hg5;go_frame)
 have hm5:Mod (fun k=>k=bb) w4 w5:=Mod.of_drew (Mod.of_grown hg5 (fun k e _=>by cases e;rfl));have hB5:=HB4.out.putC HCa.out ho5;have hmm:Mod (fun k=>k=bm∨k=bb) w3 w5:=(HM4.out.mono (fun _ _ h=>Or.inl h)).trans (hm5.mono (fun _ _ h=>Or.inr h));have hsz:w.heap.size≤w2.heap.size:=(HAL.out.trans HP2.out).size
 go_end0
 refine⟨rfl,⟨D4,_,_,_,⟨HC3.out.box.mod hmm (fun e=>by rcases e with e | e;exact ne2 e.symm;exact ne3 e.symm),HT4.out.mod hm5 (fun e=>ne1 e),hB5,HC3.out.len,fun l q Ls hq hL=>(HC3.out.lev l q Ls hq hL).frame hmm (fun k hk e => ?_),HC3.out.apart,HC3.out.own,HC3.out.ne,HC3.out.dd⟩,fun k hk => ?_⟩,?_⟩
 ·have hl9:l<8:=by have:=(zF.1 hL).1;rw[HC3.out.len]at this;exact this
  obtain⟨_,o2,o3⟩:=HC3.out.own l k hl9 hk;rcases e with e | e
  ·exact o2 e
  ·exact o3 e
 ·rcases HG4.out k hk with e | e
  ·exact .inl e
  ·exact .inr (zH hsz e)
 ·refine((HAL.out.trans HP2.out).mono (fun _ _ h=>h.elim):Mod D w w2).trans (HM3.out.trans (hmm.mono (fun k _ hk => ?_)));exact Azur6
end
section
variable{w w':World}{D:Nat→Prop}{p now:Nat}{ws:List Nat}{bm bb:Nat}{Ds:Nat→Nat→Prop}{Dm Db:DataW Unit}{M:List Td}{Lss:List (List (List Nat))}
abbrev zTd:Td:=⟨0,0,0⟩
def getTd(M:List Td)(s:Nat):Td × Int:=if s<4194304 then(match M.find? (fun x=>x.slot==s)with | some x=>(x,0) | none=>(zTd,9))else(zTd,2)
theorem Xo{s:Nat}{x:Td}(hs:s<4194304)(hx:M.find? (fun x=>x.slot==s)=some x):getTd M s=(x,0):=by unfold getTd;rw[zk hs,hx]
theorem Y3{s:Nat}(hs:s<4194304)(hx:M.find? (fun x=>x.slot==s)=none):getTd M s=(zTd,9):=by unfold getTd;rw[zk hs,hx]
theorem Ut{s:Nat}(hs : ¬ s<4194304):getTd M s=(zTd,2):=by unfold getTd;rw[zh hs]
theorem Qf(h:yq w D p now ws bm bb Ds Dm Db M Lss){s:Nat}(h32:s≤4294967295) :
  Calls prog 284 #[lkP p,.int .u32 s] w fun e w'=>e=.returned (.tuple #[tdV (getTd M s).1,.int .i64 (getTd M s).2])∧zb w w':=by
 have hal:zb w (w.alloc (.cells #[.int .u32 0,.int .u64 0,.int .u64 0] 226)):=(Mod.refl _ w).alloc _;have h4:=zi (w:=w) (o := .cells #[.int .u32 0,.int .u64 0,.int .u64 0] 226 (0,0)) rfl;have HC:=za (h.pure hal);have HCk:=za (Ko (h.pure hal).box h32);obtain⟨c0,c9,c10,_,_⟩:=(h.pure hal).box.cells;have HAL:=za hal;clear hal;by_cases hs:s<4194304
 ·have hse:qK s=0:=by unfold qK;rw[zk hs]
  rw[hse]at HCk
  cases hf:M.find? (fun x=>x.slot==s)with
  | some x =>
   have hxM:=Zo hf;have hxs:x.slot=s:=by have:=Xe hf;simpa using this
   subst hxs;have hlk:=HC.out.what.look hxM (by omega);rw[Xo hs hf];unfold tdV at hlk ⊢;clear h hf hxM hse;go_enter func284,ntmps284;go_upto_region 1 with fail
   generalize w.alloc (.cells #[.int .u32 0,.int .u64 0,.int .u64 0] 226)=W1 at *;obtain⟨b4,hb4⟩:=zc w.heap.size;rw[hb4]at h4 ⊢;have hb4':w.heap.size≤b4:=by omega
   clear hb4;obtain⟨h4_0,h4_1,h4_2,h4_f,h4_l,H_h4⟩:=cr3 h4;clear h4
   go_wp2_with (go_at_call 233;refine HCk.out.mono ?_;rintro e w' ⟨rfl,rfl⟩)
   have hpp:=HAL.out;refine zK (v := .tuple #[.agg #[.int .u32 x.slot,.int .u64 x.dl,.int .u64 x.birth],.int .i64 0]) (by simp[results,results284,go_sem,h4_0,h4_1,h4_2,h4_l]) rfl ⟨rfl,?_⟩;exact xb
  | none =>
   have hnx : ∀ x∈M,x.slot≠s:=fun x hx e=>by have:=jb.1 hf x hx;simp[e]at this
   have hlk:=HC.out.what.look_no (s:=s) (by omega) hnx;rw[Y3 hs hf];unfold tdV at hlk ⊢;clear h hf hnx hse;go_enter func284,ntmps284;go_upto_region 1 with fail
   generalize w.alloc (.cells #[.int .u32 0,.int .u64 0,.int .u64 0] 226)=W1 at *;obtain⟨b4,hb4⟩:=zc w.heap.size;rw[hb4]at h4 ⊢;have hb4':w.heap.size≤b4:=by omega
   clear hb4;obtain⟨h4_0,h4_1,h4_2,h4_f,h4_l,H_h4⟩:=cr3 h4;clear h4
   go_wp2_with (go_at_call 233;refine HCk.out.mono ?_;rintro e w' ⟨rfl,rfl⟩)
   have hpp:=HAL.out;refine zK (v := .tuple #[.agg #[.int .u32 0,.int .u64 0,.int .u64 0],.int .i64 9]) (by simp[results,results284,go_sem,h4_0,h4_1,h4_2,h4_l]) rfl ⟨rfl,?_⟩;exact xb
 ·have hse:qK s=2:=by unfold qK;rw[zh hs]
  rw[hse]at HCk;rw[Ut hs];unfold tdV;clear h hse;go_enter func284,ntmps284;go_upto_region 1 with fail
  generalize w.alloc (.cells #[.int .u32 0,.int .u64 0,.int .u64 0] 226)=W1 at *;obtain⟨b4,hb4⟩:=zc w.heap.size;rw[hb4]at h4 ⊢;have hb4':w.heap.size≤b4:=by omega
  clear hb4;obtain⟨h4_0,h4_1,h4_2,h4_f,h4_l,H_h4⟩:=cr3 h4;clear h4
  go_wp2_with (go_at_call 233;refine HCk.out.mono ?_;rintro e w' ⟨rfl,rfl⟩)
  have hpp:=HAL.out;refine zK (v := .tuple #[.agg #[.int .u32 0,.int .u64 0,.int .u64 0],.int .i64 2]) (by simp[results,results284,go_sem,h4_0,h4_1,h4_2,h4_l]) rfl ⟨rfl,?_⟩;exact xb
end
end
end Go.Proofs.YtpplkcnknabofaaGreatDoor
