/- Lemmas and contracts of functions. No condition. -/
import Derived.Test.YtdohbogbnheakaaGreatDoorJPfBoth405
import Derived.Test.YtdohbogbnheakaaGreatDoorRows
import Derived.Test.YtdohbogbnheakaaGreatDoorCards
import Derived.SevenTiedAt
namespace Go.Proofs.YtdohbogbnheakaaGreatDoor
open _root_.Go.Proofs.Tryz
set_option maxRecDepth 100000
set_option maxHeartbeats 20000000
set_option linter.all false
section
open Go.RowKit Go.Shelf
def yQ(n:Nat):Nat:=if n=0 then 0 else Nat.log2 n+1
theorem zaO(n:Nat):n<2 ^ yQ n:=by
 unfold yQ;split
 ·rename_i h;subst h;decide
 ·exact Nat.lt_log2_self
theorem JS{n k:Nat}(h:n<2 ^ k):yQ n≤k:=by
 unfold yQ;split
 ·exact yi _
 ·rename_i h0;exact(Nat.log2_lt h0).2 h
theorem ZR{n j:Nat}(h:2 ^ j≤n):yQ n=yQ (n/2 ^ j)+j:=by
 have hp:=Nat.pow_pos (n:=j) (show 0<2 by decide);have h0:n≠0:=by omega
 have h1:n/2 ^ j≠0:=by have:=Nat.div_pos h hp;omega
 have e:n.log2=(n/2 ^ j).log2+j:=by
  have h2:(n/2 ^ j)<2 ^ ((n/2 ^ j).log2+1):=Nat.lt_log2_self;have h3:2 ^ (n/2 ^ j).log2≤n/2 ^ j:=Nat.log2_self_le h1;have h4:2 ^ ((n/2 ^ j).log2+j)≤n:=by
   rw[Nat.pow_add];have:=Xn (2 ^ j) h3;exact zH this (Nat.div_mul_le_self n _)
  have h5:n<2 ^ ((n/2 ^ j).log2+j+1):=by
   have h6:=Nat.lt_mul_of_div_lt h2 hp;rw[show(n/2 ^ j).log2+j+1=j+((n/2 ^ j).log2+1) by omega,Nat.pow_add];rw[Nat.mul_comm];exact h6
  have h7:n.log2<(n/2 ^ j).log2+j+1:=(Nat.log2_lt h0).2 h5;have h8 : ¬ n.log2<(n/2 ^ j).log2+j:=fun h=>by have:=(Nat.log2_lt h0).1 h;omega
  omega
 unfold yQ;rw[zh h0,zh h1,e];omega
theorem zgF(s:ByteArray)(hs:s.size=256)(h : ∀ k (hk:k<256),wrap64 ((s[k]'(by omega)).toNat:Int)=yQ k)(m:Nat)(hm:m<256)(hms:m<s.size):wrap64 ((s[m]'hms).toNat:Int)=yQ m:=h m hm
theorem qI(y:Int)(s:ByteArray)(hs:s.size=256)(h : ∀ k (hk:k<256),wrap64 ((s[k]'(by omega)).toNat:Int)=yQ k)(m:Nat)(hm:m<256)(hms:m<s.size)(n:Nat)(hb:(yQ n:Int)=y+yQ m)(h0:0≤y∧y≤100) :
  wrap64 (y+wrap64 ((s[m]'hms).toNat:Int))=(yQ n:Int):=by
 rw[zgF s hs h m hm hms,← hb];have:yQ m≤8:=JS (by omega);exact IntWalk.wrap64_in _ (by omega)
theorem zdF(s:ByteArray)(hs:s.size=256)(h : ∀ k (hk:k<256),wrap64 ((s[k]'(by omega)).toNat:Int)=yQ k)(m:Nat)(hm:m<256)(hms:m<s.size):wrap64 (wrap64 ((s[m]'hms).toNat:Int))=(yQ m:Int):=by
 have:=qI 0 s hs h m hm hms m (by omega) (by omega)
 rwa [Int.zero_add]at this
theorem zcc(n:Nat)(hn:n<4294967296)(w:World):Calls prog 152 #[.int .u64 n] w fun e w'=>e=.returned (.int .i64 (yQ n))∧w=w':=by
 have d0:decide (4294967296≤(n:Int))=false:=zR (by omega);have n0:(0:Int)≤n:=by omega
 by_cases c1:65536≤n
 ·have d1:decide (65536≤(n:Int))=true:=zP (by omega);have hb:=ZR (n:=n) (j:=16) c1;obtain⟨k,hk⟩:=zf (n/2 ^ 16);have e1:(n:Int)/65536=(k:Int):=by omega
  have hk2:k<65536:=by omega
  rw[hk]at hb;have k0:(0:Int)≤k:=by omega
  by_cases c2:256≤k
  ·have d2:decide (256≤(k:Int))=true:=zP (by omega);have hb2:=ZR (n:=k) (j:=8) c2;obtain⟨m,hm⟩:=zf (k/2 ^ 8);have e2:(k:Int)/256=(m:Int):=by omega
   have hm2:m<256:=by omega
   rw[hm]at hb2;have m0:(0:Int)≤m:=by omega
   have m1:(m:Int)<256:=by omega
   have w8:IntKind.u8.wrap (m:Int)=m:=by simp[IntKind.wrap,IntKind.signed,IntKind.bits];omega
   go_enter func152,ntmps152;go_wp2;go_ret;exact⟨congrArg (fun x=>Ending.returned (.int .i64 x)) (qI 24 _ (by decide) (by decide +kernel) m hm2 _ n (by omega) (by omega)),rfl⟩
  ·have d2:decide (256≤(k:Int))=false:=zR (by omega);have m1:(k:Int)<256:=by omega
   have w8:IntKind.u8.wrap (k:Int)=k:=by simp[IntKind.wrap,IntKind.signed,IntKind.bits];omega
   go_enter func152,ntmps152;go_wp2;go_ret;exact⟨congrArg (fun x=>Ending.returned (.int .i64 x)) (qI 16 _ (by decide) (by decide +kernel) k (by omega) _ n (by omega) (by omega)),rfl⟩
 ·have d1:decide (65536≤(n:Int))=false:=zR (by omega);by_cases c2:256≤n
  ·have d2:decide (256≤(n:Int))=true:=zP (by omega);have hb2:=ZR (n:=n) (j:=8) c2;obtain⟨m,hm⟩:=zf (n/2 ^ 8);have e2:(n:Int)/256=(m:Int):=by omega
   have hm2:m<256:=by omega
   rw[hm]at hb2;have m0:(0:Int)≤m:=by omega
   have m1:(m:Int)<256:=by omega
   have w8:IntKind.u8.wrap (m:Int)=m:=by simp[IntKind.wrap,IntKind.signed,IntKind.bits];omega
   go_enter func152,ntmps152;go_wp2;go_ret;exact⟨congrArg (fun x=>Ending.returned (.int .i64 x)) (qI 8 _ (by decide) (by decide +kernel) m hm2 _ n (by omega) (by omega)),rfl⟩
  ·have d2:decide (256≤(n:Int))=false:=zR (by omega);have m1:(n:Int)<256:=by omega
   have w8:IntKind.u8.wrap (n:Int)=n:=by simp[IntKind.wrap,IntKind.signed,IntKind.bits];omega
   go_enter func152,ntmps152;go_wp2;go_ret;exact⟨congrArg (fun x=>Ending.returned (.int .i64 x)) (zdF _ (by decide) (by decide +kernel) n (by omega) _),rfl⟩
theorem zcJ(n:Nat)(hn:n<4294967296)(w:World):Calls prog 88 #[.int .u64 n] w fun e w'=>e=.returned (.int .i64 (yQ n))∧w=w':=by
 have HL:=za (fun W=>zcc n hn W);go_enter func88,ntmps88
 go_wp2_with (go_at_call 152;refine(HL.out _).mono ?_;rintro e w' ⟨rfl,rfl⟩)
 go_ret;exact⟨rfl,rfl⟩
theorem zeg(n:Nat)(h1:1≤n)(hn:n≤1073741824)(w:World):Calls prog 329 #[.int .i64 n] w fun e w'=>e=.returned (.int .i64 (2 ^ yQ (n-1):Nat))∧w=w':=by
 have HL:=za (fun W=>zcJ (n-1) (by omega) W);have e1:IntKind.i64.wrap ((n:Int)-1)=((n-1:Nat):Int):=by rw[zt _ (by omega)];omega
 have e2:IntKind.u64.wrap ((n-1:Nat):Int)=((n-1:Nat):Int):=kr _ (by omega);have hb:yQ (n-1)≤30:=JS (by omega);have b0:(0:Int)≤(yQ (n-1):Int):=by omega
 generalize n-1=m at *;generalize yQ m=k at *;go_enter func329,ntmps329
 go_wp2_with (go_at_call 88;refine(HL.out _).mono ?_;rintro e w' ⟨rfl,rfl⟩)
 go_ret;refine⟨?_,rfl⟩;have hk:2 ^ k≤2 ^ 30:=Zt (by decide) hb;have e3:(2:Int) ^ k=((2 ^ k:Nat):Int):=by simp
 have e4:wrap64 ((2:Int) ^ k)=((2 ^ k:Nat):Int):=by rw[e3];exact jA _ (by omega)
 exact congrArg (fun x=>Ending.returned (.int .i64 x)) e4
def jX(live:Nat):Nat:=2 ^ yQ (4*live+15)
theorem zci(live:Nat):4*live+16≤jX live:=by have:=zaO (4*live+15);unfold jX;omega
theorem zfn{live:Nat}(hlt:jX live<8388608) : ∃ k,k≤19∧jX live=8*2 ^ k:=by
 have h1:=zci live;unfold jX at h1 hlt ⊢;obtain⟨b,hb⟩:=zf (yQ (4*live+15));rw[hb]at h1 hlt ⊢;have h3:3≤b:=by
  by_cases c:3≤b
  ·exact c
  ·have:2 ^ b≤2 ^ 2:=Zt (by decide) (by omega);omega
 have h23:b<23:=by
  by_cases c:b<23
  ·exact c
  ·have:2 ^ 23≤2 ^ b:=Zt (by decide) (by omega);omega
 refine⟨b-3,by omega,?_⟩;rw[show b=3+(b-3) by omega,Nat.pow_add];simp
theorem zje(live:Nat)(hn:live≤7340032)(w:World):Calls prog 279 #[.int .i64 live] w fun e w'=>e=.returned (.int .i64 (jX live))∧w=w':=by
 have HL:=za (fun W=>zeg (4*live+16) (by omega) (by omega) W);have e0:4*live+16-1=4*live+15:=by omega
 rw[e0]at HL;have e1:IntKind.i64.wrap (4*(live:Int))=4*(live:Int):=zt _ (by omega);have e2:IntKind.i64.wrap (4*(live:Int)+16)=((4*live+16:Nat):Int):=by rw[zt _ (by omega)];omega
 unfold jX;generalize 4*live+16=z at *;generalize 2 ^ yQ (4*live+15)=r at *;go_enter func279,ntmps279
 go_wp2_with (go_at_call 329;refine(HL.out _).mono ?_;rintro e w' ⟨rfl,rfl⟩)
 go_ret;exact⟨rfl,rfl⟩
def uy(g live:Nat):Nat × Bool:=if live≤7340032∧jX live<8*g then(jX live/8,true)else(g,false)
def zc7(w:World)(x:Nat × Bool)(e:Ending)(w':World):Prop:=e=.returned (.tuple #[.agg #[.int .i64 (x.1:Nat),.bool x.2],.int .i64 0])∧zc w w'
theorem zj1{g live:Nat}(hg:Pow g):Pow (uy g live).1∧((uy g live).2=true→live<8*(uy g live).1)∧((uy g live).2=false→(uy g live).1=g):=by
 have hle:=hg.le;unfold uy;split
 ·rename_i h;obtain⟨k,hk,e⟩:=zfn (live:=live) (by omega);have h1:=zci live;rw[e,show 8*2 ^ k/8=2 ^ k by omega];refine⟨⟨k,by omega,rfl⟩,fun _ => ?_,by simp⟩;dsimp only;omega
 ·exact⟨hg,by simp,fun _=>rfl⟩
theorem Azupl {P:Prop}(h:P:=by
 obtain⟨f1,x0,x1⟩:=jD (v0 := .int .i64 g) (v1 := .bool false) H_hh6.out HP.out (by have:=HB6.out;omega) rfl;obtain⟨Y,hY⟩:=zf ((w1.setCell ⟨b6,0,none⟩ (.int .i64 g)).setCell ⟨b6,1,none⟩ (.bool false));rw[hY]at f1 x0 x1 ⊢;rw[← HR.out];exact zN (v := .tuple #[.agg #[.int .i64 g,.bool false],.int .i64 0]) (by simp[results,results217,go_sem,x0,x1]) rfl ⟨rfl,f1⟩):P:=h
theorem ziT{g live tombs:Nat}(hg:Pow g)(h:live+tombs≤8*g)(w:World):Calls prog 217 #[.int .i64 g,.int .i64 live,.int .i64 tombs] w (zc7 w (uy g live)):=by
 have hg1:=hg.le;have HC:=za (fun W=>Qr hg h W);have wg:IntKind.i64.wrap ((g:Int)*8)=(g:Int)*8:=zt _ (by omega);obtain⟨r,hr⟩:=zf (uy g live);rw[hr];unfold uy at hr;have hp0:zc w (w.alloc (.cells #[.int .i64 0,.bool false] 293)):=(Mod.refl _ w).alloc _;have h6:=zj (w:=w) (o := .cells #[.int .i64 0,.bool false] 293 (0,0)) rfl;have HP:=za hp0;by_cases c1:live≤7340032
 ·have d1:decide ((live:Int)≤7340032)=true:=zP (by omega);have HB:=za (fun W=>zje live c1 W);obtain⟨bm,hbm⟩:=zf (jX live);rw[hbm]at HB hr;by_cases c2:bm<8*g
  ·have d2:decide ((bm:Int)<(g:Int)*8)=true:=zP (by omega);rw[zk ⟨c1,c2⟩]at hr;obtain⟨q,hq⟩:=zf (bm/8);have e8:wrap64 ((bm:Int)/8)=(q:Int):=by
    rw[show(bm:Int)/8=(q:Int) by omega];exact jA _ (by omega)
   rw[hq]at hr;have HR:=za hr;clear hr hp0 hg h c1 c2 hbm;go_enter func217,ntmps217;go_upto_region 1 with fail
   generalize w.alloc (.cells #[.int .i64 0,.bool false] 293)=W1 at *;obtain⟨b6,hb6⟩:=zf w.heap.size;rw[hb6]at h6 ⊢;have HB6:=za hb6;clear hb6;go_upto_region 2 with(go_at_call 278;refine(HC.out _).mono ?_;rintro e w1 ⟨rfl,hp1⟩)
   have hh6:=hp1.heap (fun h=>h) h6;replace HP:=za (HP.out.trans hp1);clear hp1 h6;obtain⟨hh6_0,hh6_1,hh6_f,hh6_l,H_hh6⟩:=cr2 hh6;clear hh6
   go_wp2_with (go_at_call 279;refine(HB.out _).mono ?_;rintro e w' ⟨rfl,rfl⟩)
   obtain⟨f1,x0,x1⟩:=jD (v0 := .int .i64 q) (v1 := .bool true) H_hh6.out HP.out (by have:=HB6.out;omega) rfl;obtain⟨Y,hY⟩:=zf ((w1.setCell ⟨b6,0,none⟩ (.int .i64 q)).setCell ⟨b6,1,none⟩ (.bool true));rw[hY]at f1 x0 x1 ⊢;rw[← HR.out];exact zN (v := .tuple #[.agg #[.int .i64 q,.bool true],.int .i64 0]) (by simp[results,results217,go_sem,x0,x1]) rfl ⟨rfl,f1⟩
  ·have d2:decide ((bm:Int)<(g:Int)*8)=false:=zR (by omega);rw[zh (fun h=>c2 h.2)]at hr;have HR:=za hr;clear hr hp0 hg h c1 c2 hbm;go_enter func217,ntmps217;go_upto_region 1 with fail
   generalize w.alloc (.cells #[.int .i64 0,.bool false] 293)=W1 at *;obtain⟨b6,hb6⟩:=zf w.heap.size;rw[hb6]at h6 ⊢;have HB6:=za hb6;clear hb6;go_upto_region 2 with(go_at_call 278;refine(HC.out _).mono ?_;rintro e w1 ⟨rfl,hp1⟩)
   have hh6:=hp1.heap (fun h=>h) h6;replace HP:=za (HP.out.trans hp1);clear hp1 h6;obtain⟨hh6_0,hh6_1,hh6_f,hh6_l,H_hh6⟩:=cr2 hh6;clear hh6
   go_wp2_with (go_at_call 279;refine(HB.out _).mono ?_;rintro e w' ⟨rfl,rfl⟩)
   exact Azupl
 ·have d1:decide ((live:Int)≤7340032)=false:=zR (by omega);rw[zh (fun h=>c1 h.1)]at hr;have HR:=za hr;clear hr hp0 hg h c1;go_enter func217,ntmps217;go_upto_region 1 with fail
  generalize w.alloc (.cells #[.int .i64 0,.bool false] 293)=W1 at *;obtain⟨b6,hb6⟩:=zf w.heap.size;rw[hb6]at h6 ⊢;have HB6:=za hb6;clear hb6;go_upto_region 2 with(go_at_call 278;refine(HC.out _).mono ?_;rintro e w1 ⟨rfl,hp1⟩)
  have hh6:=hp1.heap (fun h=>h) h6;replace HP:=za (HP.out.trans hp1);clear hp1 h6;obtain⟨hh6_0,hh6_1,hh6_f,hh6_l,H_hh6⟩:=cr2 hh6;clear hh6;go_wp2;exact Azupl
end
section
open Go.RowKit Go.Shelf
variable{Fo:Nat→Prop}
def Ent.with(x:Ent)(vs:List UInt8)(d:Int):Ent:=⟨x.key,vs,d,x.birth⟩
theorem Ent.Ok.with{x:Ent}(h:x.Ok){vs:List UInt8}(hv:vs.length≤65536)(d:Int):(x.with vs d).Ok:=⟨h.k0,h.k1,hv,h.b0⟩
theorem zks(M:List (Option Ent × Value))(i:Nat)(e e':Ent)(v v':Value)(hi:M[i]? = some (some e,v)):zZ ((M.set i (some e',v')).map Prod.fst)=zZ (M.map Prod.fst):=by
 exact Azmzi
def zeh(Fo:Nat→Prop)(w:World)(D:Nat→Prop)(p i:Nat)(x:Ent)(sv:Value)(M:List (Option Ent × Value))(e:Ending)(w':World):Prop :=
 e=.returned (.int .i64 0) ∧ ∃ v',zU Fo w' D p sv (M.set i (some x,v'))∧Mod D w w'
theorem zkE{w W:World}{D:Nat→Prop}{p g c i:Nat}{x:Ent}{v v':Value}{vs:List UInt8}{d:Int}{M:List (Option Ent × Value)}
  (HL:zU Fo w D p (.slice (some ⟨g,0,none⟩) M.length c) M) (hi:M[i]? = some (some x,v)) (HP:zc w W) (hv:yq W v' (zQ vs)) (hl:vs.length≤65536) (hfr : ∀ g,v'.ownBlock=some g→w.heap.size≤g) :
  zU Fo ((W.setCell ⟨g,i*4+1,none⟩ v').setCell ⟨g,i*4+2,none⟩ (.int .u64 d)) D p (.slice (some ⟨g,0,none⟩) M.length c) (M.set i (some (x.with vs d),v'))∧Mod D w ((W.setCell ⟨g,i*4+1,none⟩ v').setCell ⟨g,i*4+2,none⟩ (.int .u64 d)):=by
 have HW:=HL.pure HP;have hlt:i<M.length:=(zE.1 hi).1;have hgp:=HL.np (g:=g) rfl;have hDg:D g:=(HL.dd g).2 (.inr rfl);have hmod:Mod D W ((W.setCell ⟨g,i*4+1,none⟩ v').setCell ⟨g,i*4+2,none⟩ (.int .u64 d)):=(((Mod.refl D W).setCell (p:=⟨g,i*4+1,none⟩) (fun _=>hDg) _).setCell (p:=⟨g,i*4+2,none⟩) (fun _=>hDg) _);have hnb:=fun k (_:k<W.heap.size) (hk:D k) cs fz=>HW.nobytes hk cs fz
 refine⟨⟨?_,?_,fun e u hm => ?_,HL.dd,?_,fun e u g hm hg hf => ?_,fun k hk=>hmod.lt (HP.lt (HL.flt k hk))⟩,(Mod.of_pure HP).trans hmod⟩
 ·rw[zks M i x _ v v' hi];exact xm (xm HW.box hgp.symm) hgp.symm
 ·have r1:=uR HW.row (i*4+1) v' (by omega);have r2:=uR r1 (i*4+2) (.int .u64 d) (by omega);have e:(((M.flatMap xn).set (i*4+1) v').set (i*4+2) (.int .u64 d))=(M.set i (some (x.with vs d),v')).flatMap xn:=by
   rw[← zbE M i _ (some (x.with vs d),v') hi (.string x.key) v' (.int .u64 d) (.int .u64 x.birth) rfl];have k0:(M.flatMap xn)[i*4]? = some (.string x.key):=by
    have:=uW xn 4 Zm 0 (by omega) M i;rw[hi]at this;simpa[xn]using this
   have k3:(M.flatMap xn)[i*4+3]? = some (.int .u64 x.birth):=by
    have:=uW xn 4 Zm 3 (by omega) M i;rw[hi]at this;simpa[xn]using this
   rw[zcS k0];refine(zcS ?_).symm;rw[yy (by omega),yy (by omega)];exact k3
  rw[e]at r2;rw[xF];exact r2
 ·rcases jI hm with h | h
  ·exact jY (HW.vals e u h) hmod hnb
  ·cases h
   exact jY hv hmod hnb
 ·refine⟨by have:=HL.ok.len;simpa using this,fun e he => ?_⟩;rw[YM]at he;rcases jI he with h | h
  ·exact HL.ok.ent e h
  ·cases h
   exact(HL.ok.ent x (zz.2 ⟨_,yl hi,rfl⟩)).with hl d
 ·rcases jI hm with h | h
  ·exact HL.off e u g h hg hf
  ·cases h
   have:=hfr g hg;have:=HL.flt g hf;omega
theorem zjM{w:World}{D:Nat→Prop}{p:Nat}{sv:Value}{M:List (Option Ent × Value)}(h:zU Fo w D p sv M){i:Nat}{x:Ent}{v:Value}(hi:M[i]? = some (some x,v))(a:Option Addr)(n c:Nat)(vs:List UInt8)(hv:zo w (.slice a n c) 1 (zQ vs))(hl:vs.length≤65536)(d:Int) :
    Calls prog 190 #[.pointer (some ⟨p,0,none⟩),.int .u32 i,.slice a n c,.int .u64 d] w (zeh Fo w D p i (x.with vs d) sv M):=by
  obtain⟨g,cg,rfl,hg,ng,hlt,hn,hc,hf⟩:=h.slot hi;obtain⟨c0,c1,c2,cf⟩:=h.cells;have hok:=h.ok.ent x (zz.2 ⟨_,yl hi,rfl⟩);have hb:(x.birth==0)=false:=by have:=hok.b0;simp;omega
  have s0:w.cell? ⟨g,i*4,none⟩=_:=hc 0 _ rfl;have s1:=hc 1 _ rfl;have s2:=hc 2 _ rfl;have s3:=hc 3 _ rfl;have hn2:n≤65536:=by have:=jH hv;rw[kG]at this;omega
  have hn3:(n:Int)≤65536:=by omega
  obtain⟨va,vl,vc,rfl⟩ : ∃ a n c,v=.slice a n c:=by obtain⟨va,vc,e,_⟩:=qr (h.vals x v (yl hi));exact⟨_,_,_,e⟩
  have HL:=za h;have HI:=za hi;have HV:=za hv;clear h hi hv hc;go_enter func190,ntmps190
  go_wp2_with (first
    | (go_at_call 178;refine zq (Uy p g _ cg i x.birth _ c0 c1 hlt hn s3 hb) ?_;rintro e w' ⟨rfl,rfl⟩)
    | (go_at_call 44;refine zq (Vh a n c _ _ HV.out (by omega)) ?_;rintro e w1 ⟨a1,n1,c1',rfl,hr1,hf1,hp1⟩;have t1:=hp1.cell (fun h=>h) s1;have t2:=hp1.cell (fun h=>h) s2;have tf : ∀ j,w1.frozen? ⟨g,j,none⟩=false:=(fun j=>(Xc (w:=w) (a:=⟨g,j,none⟩) (hp1.block g hg (fun h=>h))).trans (hf j));have HR1:=za hr1;have HP1:=za hp1;have HF1:=za hf1;clear hr1 hf1 hp1))
  go_ret;obtain⟨k1,k2⟩:=zkE (d:=d) HL.out HI.out HP1.out (ZJ HR1.out) hl HF1.out;exact⟨rfl,_,k1,k2⟩
end
section
open Go.RowKit
def Vc:Nat:=18446744073709551615
def kC(t n:Nat):Nat:=if 18446744073709551615-t≤n then 18446744073709551615 else t+n
theorem zlj{t n:Nat}(ht:t≤18446744073709551615)(hn:n≤18446744073709551615)(w:World):Calls prog 82 #[.int .u64 t,.int .u64 n] w fun e w'=>e=.returned (.int .u64 (kC t n:Nat))∧w=w':=by
 have h1:IntKind.u64.wrap ((18446744073709551615:Int)-(t:Int))=((18446744073709551615-t:Nat):Int):=by simp[IntKind.wrap,IntKind.signed,IntKind.bits];omega
 unfold kC;by_cases h:18446744073709551615-t≤n
 ·rw[zk h];have h2:((18446744073709551615-t:Nat):Int)≤(n:Int):=by omega
  go_enter func82,ntmps82;go_wp2;go_ret;exact⟨rfl,rfl⟩
 ·rw[zh h];have h2 : ¬ ((18446744073709551615-t:Nat):Int)≤(n:Int):=by omega
  have h3:IntKind.u64.wrap ((t:Int)+(n:Int))=((t+n:Nat):Int):=by simp[IntKind.wrap,IntKind.signed,IntKind.bits];omega
  go_enter func82,ntmps82;go_wp2;go_ret;exact⟨rfl,rfl⟩
def jG(d t:Nat):Bool:=decide (d≠18446744073709551615)&&decide (d≤t)
theorem zdQ(d t:Nat)(w:World):Calls prog 92 #[.int .u64 d,.int .u64 t] w fun e w'=>e=.returned (.bool (jG d t))∧w=w':=by
 unfold jG;by_cases h:d=18446744073709551615
 ·subst h;go_enter func92,ntmps92;go_wp2;go_ret;exact⟨rfl,rfl⟩
 ·have h1:(((d:Nat):Int) != 18446744073709551615)=true:=by simp;omega
  by_cases h2:d≤t
  ·have h3:((d:Nat):Int)≤((t:Nat):Int):=by omega
   go_enter func92,ntmps92;go_wp2;go_ret;exact⟨by simp[h,h2],rfl⟩
  ·have h3 : ¬ ((d:Nat):Int)≤((t:Nat):Int):=by omega
   go_enter func92,ntmps92;go_wp2;go_ret;exact⟨by simp[h,h2],rfl⟩
def uA(ks n:Nat):Nat:=if vi ks n 1=0 then ks+n+48 else 0
theorem Azb9t {P:Prop}(h:P:=by
 go_wp2_with (go_at_call 188;refine HC.out.mono ?_;rintro e w1 ⟨rfl,hp⟩)
 go_ret2;exact⟨rfl,hp⟩):P:=h
theorem Q1(s:ByteArray)(a:Option Addr)(n c:Nat)(w:World)(hs:s.size≤140737488355328)(hn:n≤140737488355328) :
  Calls prog 120 #[.string s,.slice a n c] w fun e w'=>e=.returned (.tuple #[.int .i64 (uA s.size n:Nat),.int .i64 (vi s.size n 1)])∧zc w w':=by
 have HC:=za (J5 s a n c 1 w hs hn);unfold uA;obtain⟨er,hE⟩:=zf (vi s.size n 1);unfold UT at HC;rw[hE]at HC ⊢;clear hE;have w1:IntKind.i64.wrap ((s.size:Int)+(n:Int))=(s.size:Int)+(n:Int):=zt _ (by omega);have w2:IntKind.i64.wrap ((s.size:Int)+(n:Int)+48)=(s.size:Int)+(n:Int)+48:=zt _ (by omega);by_cases h0:er=0
 ·subst h0;rw[zk rfl];go_enter func120,ntmps120;exact Azb9t
 ·rw[zh h0];have he0:(er != 0)=true:=by simp;omega
  go_enter func120,ntmps120;exact Azb9t
def Xq(ks n:Nat)(b:Int):Bool:=vi ks n b==0
theorem ziH(k:ByteArray)(a:Option Addr)(n c:Nat)(d b:Int)(w:World)(hs:k.size≤140737488355328)(hn:n≤140737488355328) :
  Calls prog 282 #[.agg #[.string k,.slice a n c,.int .u64 d,.int .u64 b]] w fun e w'=>e=.returned (.bool (Xq k.size n b))∧zc w w':=by
 unfold Xq;have hp0:zc w (w.alloc (.cells #[.string k,.slice a n c,.int .u64 d,.int .u64 b] 141)):=(Mod.refl _ w).alloc _;have z:=zj (w:=w) (o:=(.cells #[.string k,.slice a n c,.int .u64 d,.int .u64 b] 141 (0,0))) rfl;have HC:=za (fun W=>J5 k a n c b W hs hn);have HP:=za hp0;clear hp0;unfold UT at HC;obtain⟨er,hE⟩:=zf (vi k.size n b);rw[hE]at HC ⊢;clear hE;go_enter func282,ntmps282;go_upto_region 1 with fail
 generalize w.alloc (.cells #[.string k,.slice a n c,.int .u64 d,.int .u64 b] 141)=W1 at *;generalize w.heap.size=b1 at *;obtain⟨z_0,z_1,z_2,z_3,z_f,z_l,H_z⟩:=cr4 z;clear z
 go_wp2_with (go_at_call 188;refine(HC.out _).mono ?_;rintro e w1 ⟨rfl,hp⟩)
 go_ret;exact⟨rfl,HP.out.trans hp⟩
structure Cfg where
 count:Int
 bytes:Int
 prot:Int
 seed:Nat
 same:Bool
def Cfg.cells(c:Cfg):Array Value:=#[.int .i64 c.count,.int .i64 c.bytes,.int .i64 c.prot,.int .u64 c.seed,.bool c.same]
abbrev Cfg.v(c:Cfg):Value := .agg #[.int .i64 c.count,.int .i64 c.bytes,.int .i64 c.prot,.int .u64 c.seed,.bool c.same]
def uU(n a b:Int):Bool:=decide (a≤n)&&decide (n≤b)
theorem zfN(n a b:Int)(w:World):Calls prog 96 #[.int .i64 n,.int .i64 a,.int .i64 b] w fun e w'=>e=.returned (.bool (uU n a b))∧w=w':=by
 unfold uU;by_cases h1:a≤n
 ·by_cases h2:n≤b
  ·go_enter func96,ntmps96;go_wp2;go_ret;exact⟨by simp[h1,h2],rfl⟩
  ·go_enter func96,ntmps96;go_wp2;go_ret;exact⟨by simp[h1,h2],rfl⟩
 ·go_enter func96,ntmps96;go_wp2;go_ret;exact⟨by simp;omega,rfl⟩
def Cfg.err(c:Cfg):Int:=if uU c.count 1 1048576 then(if uU c.bytes 1 1099511627776 then(if uU c.prot 0 99 then 0 else 242)else 241)else 240
theorem zbP(c:Cfg)(w:World):Calls prog 66 #[c.v] w fun e w'=>e=.returned (.int .i64 c.err)∧zc w w':=by
 obtain⟨cn,cb,cp,sd,sm⟩:=c;unfold Cfg.err;dsimp only[Cfg.v];have hp0:zc w (w.alloc (.cells #[.int .i64 cn,.int .i64 cb,.int .i64 cp,.int .u64 sd,.bool sm] 29)):=(Mod.refl _ w).alloc _;have z:=zj (w:=w) (o:=(.cells #[.int .i64 cn,.int .i64 cb,.int .i64 cp,.int .u64 sd,.bool sm] 29 (0,0))) rfl;have HP:=za hp0;have HB:=za zfN;clear hp0;generalize h1:uU cn 1 1048576=b1;generalize h2:uU cb 1 1099511627776=b2;generalize h3:uU cp 0 99=b3;have H1:=za h1;have H2:=za h2;have H3:=za h3;clear h1 h2 h3;go_enter func66,ntmps66;go_upto_region 1 with fail
 generalize w.alloc (.cells #[.int .i64 cn,.int .i64 cb,.int .i64 cp,.int .u64 sd,.bool sm] 29)=W1 at *;generalize w.heap.size=bb at *;obtain⟨z_0,z_1,z_2,z_3,z_4,z_f,z_l,H_z⟩:=cr5 z;clear z;have HT:=za HP.out
 go_wp2_with (go_at_call 96;refine(HB.out _ _ _ _).mono ?_;first | (rw[H1.out];rintro e w1 ⟨rfl,rfl⟩;cases b1) | (rw[H2.out];rintro e w1 ⟨rfl,rfl⟩;cases b2) | (rw[H3.out];rintro e w1 ⟨rfl,rfl⟩;cases b3))
 all_goals
  go_ret;exact⟨rfl,HT.out⟩
abbrev evV(k:Int)(key:ByteArray)(v:Value)(b d t:Nat):Value := .agg #[.int .i64 k,.string key,v,.int .u64 b,.int .u64 d,.int .u64 t]
def X6(k:Int):Bool:=decide (1≤k)&&decide (k<6)
theorem zd1(k:Int)(w:World):Calls prog 283 #[.int .i64 k] w fun e w'=>e=.returned (.bool (X6 k))∧w=w':=by
 unfold X6;by_cases h1:1≤k
 ·by_cases h2:k<6
  ·go_enter func283,ntmps283;go_wp2;go_ret;exact⟨by simp[h1,h2],rfl⟩
  ·go_enter func283,ntmps283;go_wp2;go_ret;exact⟨by simp;omega,rfl⟩
 ·go_enter func283,ntmps283;go_wp2;go_ret;exact⟨by simp;omega,rfl⟩
theorem zhX(k:Int)(key:ByteArray)(a:Option Addr)(n c b d t:Nat)(w:World):Calls prog 284 #[evV k key (.slice a n c) b d t] w fun e w'=>e=.returned (.agg #[.string key,.slice a n c,.int .u64 d,.int .u64 b])∧zc w w':=by
 have hp0:zc w ((w.alloc (.cells #[.int .i64 k,.string key,.slice a n c,.int .u64 b,.int .u64 d,.int .u64 t] 191)).alloc (.cells #[.string ⟨#[]⟩,.slice none 0 0,.int .u64 0,.int .u64 0] 141)):=((Mod.refl _ w).alloc _).alloc _;have z1:=zG (o := .cells #[.string ⟨#[]⟩,.slice none 0 0,.int .u64 0,.int .u64 0] 141) (zj (w:=w) (o := .cells #[.int .i64 k,.string key,.slice a n c,.int .u64 b,.int .u64 d,.int .u64 t] 191 (0,0)) rfl);have z2:=zj (w:=w.alloc (.cells #[.int .i64 k,.string key,.slice a n c,.int .u64 b,.int .u64 d,.int .u64 t] 191)) (o := .cells #[.string ⟨#[]⟩,.slice none 0 0,.int .u64 0,.int .u64 0] 141 (0,0)) (n:=w.heap.size+1) (by simp);have HP:=za hp0;clear hp0;go_enter func284,ntmps284;go_upto_region 1 with fail
 generalize(w.alloc (.cells #[.int .i64 k,.string key,.slice a n c,.int .u64 b,.int .u64 d,.int .u64 t] 191)).alloc (.cells #[.string ⟨#[]⟩,.slice none 0 0,.int .u64 0,.int .u64 0] 141)=W1 at *;obtain⟨b1,hb1⟩:=zf w.heap.size;rw[hb1]at z1 z2 ⊢;have HB:=za hb1;clear hb1;have Z2:=za z2;obtain⟨z1_0,z1_1,z1_2,z1_3,z1_4,z1_5,z1_f,z1_l,H_z1⟩:=cr6 z1;clear z1;obtain⟨z2_0,z2_1,z2_2,z2_3,z2_f,z2_l,H_z2⟩:=cr4 z2;clear z2;go_wp2;have h0:=ya W1 (b1+1) 0 _ _ (.string key) Z2.out;have h1:=ya _ (b1+1) 1 _ _ (.slice a n c) h0;have h2:=ya _ (b1+1) 2 _ _ (.int .u64 d) h1;have h3:=ya _ (b1+1) 3 _ _ (.int .u64 b) h2;have hm:Mod (fun k=>k=b1+1) W1 ((((W1.setCell ⟨b1+1,0,none⟩ (.string key)).setCell ⟨b1+1,1,none⟩ (.slice a n c)).setCell ⟨b1+1,2,none⟩ (.int .u64 d)).setCell ⟨b1+1,3,none⟩ (.int .u64 b)) :=
  ((((Mod.refl (fun k=>k=b1+1) W1).setCell (p:=⟨b1+1,0,none⟩) (fun _=>rfl) _).setCell (p:=⟨b1+1,1,none⟩) (fun _=>rfl) _).setCell (p:=⟨b1+1,2,none⟩) (fun _=>rfl) _).setCell (p:=⟨b1+1,3,none⟩) (fun _=>rfl) _
 obtain⟨Y,hY⟩:=zf (((((W1.setCell ⟨b1+1,0,none⟩ (.string key)).setCell ⟨b1+1,1,none⟩ (.slice a n c)).setCell ⟨b1+1,2,none⟩ (.int .u64 d)).setCell ⟨b1+1,3,none⟩ (.int .u64 b)));rw[hY]at h3 hm ⊢;have c0:=zi Y (b1+1) 0 _ _ _ h3;have c1:=zi Y (b1+1) 1 _ _ _ h3;have c2:=zi Y (b1+1) 2 _ _ _ h3;have c3:=zi Y (b1+1) 3 _ _ _ h3;simp at c0 c1 c2 c3;refine zN (v := .agg #[.string key,.slice a n c,.int .u64 d,.int .u64 b]) (by simp[results,results284,go_sem,c0,c1,c2,c3]) rfl ⟨rfl,?_⟩;exact HP.out.then hm (fun i hi e=>by have:=HB.out;omega)
def evB(k:Int)(ks n b d t:Nat):Bool:=X6 k&&(Xq ks n b&&(jG d t==(k==1)))
def EvS(b1:Nat)(k:Int)(key:ByteArray)(v:Value)(b d t:Nat)(X:World):Prop :=
 X.cell? ⟨b1,0,none⟩=some (.int .i64 k)∧X.cell? ⟨b1,1,none⟩=some (.string key)∧X.cell? ⟨b1,2,none⟩=some v∧X.cell? ⟨b1,3,none⟩=some (.int .u64 b)∧X.cell? ⟨b1,4,none⟩=some (.int .u64 d)∧X.cell? ⟨b1,5,none⟩=some (.int .u64 t)
theorem zeo(k:Int)(key:ByteArray)(a:Option Addr)(n c b d t:Nat)(w:World)(hs:key.size≤140737488355328)(hn:n≤140737488355328) :
  Calls prog 227 #[evV k key (.slice a n c) b d t] w fun e w'=>e=.returned (.bool (evB k key.size n b d t))∧zc w w':=by
 have hp0:zc w (w.alloc (.cells #[.int .i64 k,.string key,.slice a n c,.int .u64 b,.int .u64 d,.int .u64 t] 191)):=(Mod.refl _ w).alloc _;have z:=zj (w:=w) (o := .cells #[.int .i64 k,.string key,.slice a n c,.int .u64 b,.int .u64 d,.int .u64 t] 191 (0,0)) rfl;have HP:=za hp0;have HKi:=za (zd1 k);have HOf:=za (zhX k key a n c b d t);have HVa:=za (fun W=>ziH key a n c d b W hs hn);have HDu:=za (zdQ d t);clear hp0;unfold evB;obtain⟨kb,hkb⟩:=zf (X6 k);obtain⟨vb,hvb⟩:=zf (Xq key.size n b);obtain⟨db,hdb⟩:=zf (jG d t);rw[hkb]at HKi ⊢;rw[hvb]at HVa ⊢;rw[hdb]at HDu ⊢;clear hkb hvb hdb
 cases kb
 ·go_enter func227,ntmps227;go_upto_region 1 with fail
  generalize w.alloc (.cells #[.int .i64 k,.string key,.slice a n c,.int .u64 b,.int .u64 d,.int .u64 t] 191)=W1 at *;generalize w.heap.size=b1 at *;have HS:=za (fun(X:World) (hX:zc W1 X)=>(⟨hX.cell (fun h=>h) (zi W1 b1 0 _ _ (0,0) z),hX.cell (fun h=>h) (zi W1 b1 1 _ _ (0,0) z),hX.cell (fun h=>h) (zi W1 b1 2 _ _ (0,0) z),hX.cell (fun h=>h) (zi W1 b1 3 _ _ (0,0) z),hX.cell (fun h=>h) (zi W1 b1 4 _ _ (0,0) z),hX.cell (fun h=>h) (zi W1 b1 5 _ _ (0,0) z)⟩:EvS b1 k key (.slice a n c) b d t X));refine jE (S:=EvS b1 k key (.slice a n c) b d t) (by kernel_rfl) (HS.out _ ((Mod.refl _ _).drew)) (fun h_ => ?_);refine hTk 0 ?_;refine hLd 1 ?_
  (refine hSt 2 (fun K hK => ?_);go_simp;refine(HKi.out _).mono ?_;rintro e u1 ⟨rfl,rfl⟩;refine hK.out _ _ ?_ (fun h_ => ?_);(· exact HS.out _ ((Mod.refl _ _).drew));clear hK K;refine clA ?_)
  refine hTk 3 ?_;refine hSk 4 ?_;refine hSk 5 ?_;refine hSk 6 ?_;refine hTk 7 ?_;refine hTk 8 ?_;refine hSk 9 ?_;refine hSk 10 ?_;refine hSk 11 ?_;refine hSk 12 ?_;refine hSk 13 ?_;refine hSk 14 ?_;refine hSk 15 ?_;refine hSk 16 ?_;refine hSk 17 ?_;refine hTk 18 ?_;refine hTk 19 ?_;refine hDn ?_;clear h_;go_wp2;go_ret;exact⟨rfl,HP.out.drew⟩
 ·cases vb
  ·go_enter func227,ntmps227;go_upto_region 1 with fail
   generalize w.alloc (.cells #[.int .i64 k,.string key,.slice a n c,.int .u64 b,.int .u64 d,.int .u64 t] 191)=W1 at *;generalize w.heap.size=b1 at *;have HS:=za (fun(X:World) (hX:zc W1 X)=>(⟨hX.cell (fun h=>h) (zi W1 b1 0 _ _ (0,0) z),hX.cell (fun h=>h) (zi W1 b1 1 _ _ (0,0) z),hX.cell (fun h=>h) (zi W1 b1 2 _ _ (0,0) z),hX.cell (fun h=>h) (zi W1 b1 3 _ _ (0,0) z),hX.cell (fun h=>h) (zi W1 b1 4 _ _ (0,0) z),hX.cell (fun h=>h) (zi W1 b1 5 _ _ (0,0) z)⟩:EvS b1 k key (.slice a n c) b d t X));refine jE (S:=EvS b1 k key (.slice a n c) b d t) (by kernel_rfl) (HS.out _ ((Mod.refl _ _).drew)) (fun h_ => ?_);refine hTk 0 ?_;refine hLd 1 ?_
   (refine hSt 2 (fun K hK => ?_);go_simp;refine(HKi.out _).mono ?_;rintro e u1 ⟨rfl,rfl⟩;refine hK.out _ _ ?_ (fun h_ => ?_);(· exact HS.out _ ((Mod.refl _ _).drew));clear hK K;refine clA ?_)
   refine hTk 3 ?_;refine hLd 4 ?_
   (refine hSt 5 (fun K hK => ?_);go_simp;refine(HOf.out _).mono ?_;rintro e u2 ⟨rfl,hp2⟩;refine hK.out _ _ ?_ (fun h_ => ?_);(· exact HS.out _ (Mod.of_drew hp2));clear hK K;refine clA ?_)
   (refine hSt 6 (fun K hK => ?_);go_simp;refine(HVa.out _).mono ?_;rintro e u3 ⟨rfl,hp3⟩;refine hK.out _ _ ?_ (fun h_ => ?_);(· exact HS.out _ ((Mod.of_drew hp2).trans hp3));clear hK K;refine clA ?_)
   refine hTk 7 ?_;refine hTk 8 ?_;refine hSk 9 ?_;refine hSk 10 ?_;refine hSk 11 ?_;refine hSk 12 ?_;refine hSk 13 ?_;refine hSk 14 ?_;refine hSk 15 ?_;refine hSk 16 ?_;refine hSk 17 ?_;refine hTk 18 ?_;refine hTk 19 ?_;refine hDn ?_;clear h_;go_wp2;go_ret;exact⟨rfl,HP.out.trans ((Mod.of_drew hp2).trans hp3)⟩
  ·go_enter func227,ntmps227;go_upto_region 1 with fail
   generalize w.alloc (.cells #[.int .i64 k,.string key,.slice a n c,.int .u64 b,.int .u64 d,.int .u64 t] 191)=W1 at *;generalize w.heap.size=b1 at *;have HS:=za (fun(X:World) (hX:zc W1 X)=>(⟨hX.cell (fun h=>h) (zi W1 b1 0 _ _ (0,0) z),hX.cell (fun h=>h) (zi W1 b1 1 _ _ (0,0) z),hX.cell (fun h=>h) (zi W1 b1 2 _ _ (0,0) z),hX.cell (fun h=>h) (zi W1 b1 3 _ _ (0,0) z),hX.cell (fun h=>h) (zi W1 b1 4 _ _ (0,0) z),hX.cell (fun h=>h) (zi W1 b1 5 _ _ (0,0) z)⟩:EvS b1 k key (.slice a n c) b d t X));refine jE (S:=EvS b1 k key (.slice a n c) b d t) (by kernel_rfl) (HS.out _ ((Mod.refl _ _).drew)) (fun h_ => ?_);refine hTk 0 ?_;refine hLd 1 ?_
   (refine hSt 2 (fun K hK => ?_);go_simp;refine(HKi.out _).mono ?_;rintro e u1 ⟨rfl,rfl⟩;refine hK.out _ _ ?_ (fun h_ => ?_);(· exact HS.out _ ((Mod.refl _ _).drew));clear hK K;refine clA ?_)
   refine hTk 3 ?_;refine hLd 4 ?_
   (refine hSt 5 (fun K hK => ?_);go_simp;refine(HOf.out _).mono ?_;rintro e u2 ⟨rfl,hp2⟩;refine hK.out _ _ ?_ (fun h_ => ?_);(· exact HS.out _ (Mod.of_drew hp2));clear hK K;refine clA ?_)
   (refine hSt 6 (fun K hK => ?_);go_simp;refine(HVa.out _).mono ?_;rintro e u3 ⟨rfl,hp3⟩;refine hK.out _ _ ?_ (fun h_ => ?_);(· exact HS.out _ ((Mod.of_drew hp2).trans hp3));clear hK K;refine clA ?_)
   refine hTk 7 ?_;refine hTk 8 ?_;refine hTk 9 ?_;refine hLd 10 ?_;refine hTk 11 ?_;refine hLd 12 ?_;refine hTk 14 ?_;refine hLd 15 ?_;refine hTk 16 ?_
   (refine hSt 13 (fun K hK => ?_);go_simp;refine(HDu.out _).mono ?_;rintro e u4 ⟨rfl,rfl⟩;refine hK.out _ _ ?_ (fun h_ => ?_);(· exact HS.out _ ((Mod.of_drew hp2).trans hp3));clear hK K;refine clA ?_)
   refine hTk 17 ?_;refine hTk 18 ?_;refine hTk 19 ?_;refine hDn ?_;clear h_;go_wp2;go_ret;exact⟨by simp,HP.out.trans ((Mod.of_drew hp2).trans hp3)⟩
structure Bu where
 c0:Nat
 s0:Nat
 c1:Nat
 s1:Nat
def Bu.cells(mc mb:Nat)(U:Bu):Array Value:=#[.int .i64 mc,.int .i64 mb,.int .i64 U.c0,.int .i64 U.s0,.int .i64 U.c1,.int .i64 U.s1]
structure yS(w:World)(u mc mb:Nat)(U:Bu):Prop where
 box:w.heap[u]? = some (.cells #[.int .i64 mc,.int .i64 mb,.int .i64 U.c0,.int .i64 U.s0,.int .i64 U.c1,.int .i64 U.s1] 269 (0,0))
 c:1≤mc∧mc≤1048576
 b:1≤mb∧mb≤1099511627776
 u0:U.c0≤2097152∧U.s0≤2305843009213693952
 u1:U.c1≤2097152∧U.s1≤2305843009213693952
abbrev buP(u:Nat):Value := .pointer (some ⟨u,0,none⟩)
abbrev prV(a b:Int):Value := .agg #[.int .i64 a,.int .i64 b]
section
variable{w w':World}{u mc mb:Nat}{U:Bu}
theorem yS.frame{S:Nat→Prop}(h:yS w u mc mb U)(hm:Mod S w w')(hn : ¬ S u):yS w' u mc mb U:=⟨hm.heap hn h.box,h.c,h.b,h.u0,h.u1⟩
theorem yS.pure(h:yS w u mc mb U)(hm:zc w w'):yS w' u mc mb U:=h.frame hm (fun h=>h)
theorem ZD(a b c d:Int)(h1:IntKind.i64.wrap (a+c)=a+c)(h2:IntKind.i64.wrap (b+d)=b+d)(w:World):Calls prog 185 #[prV a b,prV c d] w fun e w'=>e=.returned (prV (a+c) (b+d))∧zc w w':=by
 have hp0:zc w (((w.alloc (.cells #[.int .i64 a,.int .i64 b] 266)).alloc (.cells #[.int .i64 c,.int .i64 d] 266)).alloc (.cells #[.int .i64 0,.int .i64 0] 266)):=(((Mod.refl _ w).alloc _).alloc _).alloc _;have z2:=zG (o := .cells #[.int .i64 0,.int .i64 0] 266) (zG (o := .cells #[.int .i64 c,.int .i64 d] 266) (zj (w:=w) (o:=(.cells #[.int .i64 a,.int .i64 b] 266 (0,0))) rfl));have z3:=zG (o := .cells #[.int .i64 0,.int .i64 0] 266) (zj (w:=w.alloc (.cells #[.int .i64 a,.int .i64 b] 266)) (o:=(.cells #[.int .i64 c,.int .i64 d] 266 (0,0))) (n:=w.heap.size+1) (by simp));have z4:=zj (w:=(w.alloc (.cells #[.int .i64 a,.int .i64 b] 266)).alloc (.cells #[.int .i64 c,.int .i64 d] 266)) (o:=(.cells #[.int .i64 0,.int .i64 0] 266 (0,0))) (n:=w.heap.size+1+1) (by simp);have HP:=za hp0;clear hp0;go_enter func185,ntmps185;go_upto_region 1 with fail
 generalize(((w.alloc (.cells #[.int .i64 a,.int .i64 b] 266)).alloc (.cells #[.int .i64 c,.int .i64 d] 266)).alloc (.cells #[.int .i64 0,.int .i64 0] 266))=W1 at *;obtain⟨b2,hb2⟩:=zf w.heap.size;rw[hb2]at z2 z3 z4 ⊢;have HB:=za hb2;clear hb2;obtain⟨z2_0,z2_1,z2_f,z2_l,H_z2⟩:=cr2 z2;clear z2;obtain⟨z3_0,z3_1,z3_f,z3_l,H_z3⟩:=cr2 z3;clear z3;obtain⟨z4_0,z4_1,z4_f,z4_l,H_z4⟩:=cr2 z4;clear z4;go_wp2;obtain⟨f1,x0,x1⟩:=jD (v0 := .int .i64 (a+c)) (v1 := .int .i64 (b+d)) H_z4.out HP.out (by have:=HB.out;omega) rfl;obtain⟨Y,hY⟩:=zf ((W1.setCell ⟨b2+1+1,0,none⟩ (.int .i64 (a+c))).setCell ⟨b2+1+1,1,none⟩ (.int .i64 (b+d)));rw[hY]at f1 x0 x1 ⊢;exact zN (v:=prV (a+c) (b+d)) (by simp[results,results185,go_sem,x0,x1]) rfl ⟨rfl,f1⟩
theorem J6(a b:Int)(w:World):Calls prog 186 #[prV a b] w fun e w'=>e=.returned (.bool (decide (a≤2097152)&&decide (b≤2305843009213693952)))∧zc w w':=by
 have hp0:zc w (w.alloc (.cells #[.int .i64 a,.int .i64 b] 266)):=(Mod.refl _ w).alloc _;have z:=zj (w:=w) (o:=(.cells #[.int .i64 a,.int .i64 b] 266 (0,0))) rfl;have HP:=za hp0;clear hp0;go_enter func186,ntmps186;go_upto_region 1 with fail
 generalize w.alloc (.cells #[.int .i64 a,.int .i64 b] 266)=W1 at *;generalize w.heap.size=b1 at *;obtain⟨z_0,z_1,z_f,z_l,H_z⟩:=cr2 z;clear z;by_cases h1:a≤2097152
 ·go_wp2;go_ret;exact⟨by simp[h1],HP.out⟩
 ·go_wp2;go_ret;exact⟨by simp;omega,HP.out⟩
theorem zlk(c b:Int)(w:World):Calls prog 169 #[.int .i64 c,.int .i64 b] w fun e w'=>e=.returned (.bool (uU c 1 1048576&&uU b 1 1099511627776))∧w=w':=by
 unfold uU;by_cases h1:1≤c<;>by_cases h2:c≤1048576<;>by_cases h3:1≤b<;>by_cases h4:b≤1099511627776
 all_goals
  go_enter func169,ntmps169;go_wp2;go_ret;exact⟨by simp[h1,h2,h3,h4],rfl⟩
theorem zcz(h:yS w u mc mb U):Calls prog 200 #[buP u] w fun e w'=>e=.returned (.bool false)∧w=w':=by
 have hb:=h.box;have hc:=h.c;have hne:((mc:Int)==0)=false:=by simp;omega
 clear h;obtain⟨hb_0,hb_1,hb_2,hb_3,hb_4,hb_5,hb_f,hb_l,H_hb⟩:=cr6 hb;clear hb;go_enter func200,ntmps200;go_wp2;go_ret;exact⟨rfl,rfl⟩
theorem Xs(h:yS w u mc mb U){g:Nat}(hg:g≤1){c:Nat}(hc:c≤1099511627776):Calls prog 183 #[buP u,.int .i64 g,.int .i64 c] w fun e w'=>e=.returned (.int .i64 0)∧w=w':=by
 have HN:=za (zcz h);have h1 : ¬ ((c:Int)<0):=by omega
 have h2 : ¬ (1099511627776:Int)<(c:Int):=by omega
 clear h;obtain rfl | rfl:g=0∨g=1:=by omega
 all_goals
  go_enter func183,ntmps183
  go_wp2_with (go_at_call 200;refine HN.out.mono ?_;rintro e w' ⟨rfl,rfl⟩)
  go_ret;exact⟨rfl,rfl⟩
def Bu.cnt(U:Bu)(g:Nat):Nat:=if g=0 then U.c0 else U.c1
def Bu.sum(U:Bu)(g:Nat):Nat:=if g=0 then U.s0 else U.s1
def Bu.holds(U:Bu)(g c:Nat):Prop:=(1<U.cnt g∧c≤U.sum g)∨(U.cnt g=1∧U.sum g=c)
theorem KZ(h:yS w u mc mb U){g:Nat}(hg:g≤1){c:Nat}(hc:c≤1099511627776)(hh:U.holds g c):Calls prog 184 #[buP u,.int .i64 g,.int .i64 c] w fun e w'=>e=.returned (.bool true)∧zc w w':=by
 have hb:=h.box;clear h;obtain⟨c0,s0,c1,s1⟩:=U;unfold Bu.holds Bu.cnt Bu.sum at hh;obtain⟨hb_0,hb_1,hb_2,hb_3,hb_4,hb_5,hb_f,hb_l,H_hb⟩:=cr6 hb;clear hb;obtain rfl | rfl:g=0∨g=1:=by omega
 ·simp only[if_true]at hh;have z:=zj (w:=w) (o:=(.cells #[.int .i64 c0,.int .i64 s0] 266 (0,0))) rfl;have hp:zc w (w.alloc (.cells #[.int .i64 c0,.int .i64 s0] 266)):=(Mod.refl _ w).alloc _;have HP:=za hp;clear hp;go_enter func184,ntmps184;go_upto_region 2 with fail
  generalize w.alloc (.cells #[.int .i64 c0,.int .i64 s0] 266)=W1 at *;generalize w.heap.size=b1 at *;obtain⟨z_0,z_1,z_f,z_l,H_z⟩:=cr2 z;clear z;rcases hh with⟨h1,h2⟩ | ⟨h1,h2⟩
  ·have h1':(1:Int)<(c0:Int):=by omega
   have h2':(c:Int)≤(s0:Int):=by omega
   go_wp2;go_ret;exact⟨rfl,HP.out⟩
  ·subst h1 h2;go_wp2;go_ret;exact⟨by simp,HP.out⟩
 ·simp only[Nat.one_ne_zero,if_false]at hh;have z:=zj (w:=w) (o:=(.cells #[.int .i64 c1,.int .i64 s1] 266 (0,0))) rfl;have hp:zc w (w.alloc (.cells #[.int .i64 c1,.int .i64 s1] 266)):=(Mod.refl _ w).alloc _;have HP:=za hp;clear hp;go_enter func184,ntmps184;go_upto_region 2 with fail
  generalize w.alloc (.cells #[.int .i64 c1,.int .i64 s1] 266)=W1 at *;generalize w.heap.size=b1 at *;obtain⟨z_0,z_1,z_f,z_l,H_z⟩:=cr2 z;clear z;rcases hh with⟨h1,h2⟩ | ⟨h1,h2⟩
  ·have h1':(1:Int)<(c1:Int):=by omega
   have h2':(c:Int)≤(s1:Int):=by omega
   go_wp2;go_ret;exact⟨rfl,HP.out⟩
  ·subst h1 h2;go_wp2;go_ret;exact⟨by simp,HP.out⟩
end
section
variable{w w':World}{u mc mb:Nat}{U:Bu}
theorem Uc(h:yS w u mc mb U){W:World}(hp:zc w W)(b:Nat)(hb:w.heap.size≤b){j:Nat}{x y:Nat}{U2:Bu}(hY:((Bu.cells mc mb U).set! j (.int .i64 x)).set! (j+1) (.int .i64 y)=Bu.cells mc mb U2)(hu0:U2.c0≤2097152∧U2.s0≤2305843009213693952)(hu1:U2.c1≤2097152∧U2.s1≤2305843009213693952) :
  yS ((W.setCell ⟨u,j,none⟩ (.int .i64 x)).setCell ⟨u,j+1,none⟩ (.int .i64 y)) u mc mb U2∧Mod (fun k=>k=u) w ((W.setCell ⟨u,j,none⟩ (.int .i64 x)).setCell ⟨u,j+1,none⟩ (.int .i64 y)):=by
 have h1:=(h.pure hp).box;have h2:=ya W u j _ _ (.int .i64 x) h1;have h3:=ya _ u (j+1) _ _ (.int .i64 y) h2;refine⟨⟨?_,h.c,h.b,hu0,hu1⟩,Mod.trans' hp (Mod.set2 u j (j+1) _ _) (fun _ _ h=>h.elim) (fun _ _ h=>h)⟩;rw[h3];have e:((#[.int .i64 mc,.int .i64 mb,.int .i64 U.c0,.int .i64 U.s0,.int .i64 U.c1,.int .i64 U.s1]:Array Value).set! j (.int .i64 x)).set! (j+1) (.int .i64 y)=Bu.cells mc mb U2:=hY;unfold Bu.cells at e
 first | (rw[e]) | (simp only[Array.set!_eq_setIfInBounds]at e;rw[e])
theorem zaJ(h:yS w u mc mb U){c:Nat}(hc:c≤1099511627776)(h1:U.c0+1≤2097152)(h2:U.s0+c≤2305843009213693952) :
  Calls prog 118 #[buP u,.int .i64 0,.int .i64 c] w fun e w'=>e=.returned (.int .i64 0)∧yS w' u mc mb {U with c0:=U.c0+1,s0:=U.s0+c}∧Mod (fun k=>k=u) w w':=by
 have HC:=za (Xs h (g:=0) (by omega) hc);have HU:=za h;have hb:=h.box;clear h;obtain⟨c0,s0,c1,s1⟩:=U;dsimp only at h1 h2 hb ⊢;have HPl:=za (fun W=>ZD (c0:Int) (s0:Int) 1 (c:Int) (zt _ (by omega)) (zt _ (by omega)) W);have HF:=za (fun W=>J6 ((c0:Int)+1) ((s0:Int)+(c:Int)) W);have hf:(decide ((c0:Int)+1≤2097152)&&decide ((s0:Int)+(c:Int)≤2305843009213693952))=true:=by simp;omega
 rw[hf]at HF;clear hf;obtain⟨hb_0,hb_1,hb_2,hb_3,hb_4,hb_5,hb_f,hb_l,H_hb⟩:=cr6 hb;clear hb;go_enter func118,ntmps118;go_upto_region 4 with(go_at_call 183;refine HC.out.mono ?_;rintro e w' ⟨rfl,rfl⟩)
 go_upto_region 5 with(go_at_call 185;refine(HPl.out _).mono ?_;rintro e w2 ⟨rfl,hp2⟩)
 have hb2:=(hp2.alloc (.cells #[.int .i64 ((c0:Int)+1),.int .i64 ((s0:Int)+(c:Int))] 266)).heap (fun h=>h) H_hb.out;have z:=zj (w:=w2) (o:=(.cells #[.int .i64 ((c0:Int)+1),.int .i64 ((s0:Int)+(c:Int))] 266 (0,0))) rfl;have HP:=za (hp2.alloc (.cells #[.int .i64 ((c0:Int)+1),.int .i64 ((s0:Int)+(c:Int))] 266));have hsz:u≠w2.heap.size:=by have:=hp2.size;omega
 have hsz2:w.heap.size≤w2.heap.size:=hp2.size;clear hb_0 hb_1 hb_2 hb_3 hb_4 hb_5 hb_f hb_l;clear hp2 H_hb;generalize w2.alloc (.cells #[.int .i64 ((c0:Int)+1),.int .i64 ((s0:Int)+(c:Int))] 266)=W2 at *;generalize w2.heap.size=b8 at *;obtain⟨z_0,z_1,z_f,z_l,H_z⟩:=cr2 z;clear z;obtain⟨hb2_0,hb2_1,hb2_2,hb2_3,hb2_4,hb2_5,hb2_f,hb2_l,H_hb2⟩:=cr6 hb2;clear hb2;go_upto_region 7 with(go_at_call 186;refine(HF.out _).mono ?_;rintro e w3 ⟨rfl,hp3⟩)
 have z3:=hp3.heap (fun h=>h) H_z.out;have hb3:=hp3.heap (fun h=>h) H_hb2.out;have HP3:=za (HP.out.trans hp3);clear z_0 z_1 z_f z_l;clear hb2_0 hb2_1 hb2_2 hb2_3 hb2_4 hb2_5 hb2_f hb2_l;clear H_z H_hb2 hp3;obtain⟨z3_0,z3_1,z3_f,z3_l,H_z3⟩:=cr2 z3;clear z3;obtain⟨hb3_0,hb3_1,hb3_2,hb3_3,hb3_4,hb3_5,hb3_f,hb3_l,H_hb3⟩:=cr6 hb3;clear hb3
 go_region_held3 (fun w'=>w'.cell? ⟨b8,0,none⟩=some (.int .i64 ((c0:Int)+1))∧w'.cell? ⟨b8,1,none⟩=some (.int .i64 ((s0:Int)+(c:Int))))
  (first | exact⟨z3_0,z3_1⟩ | exact⟨(Mod.set2 u 2 3 _ _).cell (fun e=>hsz e.symm) z3_0,(Mod.set2 u 2 3 _ _).cell (fun e=>hsz e.symm) z3_1⟩)
  (fail)
 go_wp2;go_ret;refine⟨rfl,?_⟩;exact Uc HU.out (W:=w3.drew) (HP3.out.drew) b8 hsz2 (j:=2) (x:=c0+1) (y:=s0+c) rfl (by have:=HU.out.u0;dsimp only at this ⊢;omega) (by have:=HU.out.u1;dsimp only at this ⊢;omega)
theorem zej(h:yS w u mc mb U){c:Nat}(hc:c≤1099511627776)(hh:U.holds 0 c) :
  Calls prog 117 #[buP u,.int .i64 0,.int .i64 c] w fun e w'=>e=.returned (.int .i64 0)∧yS w' u mc mb {U with c0:=U.c0-1,s0:=U.s0-c}∧Mod (fun k=>k=u) w w':=by
 have HC:=za (Xs h (g:=0) (by omega) hc);have HHa:=za (KZ h (g:=0) (by omega) hc hh);have HU:=za h;have hb:=h.box;have hu0:=h.u0;have hu1:=h.u1;clear h;obtain⟨c0,s0,c1,s1⟩:=U;have hh1:1≤c0∧c≤s0:=by
  unfold Bu.holds Bu.cnt Bu.sum at hh;simp at hh;omega
 dsimp only at hb hu0 hu1 ⊢;have HPl:=za (fun W=>ZD (c0:Int) (s0:Int) (-1) (-(c:Int)) (zt _ (by omega)) (zt _ (by omega)) W);have wn:IntKind.i64.wrap (-(c:Int)) = -(c:Int):=zt _ (by omega);have HH1:=za hh1;clear hh hh1 hu0 hu1;obtain⟨hb_0,hb_1,hb_2,hb_3,hb_4,hb_5,hb_f,hb_l,H_hb⟩:=cr6 hb;clear hb;go_enter func117,ntmps117;go_upto_region 4 with(go_at_call 183;refine HC.out.mono ?_;rintro e w' ⟨rfl,rfl⟩)
 go_upto_region 6 with(go_at_call 184;refine HHa.out.mono ?_;rintro e w2 ⟨rfl,hp2⟩)
 have hb2:=hp2.heap (fun h=>h) H_hb.out;have HP:=za hp2;clear hb_0 hb_1 hb_2 hb_3 hb_4 hb_5 hb_f hb_l;clear H_hb hp2;obtain⟨hb2_0,hb2_1,hb2_2,hb2_3,hb2_4,hb2_5,hb2_f,hb2_l,H_hb2⟩:=cr6 hb2;clear hb2;refine rHd (S:=fun _=>True) trivial (fun h_ => ?_);refine hTk 0 ?_;refine hTk 1 ?_;refine hTk 2 ?_;refine hTk 3 ?_;refine hTk 4 ?_;refine hTk 5 ?_;refine hTk 6 ?_;refine hTk 8 ?_;refine hTk 9 ?_;refine hTk 10 ?_;refine hTk 12 ?_;refine hTk 13 ?_
 (refine hSt 7 (fun K hK => ?_);go_simp;refine hK.out _ _ ?_ (fun h_ => ?_);(· trivial);clear hK K;refine clA ?_)
 (refine hSt 11 (fun K hK => ?_);go_simp;refine(HPl.out _).mono ?_;rintro e w3 ⟨rfl,hp3⟩;have kf : ∀ j,w3.frozen? ⟨u,j,none⟩=false:=(fun j=>(hp3.cells.2 u j hb2_l).trans (hb2_f j));have kl:u<w3.heap.size:=hp3.lt hb2_l;have k2:=hp3.cell (fun h=>h) hb2_2;have k3:=hp3.cell (fun h=>h) hb2_3;refine hK.out _ _ ?_ (fun h_ => ?_);(· trivial);clear hK K;refine clA ?_)
 refine hTk 14 ?_
 (refine hSt 15 (fun K hK => ?_);go_simp;refine hK.out _ _ ?_ (fun h_ => ?_);(· trivial);clear hK K;refine clA ?_)
 refine hDn ?_;clear h_;go_wp2;go_ret;refine⟨rfl,?_⟩;have hh:=HH1.out;have e1:(c0:Int) + -1=((c0-1:Nat):Int):=by omega
 have e2:(s0:Int) + -(c:Int)=((s0-c:Nat):Int):=by omega
 rw[e1,e2];exact Uc HU.out (W:=w3) (HP.out.trans (Mod.of_drew hp3)) w.heap.size (zI _) (j:=2) (x:=c0-1) (y:=s0-c) rfl (by have:=HU.out.u0;dsimp only at this ⊢;omega) (by have:=HU.out.u1;dsimp only at this ⊢;omega)
theorem zjq(h:yS w u mc mb U){c:Nat}(hc:c≤1099511627776)(h1:U.c1+1≤2097152)(h2:U.s1+c≤2305843009213693952) :
  Calls prog 118 #[buP u,.int .i64 1,.int .i64 c] w fun e w'=>e=.returned (.int .i64 0)∧yS w' u mc mb {U with c1:=U.c1+1,s1:=U.s1+c}∧Mod (fun k=>k=u) w w':=by
 have HC:=za (Xs h (g:=1) (by omega) hc);have HU:=za h;have hb:=h.box;clear h;obtain⟨c0,s0,c1,s1⟩:=U;dsimp only at h1 h2 hb ⊢;have HPl:=za (fun W=>ZD (c1:Int) (s1:Int) 1 (c:Int) (zt _ (by omega)) (zt _ (by omega)) W);have HF:=za (fun W=>J6 ((c1:Int)+1) ((s1:Int)+(c:Int)) W);have hf:(decide ((c1:Int)+1≤2097152)&&decide ((s1:Int)+(c:Int)≤2305843009213693952))=true:=by simp;omega
 rw[hf]at HF;clear hf;obtain⟨hb_0,hb_1,hb_2,hb_3,hb_4,hb_5,hb_f,hb_l,H_hb⟩:=cr6 hb;clear hb;go_enter func118,ntmps118;go_upto_region 4 with(go_at_call 183;refine HC.out.mono ?_;rintro e w' ⟨rfl,rfl⟩)
 go_upto_region 5 with(go_at_call 185;refine(HPl.out _).mono ?_;rintro e w2 ⟨rfl,hp2⟩)
 have hb2:=(hp2.alloc (.cells #[.int .i64 ((c1:Int)+1),.int .i64 ((s1:Int)+(c:Int))] 266)).heap (fun h=>h) H_hb.out;have z:=zj (w:=w2) (o:=(.cells #[.int .i64 ((c1:Int)+1),.int .i64 ((s1:Int)+(c:Int))] 266 (0,0))) rfl;have HP:=za (hp2.alloc (.cells #[.int .i64 ((c1:Int)+1),.int .i64 ((s1:Int)+(c:Int))] 266));have hsz:u≠w2.heap.size:=by have:=hp2.size;omega
 have hsz2:w.heap.size≤w2.heap.size:=hp2.size;clear hb_0 hb_1 hb_2 hb_3 hb_4 hb_5 hb_f hb_l;clear hp2 H_hb;generalize w2.alloc (.cells #[.int .i64 ((c1:Int)+1),.int .i64 ((s1:Int)+(c:Int))] 266)=W2 at *;generalize w2.heap.size=b8 at *;obtain⟨z_0,z_1,z_f,z_l,H_z⟩:=cr2 z;clear z;obtain⟨hb2_0,hb2_1,hb2_2,hb2_3,hb2_4,hb2_5,hb2_f,hb2_l,H_hb2⟩:=cr6 hb2;clear hb2;go_upto_region 7 with(go_at_call 186;refine(HF.out _).mono ?_;rintro e w3 ⟨rfl,hp3⟩)
 have z3:=hp3.heap (fun h=>h) H_z.out;have hb3:=hp3.heap (fun h=>h) H_hb2.out;have HP3:=za (HP.out.trans hp3);clear z_0 z_1 z_f z_l;clear hb2_0 hb2_1 hb2_2 hb2_3 hb2_4 hb2_5 hb2_f hb2_l;clear H_z H_hb2 hp3;obtain⟨z3_0,z3_1,z3_f,z3_l,H_z3⟩:=cr2 z3;clear z3;obtain⟨hb3_0,hb3_1,hb3_2,hb3_3,hb3_4,hb3_5,hb3_f,hb3_l,H_hb3⟩:=cr6 hb3;clear hb3
 go_region_held3 (fun w'=>w'.cell? ⟨b8,0,none⟩=some (.int .i64 ((c1:Int)+1))∧w'.cell? ⟨b8,1,none⟩=some (.int .i64 ((s1:Int)+(c:Int))))
  (first | exact⟨z3_0,z3_1⟩ | exact⟨(Mod.set2 u 4 5 _ _).cell (fun e=>hsz e.symm) z3_0,(Mod.set2 u 4 5 _ _).cell (fun e=>hsz e.symm) z3_1⟩)
  (fail)
 go_wp2;go_ret;refine⟨rfl,?_⟩;exact Uc HU.out (W:=w3.drew) (HP3.out.drew) b8 hsz2 (j:=4) (x:=c1+1) (y:=s1+c) rfl (by have:=HU.out.u0;dsimp only at this ⊢;omega) (by have:=HU.out.u1;dsimp only at this ⊢;omega)
theorem zbR(h:yS w u mc mb U){c:Nat}(hc:c≤1099511627776)(hh:U.holds 1 c) :
  Calls prog 117 #[buP u,.int .i64 1,.int .i64 c] w fun e w'=>e=.returned (.int .i64 0)∧yS w' u mc mb {U with c1:=U.c1-1,s1:=U.s1-c}∧Mod (fun k=>k=u) w w':=by
 have HC:=za (Xs h (g:=1) (by omega) hc);have HHa:=za (KZ h (g:=1) (by omega) hc hh);have HU:=za h;have hb:=h.box;have hu0:=h.u0;have hu1:=h.u1;clear h;obtain⟨c0,s0,c1,s1⟩:=U;have hh1:1≤c1∧c≤s1:=by
  unfold Bu.holds Bu.cnt Bu.sum at hh;simp at hh;omega
 dsimp only at hb hu0 hu1 ⊢;have HPl:=za (fun W=>ZD (c1:Int) (s1:Int) (-1) (-(c:Int)) (zt _ (by omega)) (zt _ (by omega)) W);have wn:IntKind.i64.wrap (-(c:Int)) = -(c:Int):=zt _ (by omega);have HH1:=za hh1;clear hh hh1 hu0 hu1;obtain⟨hb_0,hb_1,hb_2,hb_3,hb_4,hb_5,hb_f,hb_l,H_hb⟩:=cr6 hb;clear hb;go_enter func117,ntmps117;go_upto_region 4 with(go_at_call 183;refine HC.out.mono ?_;rintro e w' ⟨rfl,rfl⟩)
 go_upto_region 6 with(go_at_call 184;refine HHa.out.mono ?_;rintro e w2 ⟨rfl,hp2⟩)
 have hb2:=hp2.heap (fun h=>h) H_hb.out;have HP:=za hp2;clear hb_0 hb_1 hb_2 hb_3 hb_4 hb_5 hb_f hb_l;clear H_hb hp2;obtain⟨hb2_0,hb2_1,hb2_2,hb2_3,hb2_4,hb2_5,hb2_f,hb2_l,H_hb2⟩:=cr6 hb2;clear hb2;refine rHd (S:=fun _=>True) trivial (fun h_ => ?_);refine hTk 0 ?_;refine hTk 1 ?_;refine hTk 2 ?_;refine hTk 3 ?_;refine hTk 4 ?_;refine hTk 5 ?_;refine hTk 6 ?_;refine hTk 8 ?_;refine hTk 9 ?_;refine hTk 10 ?_;refine hTk 12 ?_;refine hTk 13 ?_
 (refine hSt 7 (fun K hK => ?_);go_simp;refine hK.out _ _ ?_ (fun h_ => ?_);(· trivial);clear hK K;refine clA ?_)
 (refine hSt 11 (fun K hK => ?_);go_simp;refine(HPl.out _).mono ?_;rintro e w3 ⟨rfl,hp3⟩;have kf : ∀ j,w3.frozen? ⟨u,j,none⟩=false:=(fun j=>(hp3.cells.2 u j hb2_l).trans (hb2_f j));have kl:u<w3.heap.size:=hp3.lt hb2_l;have k2:=hp3.cell (fun h=>h) hb2_4;have k3:=hp3.cell (fun h=>h) hb2_5;refine hK.out _ _ ?_ (fun h_ => ?_);(· trivial);clear hK K;refine clA ?_)
 refine hTk 14 ?_
 (refine hSt 15 (fun K hK => ?_);go_simp;refine hK.out _ _ ?_ (fun h_ => ?_);(· trivial);clear hK K;refine clA ?_)
 refine hDn ?_;clear h_;go_wp2;go_ret;refine⟨rfl,?_⟩;have hh:=HH1.out;have e1:(c1:Int) + -1=((c1-1:Nat):Int):=by omega
 have e2:(s1:Int) + -(c:Int)=((s1-c:Nat):Int):=by omega
 rw[e1,e2];exact Uc HU.out (W:=w3) (HP.out.trans (Mod.of_drew hp3)) w.heap.size (zI _) (j:=4) (x:=c1-1) (y:=s1-c) rfl (by have:=HU.out.u0;dsimp only at this ⊢;omega) (by have:=HU.out.u1;dsimp only at this ⊢;omega)
end
theorem zel(n:Nat)(hn:n<18446744073709551616)(hb0:4294967296≤n)(w:World):Calls prog 152 #[.int .u64 n] w fun e w'=>e=.returned (.int .i64 (yQ n))∧w=w':=by
 have d0:decide (4294967296≤(n:Int))=true:=zP (by omega);have hbb:=ZR (n:=n) (j:=32) hb0;obtain⟨q,hq⟩:=zf (n/2 ^ 32);have e0:(n:Int)/4294967296=(q:Int):=by omega
 have hq2:q<4294967296:=by omega
 rw[hq]at hbb;have n0:(0:Int)≤n:=by omega
 have q0:(0:Int)≤q:=by omega
 by_cases c1:65536≤q
 ·have d1:decide (65536≤(q:Int))=true:=zP (by omega);have hb:=ZR (n:=q) (j:=16) c1;obtain⟨k,hk⟩:=zf (q/2 ^ 16);have e1:(q:Int)/65536=(k:Int):=by omega
  have hk2:k<65536:=by omega
  rw[hk]at hb;have k0:(0:Int)≤k:=by omega
  by_cases c2:256≤k
  ·have d2:decide (256≤(k:Int))=true:=zP (by omega);have hb2:=ZR (n:=k) (j:=8) c2;obtain⟨m,hm⟩:=zf (k/2 ^ 8);have e2:(k:Int)/256=(m:Int):=by omega
   have hm2:m<256:=by omega
   rw[hm]at hb2;have m0:(0:Int)≤m:=by omega
   have m1:(m:Int)<256:=by omega
   have w8:IntKind.u8.wrap (m:Int)=m:=by simp[IntKind.wrap,IntKind.signed,IntKind.bits];omega
   go_enter func152,ntmps152;go_wp2;go_ret;exact⟨congrArg (fun x=>Ending.returned (.int .i64 x)) (qI 56 _ (by decide) (by decide +kernel) m hm2 _ n (by omega) (by omega)),rfl⟩
  ·have d2:decide (256≤(k:Int))=false:=zR (by omega);have m1:(k:Int)<256:=by omega
   have w8:IntKind.u8.wrap (k:Int)=k:=by simp[IntKind.wrap,IntKind.signed,IntKind.bits];omega
   go_enter func152,ntmps152;go_wp2;go_ret;exact⟨congrArg (fun x=>Ending.returned (.int .i64 x)) (qI 48 _ (by decide) (by decide +kernel) k (by omega) _ n (by omega) (by omega)),rfl⟩
 ·have d1:decide (65536≤(q:Int))=false:=zR (by omega);by_cases c2:256≤q
  ·have d2:decide (256≤(q:Int))=true:=zP (by omega);have hb2:=ZR (n:=q) (j:=8) c2;obtain⟨m,hm⟩:=zf (q/2 ^ 8);have e2:(q:Int)/256=(m:Int):=by omega
   have hm2:m<256:=by omega
   rw[hm]at hb2;have m0:(0:Int)≤m:=by omega
   have m1:(m:Int)<256:=by omega
   have w8:IntKind.u8.wrap (m:Int)=m:=by simp[IntKind.wrap,IntKind.signed,IntKind.bits];omega
   go_enter func152,ntmps152;go_wp2;go_ret;exact⟨congrArg (fun x=>Ending.returned (.int .i64 x)) (qI 40 _ (by decide) (by decide +kernel) m hm2 _ n (by omega) (by omega)),rfl⟩
  ·have d2:decide (256≤(q:Int))=false:=zR (by omega);have m1:(q:Int)<256:=by omega
   have w8:IntKind.u8.wrap (q:Int)=q:=by simp[IntKind.wrap,IntKind.signed,IntKind.bits];omega
   go_enter func152,ntmps152;go_wp2;go_ret;exact⟨congrArg (fun x=>Ending.returned (.int .i64 x)) (qI 32 _ (by decide) (by decide +kernel) q (by omega) _ n (by omega) (by omega)),rfl⟩
theorem zgY(n:Nat)(hn:n<18446744073709551616)(w:World):Calls prog 152 #[.int .u64 n] w fun e w'=>e=.returned (.int .i64 (yQ n))∧w=w':=by
 by_cases h:n<4294967296
 ·exact zcc n h w
 ·exact zel n hn (by omega) w
theorem zd3{now dl:Nat}(hn:now<18446744073709551616)(hd:dl<18446744073709551616)(h:dl≠now):1≤yQ (dl ^^^ now)∧yQ (dl ^^^ now)≤64∧(yQ (dl ^^^ now)-1)/8=lvl now dl:=by
 have h0:dl ^^^ now≠0:=fun e=>h (UO.1 e)
 have hx:dl ^^^ now<2 ^ 64:=qL hd hn;have hb:yQ (dl ^^^ now)=Nat.log2 (dl ^^^ now)+1:=by unfold yQ;rw[zh h0]
 have h1:=zaO (dl ^^^ now);have h2:2 ^ (yQ (dl ^^^ now)-1)≤dl ^^^ now:=by rw[hb];exact Nat.log2_self_le h0
 exact⟨by omega,JS hx,zfL hn hd h h1 h2 (by omega)⟩
end
section
open Go.RowKit Go.Shelf
variable{Fo:Nat→Prop}
attribute [local go_sem] Oper.semAt_some
def zdi(w:World)(b5 b6:Nat)(It:Nat→Prop)(k:Nat):Prop:=w.heap.size+1+1<k∧k≠b5∧k≠b6 ∧ ¬ It k
structure Vs(Fo:Nat→Prop)(w:World)(b5 b6 q:Nat)(len:Int)(It:Nat→Prop)(D:Nat→Prop)(pre:List xJ)(W:World):Prop where
 r0:W.heap[w.heap.size]? = some (.cells #[.pointer none] 198 (0,0))
 r1:W.heap[w.heap.size+1]? = some (.cells #[.slice none 0 0,.int .i64 0] 315 (0,0))
 r2:W.heap[w.heap.size+1+1]? = some (.cells #[.int .i64 0] 24 (0,0))
 o5:W.heap[b5]? = some (.cells #[.pointer (some ⟨q,0,none⟩)] 198 (0,0))
 o6 : ∃ a c,W.heap[b6]? = some (.cells #[.slice a pre.length c,.int .i64 len] 315 (0,0))∧W.ownsRow 0 143 1 (.slice a pre.length c) pre.length (pre.map fun g => .int .u32 g.1) ∧ ∀ k,(Value.slice a pre.length c).ownBlock=some k→zdi w b5 b6 It k ∧ ¬ D k
 lg : ∃ sv M',zU Fo W D q sv M'∧M'.map Prod.fst=pre.map (fun g=>some g.2.1)
 dd : ∀ k,D k→zdi w b5 b6 It k
 pu:zc w W
theorem Vs.quiet{w:World}{b5 b6 q:Nat}{len:Int}{It D:Nat→Prop}{pre:List xJ}{A B:World}(h:Vs Fo w b5 b6 q len It D pre A){N:Nat}(hN:w.heap.size≤N)(hq:zB N A B):Vs Fo w b5 b6 q len It D pre B:=by
 obtain⟨a,c,h1,h2,h3⟩:=h.o6;obtain⟨sv,M',h4,h5⟩:=h.lg;exact⟨hq.cells h.r0,hq.cells h.r1,hq.cells h.r2,hq.cells h.o5,⟨a,c,hq.cells h1,hq.owns h2,h3⟩,⟨sv,M',h4.quiet hq,h5⟩,h.dd,hq.mod h.pu hN⟩
def CAx(Fo:Nat→Prop)(w:World)(p q q2:Nat)(len:Int)(B:Nat)(It:Nat→Prop)(L:List (Option Ent))(N:Nat)(pre:List xJ)(x:xJ)(a':Act)(W:World):Prop :=
 ∃ D b8 va vn vc,x.2.2=.slice va vn vc∧Vs Fo w (q+1) (q+1+1) q len It D pre W∧Vr N L pre x W∧W.heap[b8]? = some (.cells #[.string x.2.1.key,x.2.2,.int .u64 x.2.1.dl,.int .u64 x.2.1.birth] 141 (0,0)) ∧ ¬ D b8 ∧ ¬ It b8∧N≤b8∧N≤W.heap.size ∧
  a' = {tmps:=#[.pointer (some ⟨p,0,none⟩),undef,.pointer (some ⟨w.heap.size,0,none⟩),.pointer (some ⟨w.heap.size+1,0,none⟩),.pointer (some ⟨w.heap.size+1+1,0,none⟩),.pointer (some ⟨q+1,0,none⟩),.pointer (some ⟨q+1+1,0,none⟩),
   .int .u32 x.1,.pointer (some ⟨b8,0,none⟩),undef,undef,.pointer (some ⟨p,0,none⟩),.pointer (some ⟨q2,0,none⟩),.bool false,undef,.pointer (some ⟨q,0,none⟩),.pointer (some ⟨p,0,none⟩),.int .i64 len,.agg #[.slice none 0 0,.int .i64 len],
   .pointer (some ⟨p,0,none⟩),.func (.func 331) #[] #[.pointer (some ⟨B,0,none⟩)],.int .u32 x.1,.agg #[.string x.2.1.key,x.2.2,.int .u64 x.2.1.dl,.int .u64 x.2.1.birth],
   undef,undef,undef,undef,undef,undef,undef,undef,undef,undef,undef,undef,undef,undef,undef,undef,undef,undef],defers:=[]}
theorem CAx.quiet{w:World}{p q q2:Nat}{len:Int}{B:Nat}{It:Nat→Prop}{L:List (Option Ent)}{N:Nat}{pre:List xJ}{x:xJ}{a':Act}{A W:World}(h:CAx Fo w p q q2 len B It L N pre x a' A)(hN:w.heap.size≤N)(hq:zB N A W):CAx Fo w p q q2 len B It L N pre x a' W:=by
 obtain⟨D,b8,va,vn,vc,h1,h2,h3,h4,h5,h6,h7,h8,h9⟩:=h;exact⟨D,b8,va,vn,vc,h1,h2.quiet hN hq,h3.quiet hq,hq.cells h4,h5,h6,h7,zH h8 (Mod.size hq),h9⟩
end
section
open Go.RowKit Go.Shelf
def below(xs:List Nat)(o:Nat):Nat:=xs.countP (decide <| · < o)

end
section
open Go.RowKit Go.Shelf
attribute [local go_sem] Oper.semAt_some
theorem zam{P:Program}(w:World)(d:Nat)(t:TypeId){ps rs:Array TypeId}{v:Bool}(fn:Fn)(fi ca:Array Value)(h:P.underlying t=some (.func ps rs v)):(Op.equalIn (d+1) t (.func fn fi ca) .nilFunc).run P w=.ok false w:=by
 simp[Op.equalIn,run_underlying h]
@[go_sem] theorem zlM (w : World) (fn : Fn) (fi ca : Array Value) : (binOp .neq 338 (.func fn fi ca) .nilFunc).run prog w=.ok (.bool true) w := by
 simp only[binOp];simp[Op.equal,Op.maxDepth,zam w 9999 _ fn fi ca underlying338]
@[go_sem] theorem zlv (w : World) (fn : Fn) (fi ca : Array Value) : (binOp .eql 338 (.func fn fi ca) .nilFunc).run prog w=.ok (.bool false) w := by
 simp only[binOp];simp[Op.equal,Op.maxDepth,zam w 9999 _ fn fi ca underlying338]
def za7(L:List (Nat × Ent)):ByteArray:=L.foldl (fun s g=>s++g.2.key) ⟨#[]⟩
structure Uz(w:World)(b:Nat)(pre:List xJ)(W:World):Prop where
 r:W.heap[b]? = some (.cells #[.string (za7 (pre.map uJ))] 9 (0,0))
 pu:zc w W
 sz:(za7 (pre.map uJ)).size≤250*pre.length
theorem Uz.quiet{w:World}{b:Nat}{pre:List xJ}{A B:World}(h:Uz w b pre A){N:Nat}(hN:w.heap.size≤N)(hq:zB N A B):Uz w b pre B:=⟨hq.cells h.r,hq.mod h.pu hN,h.sz⟩
def KAx(w:World)(p B:Nat)(It:Nat→Prop)(N:Nat)(pre:List xJ)(x:xJ)(a':Act)(W:World):Prop :=
 ∃ b8 va vn vc,x.2.2=.slice va vn vc∧Uz w w.heap.size pre W∧W.heap[b8]? = some (.cells #[.string x.2.1.key,x.2.2,.int .u64 x.2.1.dl,.int .u64 x.2.1.birth] 141 (0,0))∧N≤b8∧N≤W.heap.size∧x.2.1.key.size≤250∧pre.length≤4194304 ∧
  a' = {tmps:=#[.pointer (some ⟨p,0,none⟩),undef,.string ⟨#[]⟩,.pointer (some ⟨w.heap.size,0,none⟩),.func (.func 331) #[] #[.pointer (some ⟨B,0,none⟩)],undef,.pointer (some ⟨b8,0,none⟩),.pointer (some ⟨p,0,none⟩),
   .func (.func 331) #[] #[.pointer (some ⟨B,0,none⟩)],.func (.func 331) #[] #[.pointer (some ⟨B,0,none⟩)],.bool true,.func (.func 331) #[] #[.pointer (some ⟨B,0,none⟩)],
   .int .u32 x.1,.agg #[.string x.2.1.key,x.2.2,.int .u64 x.2.1.dl,.int .u64 x.2.1.birth],undef,undef,undef,undef,undef],defers:=[]}
theorem KAx.quiet{w:World}{p B:Nat}{It:Nat→Prop}{N:Nat}{pre:List xJ}{x:xJ}{a':Act}{A W:World}(h:KAx w p B It N pre x a' A)(hN:w.heap.size≤N)(hq:zB N A W):KAx w p B It N pre x a' W:=by
 obtain⟨b8,va,vn,vc,h1,h2,h3,h4,h5,h6⟩:=h;exact⟨b8,va,vn,vc,h1,h2.quiet hN hq,hq.cells h3,h4,zH h5 (Mod.size hq),h6⟩
end
section
open Go.RowKit Go.Shelf
def XQ(a b:Int):Bool:=decide (0≤b)&&decide (16<a)&&decide (2*b≤a-17)
theorem Az4gm {P:Prop}(h:P:=by
 go_enter func137,ntmps137;go_wp2;go_ret;exact⟨by simp<;>omega,rfl⟩):P:=h
theorem zay(w:World)(a b:Int)(a0 : -9223372036854775808≤a)(a1:a≤9223372036854775807) :
  Calls prog 137 #[.int .i64 a,.int .i64 b] w fun e w'=>e=.returned (.bool (XQ a b))∧w=w':=by
 unfold XQ;by_cases h1:0≤b
 ·by_cases h2:16<a
  ·have h3:(a-16-1).tdiv 2=(a-17)/2:=by rw[Jn (by omega)];omega
   by_cases h4:2*b≤a-17
   ·have h5:b≤(a-17)/2:=by omega
    exact Az4gm
   ·have h5:(a-17)/2<b:=by omega
    exact Az4gm
  ·have h2':a≤16:=by omega
   exact Az4gm
 ·have h1':b<0:=by omega
  exact Az4gm
end
section
open Go
theorem zfU:Tryz.pinned.checked.prog.funcs.any Func.goes=false:=by kernel_rfl
theorem zfY{P:Program}(h:P.funcs.any Func.goes=false)(f:FuncId):P.goes f=false:=by
 have h1 : ∀ g:FuncId,(P.funcs[g]?).any Func.goes=false:=fun g=>by
  cases e:P.funcs[g]? with
  | none=>rfl
  | some fn =>
   show Func.goes fn=false
   rw[Array.any_eq_false]at h;obtain⟨hl,he⟩:=uX.1 e;have:=h g hl;rw[he]at this;simpa using this
 have h2:((P.closure f).any fun g=>(P.funcs[g]?).any Func.goes)=false:=by
  cases e:(P.closure f).any fun g=>(P.funcs[g]?).any Func.goes with
  | false=>rfl
  | true =>
   simp only[List.any_eq_true,Array.any_eq_true]at e
   first
    | (obtain⟨g,_,hg⟩:=e;rw[h1 g]at hg;cases hg)
    | (obtain⟨i,hi,hg⟩:=e;rw[h1]at hg;cases hg)
 unfold Program.goes;rw[h2,h,Bool.and_false]
 rfl
end
end Go.Proofs.YtdohbogbnheakaaGreatDoor
