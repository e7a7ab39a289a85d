/- Lemmas and contracts of functions. No condition. -/
import Derived.Shelf.Spec.TrailingZeros
import Derived.Test.YtifbnponicgplaaGreatDoorJPfBoth426
namespace Go.Proofs.YtifbnponicgplaaGreatDoor
open _root_.Go.Proofs.Tryz
set_option maxRecDepth 100000
set_option maxHeartbeats 20000000
set_option linter.all false
section
open Go.RowKit
abbrev mkP(p:Nat):Value := .pointer (some ⟨p,1,none⟩)
def whC(q:Nat)(f:Nat→Bool)(many:Int):Array Value:=#[.pointer (some ⟨q,0,none⟩),.int .u64 (xa f 0:Nat),.int .u64 (xa f 1:Nat),.int .u64 (xa f 2:Nat),.int .u64 (xa f 3:Nat),.int .i64 many]
theorem Kr{q:Nat}{f:Nat→Bool}{many:Int}{k:Nat}(hk:k<4):(whC q f many)[1+k]? = some (.int .u64 (xa f k:Nat)):=by
 have arr : ∀(a x0 x1 x2 x3 z:Value),(#[a,x0,x1,x2,x3,z]:Array Value)[1+0]? = some x0∧(#[a,x0,x1,x2,x3,z]:Array Value)[1+1]? = some x1∧(#[a,x0,x1,x2,x3,z]:Array Value)[1+2]? = some x2∧(#[a,x0,x1,x2,x3,z]:Array Value)[1+3]? = some x3:=fun _ _ _ _ _ _=>⟨rfl,rfl,rfl,rfl⟩
 have:k=0∨k=1∨k=2∨k=3:=by omega
 unfold whC;rcases this with rfl | rfl | rfl | rfl
 ·exact(arr _ _ _ _ _ _).1
 ·exact(arr _ _ _ _ _ _).2.1
 ·exact(arr _ _ _ _ _ _).2.2.1
 ·exact(arr _ _ _ _ _ _).2.2.2
theorem zdK{q:Nat}{f:Nat→Bool}{many:Int}{b:Nat}{v:Bool}{x:Nat}(hb:b<256)(hx:x=xa (vB f b v) (b/64)):(whC q f many).setIfInBounds (1+b/64) (.int .u64 (x:Nat))=whC q (vB f b v) many:=by
 rw[hx];clear hx;have h:=fun k (hk:k≠b/64)=>zgR (f:=f) (b:=b) (v:=v) hk
 have:b/64=0∨b/64=1∨b/64=2∨b/64=3:=by omega
 have arr : ∀(a x0 x1 x2 x3 y z:Value),(#[a,x0,x1,x2,x3,z]:Array Value).setIfInBounds (1+0) y=#[a,y,x1,x2,x3,z]∧(#[a,x0,x1,x2,x3,z]:Array Value).setIfInBounds (1+1) y=#[a,x0,y,x2,x3,z]∧(#[a,x0,x1,x2,x3,z]:Array Value).setIfInBounds (1+2) y=#[a,x0,x1,y,x3,z]∧(#[a,x0,x1,x2,x3,z]:Array Value).setIfInBounds (1+3) y=#[a,x0,x1,x2,y,z]:=fun _ _ _ _ _ _ _=>⟨rfl,rfl,rfl,rfl⟩
 rcases this with e | e | e | e<;>rw[e]at h ⊢ <;> unfold whC
 ·rw[(arr _ _ _ _ _ _ _).1,h 1 (by decide),h 2 (by decide),h 3 (by decide)]
 ·rw[(arr _ _ _ _ _ _ _).2.1,h 0 (by decide),h 2 (by decide),h 3 (by decide)]
 ·rw[(arr _ _ _ _ _ _ _).2.2.1,h 0 (by decide),h 1 (by decide),h 3 (by decide)]
 ·rw[(arr _ _ _ _ _ _ _).2.2.2,h 0 (by decide),h 1 (by decide),h 2 (by decide)]
section
variable{w w':World}{p q:Nat}{f:Nat→Bool}{many:Int}
theorem zeP(h:w.heap[p]? = some (.cells (whC q f many) 320 (0,0))){b:Nat}(hb:b<256) :
  Calls prog 290 #[mkP p,.int .i64 b] w fun e w'=>e=.returned (.tuple #[])∧w'.heap[p]? = some (.cells (whC q (vB f b true) many) 320 (0,0))∧Mod (fun k=>k=p) w w':=by
 have hk:b/64<4:=by omega
 have hr:b%64<64:=vi _ (by decide);have c0:w.cell? ⟨p,1+b/64,none⟩=some (.int .u64 (xa f (b/64):Nat)):=by rw[zi w p _ _ _ (0,0) h];exact Kr hk
 have g0:=yS w p (1+b/64) _ _ h;have hlt:p<w.heap.size:=zm h;have wq:wrap64 ((b:Int)/64)=((b/64:Nat):Int):=by rw[show(b:Int)/64=((b/64:Nat):Int) by omega];exact jT _ (by omega)
 have eq1:(b:Int)/64=((b/64:Nat):Int):=by omega
 have eq2:(b:Int)%64=((b%64:Nat):Int):=by omega
 have HS:=za (zkd (f:=f) (b:=b));have hwl:=Kk f (b/64);have hpl:2 ^ (b%64)<18446744073709551616:=Nat.pow_lt_pow_right (a:=2) (by decide) (show b%64<64 by omega);have hc2:((2 ^ (b%64):Nat):Int)=(2:Int) ^ (b%64):=by simp
 have hw2:=uG (2 ^ (b%64)) hpl;rw[hc2]at hw2;have hor:=VO (xa f (b/64)) (2 ^ (b%64)) hwl hpl;rw[hc2]at hor;clear hc2;have b0:(0:Int)≤(b:Int):=by omega
 have b1:(b:Int)<256:=by omega
 have HH:=za h;have HB:=za hb;obtain⟨k,hk'⟩ : ∃ k,b/64=k:=⟨_,rfl⟩;have HK:=za hk';clear h hb hk;rw[hk']at c0 g0 wq eq1 HS hwl hor;clear hk';generalize xa f k=x at *;generalize b%64=r at *;go_enter func290,ntmps290
 go_region
 have e1:=zX w p (1+k) _ _ (.int .u64 ((x ||| 2 ^ r:Nat):Int)) HH.out;have e2:=((Mod.refl (fun k=>k=p) w).setCell (p:=⟨p,1+k,none⟩) (fun _=>rfl) (.int .u64 ((x ||| 2 ^ r:Nat):Int))).drew;have e3:(whC q f many).setIfInBounds (1+k) (.int .u64 ((x ||| 2 ^ r:Nat):Int))=whC q (vB f b true) many:=by
  have:=zdK (q:=q) (f:=f) (many:=many) (v:=true) (x:=x ||| 2 ^ r) HB.out (by rw[HK.out];exact HS.out);rw[HK.out]at this;exact this
 rw[e3]at e1
 go_end0
 exact⟨rfl,e1,e2⟩
theorem zeT(h:w.heap[p]? = some (.cells (whC q f many) 320 (0,0))){b:Nat}(hb:b<256) :
  Calls prog 274 #[mkP p,.int .i64 b] w fun e w'=>e=.returned (.tuple #[])∧w'.heap[p]? = some (.cells (whC q (vB f b false) many) 320 (0,0))∧Mod (fun k=>k=p) w w':=by
 have hk:b/64<4:=by omega
 have hr:b%64<64:=vi _ (by decide);have c0:w.cell? ⟨p,1+b/64,none⟩=some (.int .u64 (xa f (b/64):Nat)):=by rw[zi w p _ _ _ (0,0) h];exact Kr hk
 have g0:=yS w p (1+b/64) _ _ h;have hlt:p<w.heap.size:=zm h;have wq:wrap64 ((b:Int)/64)=((b/64:Nat):Int):=by rw[show(b:Int)/64=((b/64:Nat):Int) by omega];exact jT _ (by omega)
 have eq1:(b:Int)/64=((b/64:Nat):Int):=by omega
 have eq2:(b:Int)%64=((b%64:Nat):Int):=by omega
 have HS:=za (zhd (f:=f) (b:=b));have hwl:=Kk f (b/64);have hpl:2 ^ (b%64)<18446744073709551616:=Nat.pow_lt_pow_right (a:=2) (by decide) (show b%64<64 by omega);have hc2:((2 ^ (b%64):Nat):Int)=(2:Int) ^ (b%64):=by simp
 have hw2:=uG (2 ^ (b%64)) hpl;rw[hc2]at hw2;have hor:=KN (xa f (b/64)) (2 ^ (b%64)) _ hwl hpl rfl;rw[hc2]at hor;clear hc2;have b0:(0:Int)≤(b:Int):=by omega
 have b1:(b:Int)<256:=by omega
 have HH:=za h;have HB:=za hb;obtain⟨k,hk'⟩ : ∃ k,b/64=k:=⟨_,rfl⟩;have HK:=za hk';clear h hb hk;rw[hk']at c0 g0 wq eq1 HS hwl hor;clear hk';generalize xa f k=x at *;generalize b%64=r at *;go_enter func274,ntmps274
 go_region
 have e1:=zX w p (1+k) _ _ (.int .u64 ((x &&& (18446744073709551615-2 ^ r):Nat):Int)) HH.out;have e2:=((Mod.refl (fun k=>k=p) w).setCell (p:=⟨p,1+k,none⟩) (fun _=>rfl) (.int .u64 ((x &&& (18446744073709551615-2 ^ r):Nat):Int))).drew;have e3:(whC q f many).setIfInBounds (1+k) (.int .u64 ((x &&& (18446744073709551615-2 ^ r):Nat):Int))=whC q (vB f b false) many:=by
  have:=zdK (q:=q) (f:=f) (many:=many) (v:=false) (x:=x &&& (18446744073709551615-2 ^ r)) HB.out (by rw[HK.out];exact HS.out);rw[HK.out]at this;exact this
 rw[e3]at e1
 go_end0
 exact⟨rfl,e1,e2⟩
end
def xb(w:World):Prop:=TabAt 0 Lib.deBruijn64tab w
theorem xb.mod{S:Nat→Prop}{w w':World}(h:xb w)(hm:Mod S w w')(h0 : ¬ S 0):xb w':=fun j hj=>hm.cell h0 (h j hj)
theorem xb.pure{w w':World}(h:xb w)(hm:zb w w'):xb w':=h.mod hm (fun h=>h)
theorem xb.lt{w:World}(h:xb w):0<w.heap.size:=YE w _ (h 0 (by decide))
theorem zh2(x k idx:Nat)(w:World)(hx0:((x:Int)==0)=false)
  (key:IntKind.u64.wrap (bits BinOp.and IntKind.u64 (x:Int) (IntKind.u64.wrap (-(x:Int)))*285870213051353865)/288230376151711744=(idx:Int))
  (hi:idx<64) (hk:k<64) (hcell:w.cell? ⟨0,idx,none⟩=some (.int .u8 k)):Calls prog 304 #[.int .u64 x] w fun e w'=>e=.returned (.int .i64 k)∧w=w':=by
 go_enter func304,ntmps304
 go_wp2_with (simp only[key])
 go_ret;exact⟨rfl,rfl⟩
theorem ziU(x:Nat)(hx:x<18446744073709551616)(h0:x≠0)(w:World)(hT:xb w):Calls prog 304 #[.int .u64 x] w fun e w'=>e=.returned (.int .i64 (Lib.ctz 64 x))∧w=w':=by
 obtain⟨hlow,hk⟩:=Lib.lowest_bit 64 x h0 hx;obtain⟨hi,htab⟩:=Lib.deBruijn64_at _ hk;have hcell:=hT _ hi;rw[htab]at hcell;exact zh2 x _ _ w (by simp;omega) (tz64_key x _ hx h0 hlow) hi hk hcell
theorem zgP{x:Nat}(hx:x<18446744073709551616)(h0:x≠0):Lib.ctz 64 x<64∧x.testBit (Lib.ctz 64 x)=true ∧ ∀ j,j<Lib.ctz 64 x→x.testBit j=false:=by
 obtain⟨m,hm,hk⟩:=Lib.ctzFrom_spec 64 x (by omega) hx;have e:Lib.ctz 64 x=Lib.ctzFrom 64 x:=by unfold Lib.ctz;rw[zh h0]
 rw[e];generalize Lib.ctzFrom 64 x=c at *;refine⟨hk,?_,fun j hj => ?_⟩
 ·rw[hm,Nat.testBit_two_pow_mul];simp
 ·rw[hm,Nat.testBit_two_pow_mul];simp;omega
def Uj(f:Nat→Bool):Value:=match uE f 256 with
 | some b => .tuple #[.int .i64 (b:Nat),.bool true]
 | none => .tuple #[.int .i64 0,.bool false]
section
variable{w w':World}{p q:Nat}{f:Nat→Bool}{many:Int}
theorem zlh(h:w.heap[p]? = some (.cells (whC q f many) 320 (0,0)))(hT:xb w) :
  Calls prog 287 #[mkP p,.int .i64 0] w fun e w'=>e=.returned (Uj f)∧w=w':=by
 have HH:=za h;have HT:=za hT;clear h hT;go_enter func287,ntmps287;go_upto_region 3 with fail
 go_loop [6,7] (fun v6 v7 => ∃ k:Nat,v6=.int .u64 18446744073709551615∧v7=.int .i64 k∧k≤4 ∧ ∀ i,i<k→xa f i=0) (fun _ v7=>4-(intOf v7).toNat)
 case atStart=>exact⟨0,rfl,rfl,by omega,fun i hi=>by omega⟩
 case round =>
  obtain⟨k,rfl,rfl,hk,hz⟩:=hrel;have HZ:=za hz;clear hz;by_cases hlt:k<4
  ·have hlt':(k:Int)<4:=by omega
   have k0:(0:Int)≤(k:Int):=by omega
   have wi:IntKind.i64.wrap ((k:Int)+1)=(k:Int)+1:=zt _ (by omega);have dk:decide (k<4)=true:=zQ hlt;have c0:w.cell? ⟨p,1+k,none⟩=some (.int .u64 (xa f k:Nat)):=by rw[zi w p _ _ _ (0,0) HH.out];exact Kr hlt
   have hwl:=Kk f k;have hand:=XI (xa f k) 18446744073709551615 hwl (by decide);have hand2:xa f k &&& 18446744073709551615=xa f k:=by
    have:(18446744073709551615:Nat)=2 ^ 64-1:=rfl;rw[this,UG];exact xS hwl
   rw[hand2]at hand;obtain⟨x,hx⟩:=zf (xa f k);rw[hx]at c0 hwl hand;have HX:=za hx;rw[show((18446744073709551615:Nat):Int)=18446744073709551615 by decide]at hand;clear hx hand2;by_cases hx0:x=0
   ·have HX0:=za hx0;have e0:((x:Int)==0)=true:=by simp;omega
    have e1:((x:Int) != 0)=false:=by simp;omega
    clear hx0;go_wp2
    go_round
    case rel=>exact⟨k+1,rfl,by go_num,hlt,fun i hi=>by
     by_cases e:i=k
     ·subst e;exact HX.out.trans HX0.out
     ·exact HZ.out i (by omega)⟩
    case measure=>simp[intOf];omega
   ·have HZ4:=za (ziU x hwl hx0 w HT.out);obtain⟨hc1,hc2,hc3⟩:=zgP hwl hx0;have hfb:uE f 256=some (64*k+Lib.ctz 64 x):=by
     refine zf3 (by omega) ?_ (fun j hj => ?_)
     ·rw[← HX.out,jH]at hc2;simp at hc2;rw[← HX.out];exact hc2.2
     ·by_cases c:j/64=k
      ·have:=hc3 (j%64) (by omega);rw[← HX.out,jH]at this;simp at this;have h2:=this (vi _ (by decide));rw[show 64*k+j%64=j by omega]at h2;exact h2
      ·have:=Jg.1 (HZ.out (j/64) (by omega)) (j%64) (vi _ (by decide));rw[show 64*(j/64)+j%64=j by omega]at this;exact this
    have HFB:=za hfb;have e0:((x:Int)==0)=false:=by simp;omega
    have e1:((x:Int) != 0)=true:=by simp;omega
    clear hfb hc2 hc3;generalize Lib.ctz 64 x=t at *;have w64:IntKind.i64.wrap (64*(k:Int))=64*(k:Int):=zt _ (by omega);have w65:IntKind.i64.wrap (64*(k:Int)+(t:Int))=64*(k:Int)+(t:Int):=zt _ (by omega)
    go_wp2_with (go_at_call 304;refine HZ4.out.mono ?_;rintro e w' ⟨rfl,rfl⟩)
    go_ret2;exact⟨by unfold Uj;rw[HFB.out];rfl,rfl⟩
  ·have hk4:k=4:=by omega
   subst hk4;have hfb:uE f 256=none:=zff (fun j hj=>by
    have:=Jg.1 (HZ.out (j/64) (by omega)) (j%64) (vi _ (by decide));rw[show 64*(j/64)+j%64=j by omega]at this;exact this)
   have HFB:=za hfb;clear hfb;go_wp2;go_ret2;exact⟨by unfold Uj;rw[HFB.out];rfl,rfl⟩
end
theorem qt:(prog.info? 89).map (fun i=>(i.zero,i.size,i.bytes))=some (some (.int .u32 0),1,4):=by kernel_rfl
def zY(xs:List Nat):List Value:=xs.map (fun x:Nat=>(.int .u32 x:Value))
theorem qz(a b:List Nat):zY (a++b)=zY a++zY b:=by simp[zY]
theorem qp(a:List Nat):(zY a).length=a.length:=by simp[zY]
abbrev yu(w:World)(a:Option Addr)(c:Nat)(xs:List Nat):Prop:=w.ownsRow 0 89 1 (.slice a xs.length c) xs.length (zY xs)
def xq(w:World)(v:Value):Prop := ∀ g,v.ownBlock=some g→w.heap.size≤g
theorem UL(xs:List Nat) : ∀ u∈zY xs,u.oneCell'=true:=by
 intro u hu;unfold zY at hu;obtain⟨x,_,rfl⟩:=zI.1 hu
 rfl
theorem zdL{F:List Nd} : ∀ {l:List Nat} {a:Nat},Ch F a l → ∀(i x y:Nat),(a::l)[i]? = some x→l[i]? = some y→(nd F x).nx=y
 | [],_,_,i,x,y,_,h=>by simp at h
 | z::l,a,⟨h1,h2,h3⟩,0,x,y,hx,hy=>by
  simp at hx hy;rw[← hx,h1,hy]
 | z::l,a,⟨h1,h2,h3⟩,i+1,x,y,hx,hy=>zdL h3 i x y (by simpa using hx) (by simpa using hy)
theorem kq.at_{F:List Nd}{r:Nat}{l:List Nat}(h:kq F r l){i x y:Nat}(hx:(r::l)[i]? = some x)(hy:(l++[r])[i]? = some y):(nd F x).nx=y:=by
 refine zdL h i x y ?_ hy;rw[← zdV,uw (by exact(zE.1 hx).1)];exact hx
section
variable{w w':World}{p N:Nat}{Ls:List (List Nat)}{D:Nat→Prop}
theorem KR(h:yl w D p N Ls){k:Nat}{l:List Nat}(hl:Ls[k]? = some l) :
    Calls prog 263 #[lkP p,.int .i64 k] w fun e w' => ∃ a c,e=.returned (.slice a l.length c)∧yu w' a c l∧xq w (.slice a l.length c)∧zb w w':=by
  obtain⟨gF,gL,cF,cL,F,h,_⟩:=h;have hk:k<Ls.length:=(zE.1 hl).1;have hk4:k≤4096:=by have:=h.hm;omega
  have HLi:=za (Vn h hk);have HRi:=za (J7 h hk4);have HNX:Hid (∀ {i x y:Nat},((N+k)::l)[i]? = some x→(l++[N+k])[i]? = some y→(nd F x).nx=y):=za (fun hx hy=>(h.ok.ring k l hl).at_ hx hy);have HLT:Hid (∀(i x:Nat),(l++[N+k])[i]? = some x→x<F.length∧(i<l.length→x<N∧l[i]? = some x)∧(l.length≤i→x=N+k)):=za (fun i x hx=>by
    have hm:=ym hx;refine⟨(h.ok.mem_lt hl x hm).1,fun hi => ?_,fun hi => ?_⟩
    · rw[uw hi]at hx
      exact⟨(h.ok.own k l hl x (ym hx)).1,hx⟩
    · rw[jn hi]at hx
      rw[List.getElem?_singleton]at hx;split at hx
      · injection hx with hx;exact hx.symm
      · cases hx)
  have hll:l.length≤N:=h.ok.short hl;have hnm:=h.nm;have hFb:F.length≤4198400:=by rw[h.ok.len];have:=h.hm;omega
  have hNF:N+k<F.length:=h.ok.hd_lt hk;obtain⟨FL,hFL⟩:=zf F.length;rw[hFL]at hFb hNF HLT;obtain⟨c0,c1,c2⟩:=h.at_ (i:=N+k) (by rw[hFL];exact hNF);obtain⟨y0,hy0⟩ : ∃ y,(l++[N+k])[0]? = some y:=⟨_,zO (by simp)⟩;rw[HNX.out (i:=0) rfl hy0]at c1;have hb:=h.box;rw[hFL]at hb;have HB:=za hb;have HM:=za h;have HFLe:=za hFL;obtain⟨r,hr⟩:=zf (N+k);rw[hr]at HRi HNX HLT hNF c1 hy0;have HY0:=za hy0;have hNr:N≤r:=by omega
  have dr:decide (r<FL)=true:=zQ hNF;have HY0L:=HLT.out _ _ hy0;have hy0b:y0<FL:=HY0L.1;clear h hl hFL hr c0 c2 hy0 HY0L;obtain⟨hb_0,hb_1,hb_2,hb_f,hb_l,H_hb⟩:=cr3 hb;clear hb;obtain⟨i0,hi,iz0,iz1,iz2⟩:=xB qt;go_enter func263,ntmps263
  go_upto_block 0 with(first
    | (go_at_call 283;refine HLi.out.mono ?_;rintro e w' ⟨rfl,rfl⟩)
    | (go_at_call 203;refine HRi.out.mono ?_;rintro e w' ⟨rfl,rfl⟩))
  go_wp2_with fail
  have t1:=HM.out;clear t1;clear hb_0 hb_1 hb_2 hb_f hb_l;clear H_hb;go_loopw [6,7] (fun v6 v7 wr => ∃(i:Nat) (a:Option Addr) (c:Nat) (y:Nat),v7=.int .u32 y∧i≤l.length∧(l++[r])[i]? = some y∧v6=.slice a i c∧yu wr a c (l.take i)∧xq w (.slice a i c)∧zb w wr) (fun v6 _ _=>l.length-(match v6 with | .slice _ n _=>n | _=>0))
  case atStart=>exact⟨0,none,0,y0,rfl,yq _,HY0.out,rfl,vV _ _ _ _,(fun g hg=>by cases hg),Mod.refl _ _⟩
  case round =>
    obtain⟨i,a,c,y,rfl,hi9,hy,rfl,hrow,hfr,hpu⟩:=hrel;obtain⟨hy1,hy2,hy3⟩:=HLT.out _ _ hy;have HY:=za hy;have HMr:=za (HM.out.pure hpu);have hb:=hpu.heap (fun h=>h) HB.out;have hcl:=(HMr.out.at_ (i:=y) (by rw[HFLe.out];exact hy1));obtain⟨q0,q1,q2⟩:=hcl;have HRow:=za hrow;have HFR:=za hfr;have HPU:=za hpu;clear hy hrow hfr hpu q0 q2;by_cases hlt:i<l.length
    · obtain⟨hy4,hy5⟩:=hy2 hlt
      have hne:((y:Int)==(r:Int))=false:=by simp;omega
      have hne2:((y:Int) != (r:Int))=true:=by simp;omega
      obtain⟨y',hy'⟩ : ∃ y',(l++[r])[i+1]? = some y':=⟨_,zO (by simp;omega)⟩;have hnx:(nd F y).nx=y':=HNX.out (i:=i+1) (by simpa using hy5) hy';rw[hnx]at q1;have hy'b:=(HLT.out _ _ hy').1;have dy:decide (y<FL)=true:=zQ hy1;have htk:l.take (i+1)=l.take i++[y]:=by rw[uH,hy5];rfl
      have htl:(l.take i).length=i:=by rw[Zi];omega
      have HTK:=za htk;have HTL:=za htl;have HY':=za hy';have hrr:wr.ownsRow 0 89 1 (.slice a i c) i (zY (l.take i)):=by have:=HRow.out;unfold yu at this;rw[htl]at this;exact this
      have HRR:=za hrr;have q1b:=q1;clear htk htl hy' hnx hrr hy2 hy3 hy5 q1;obtain⟨hb_0,hb_1,hb_2,hb_f,hb_l,H_hb⟩:=cr3 hb;clear hb;go_upto_region 7 with(at_builtin;refine uX _ rfl _ _ 157 rfl 89 i0 _ 1 4 underlying157 hi iz0 iz1 iz2 rfl (by decide) (.slice a i c) i _ rfl (zz HRR.out ((Mod.refl (fun _=>False) wr).alloc _) (fun _ _ h=>h)) _ [.int .u32 (y:Nat)] 1 rfl (zr.of_block 1 1 1 (zk rfl) (by rfl) (by simp[Value.oneCell'])) rfl (by unfold maxLen;omega) (by omega) ?_;intro a7 c7 w5 hr7 hg7 hb7)
      have hpw:zb w w5:=(HPU.out.alloc _).then (Mod.of_grown (S:=fun k'=>(Value.slice a i c).ownBlock=some k') hg7 (fun k e _=>e)) (fun k hk e=>by have:=HFR.out k e;omega);have hfw:xq w (.slice a7 (i+1) c7):=fun k hk=>by
        rcases hb7 with e | e
        · exact HFR.out k (e ▸ hk)
        · rw[e]at hk;cases hk;exact(HPU.out.alloc _).size
      have HPW:=za hpw;have HFW:=za hfw;have HR7:=za hr7;have hb5:=hpw.heap (fun h=>h) HB.out;obtain⟨z0,z1,z2⟩:=((HM.out.pure hpw).at_ (i:=y) (by rw[HFLe.out];exact hy1));rw[HNX.out (i:=i+1) (by have:=(HLT.out _ _ HY.out).2.1 hlt;simpa using this.2) HY'.out]at z1;clear hb_0 hb_1 hb_2 hb_f hb_l;clear H_hb hpw hfw hr7 hg7 hb7 q1b z0 z2 hne hne2;obtain⟨hb5_0,hb5_1,hb5_2,hb5_f,hb5_l,H_hb5⟩:=cr3 hb5;clear hb5;go_wp2;go_roundw
      case rel=>exact⟨i+1,a7,c7,y',rfl,hlt,HY'.out,rfl,by unfold yu;rw[HTK.out,zT,HTL.out,qz];exact HR7.out,HFW.out,HPW.out⟩
      case measure=>simp;omega
    · have hri:y=r:=hy3 (by omega)
      have hil:i=l.length:=by omega
      subst hri hil;have HTA:Hid (l.take l.length=l):=za (by rw[List.take_length]);clear hy2 hy3 hlt hi9;go_wp2;go_ret;refine⟨a,c,rfl,?_,HFR.out,HPU.out⟩;have:=HRow.out;rw[HTA.out]at this;exact this
end
def uN(Ls:List (List Nat))(h j:Nat):List (List Nat):=(List.range Ls.length).map (fun k=>if k<h then Ls.getD k []else if k=h then(Ls.getD h []).take j else[])
theorem Zn(Ls:List (List Nat))(h j:Nat):(uN Ls h j).length=Ls.length:=by simp[uN]
theorem qM{Ls:List (List Nat)}{h j k:Nat}(hk:k<Ls.length):(uN Ls h j)[k]? = some (if k<h then Ls.getD k []else if k=h then(Ls.getD h []).take j else[]):=by
 unfold uN;rw[yz,qe hk];rfl
theorem XP{Ls:List (List Nat)}{h:Nat}{l:List Nat}(hl:Ls[h]? = some l):Ls.getD h []=l:=by rw[vM,hl];rfl
theorem zee(Ls:List (List Nat)):uN Ls 0 0=List.replicate Ls.length []:=by
 refine uF (fun k => ?_);rw[vU];by_cases hk:k<Ls.length
 ·rw[qM hk,zj hk,zh (by omega)];split<;>simp
 ·rw[zh hk,xM (by rw[Zn];omega)]
theorem zfb(Ls:List (List Nat))(j:Nat):uN Ls Ls.length j=Ls:=by
 refine uF (fun k => ?_);by_cases hk:k<Ls.length
 ·rw[qM hk,zj hk,vM,zO hk];rfl
 ·rw[xM (by rw[Zn];omega),xM (by omega)]
theorem zhh{Ls:List (List Nat)}{h:Nat}{l:List Nat}(hl:Ls[h]? = some l):uN Ls h l.length=uN Ls (h+1) 0:=by
 refine uF (fun k => ?_);by_cases hk:k<Ls.length
 ·rw[qM hk,qM hk,XP hl,List.take_length]
  congr 1
  by_cases c1:k<h
  ·rw[zj c1,zj (by omega)]
  ·rw[zh c1];by_cases c2:k=h
   ·subst c2;rw[zj rfl,zj (by omega),XP hl]
   ·rw[zh c2,zh (by omega)];split<;>simp
 ·rw[xM (by rw[Zn];omega),xM (by rw[Zn];omega)]
theorem zkS{Ls:List (List Nat)}{h j:Nat}{l:List Nat}(hl:Ls[h]? = some l):(uN Ls h j)[h]? = some (l.take j):=by
 rw[qM (zE.1 hl).1,zh (by omega),zj rfl,XP hl]
theorem zfW{Ls:List (List Nat)}{h j n:Nat}{l:List Nat}(hl:Ls[h]? = some l)(hn:l[j]? = some n):(uN Ls h j).set h (l.take j++[n])=uN Ls h (j+1):=by
 have hh:=(zE.1 hl).1;refine uF (fun k => ?_);by_cases hk:k<Ls.length
 ·rw[qM hk];by_cases e:h=k
  ·subst e;rw[yt (by rw[Zn];exact hk),zh (by omega),zj rfl,XP hl,uH,hn]
   rfl
  ·rw[yw e,qM hk];simp only[if_neg (fun c:k=h=>e c.symm)]
 ·rw[xM (by rw[xC,Zn];omega),xM (by rw[Zn];omega)]
theorem zko{N:Nat}{Ls:List (List Nat)}{F:List Nd}(ok:xz N Ls F){h j n:Nat}{l:List Nat}(hl:Ls[h]? = some l)(hn:l[j]? = some n) : ¬ inL (uN Ls h j) n:=by
 rintro⟨k,m,hm,hmem⟩;have hnl:=ym hn;have hk:k<Ls.length:=by have:=(zE.1 hm).1;rwa [Zn]at this
 rw[qM hk]at hm;injection hm with hm
 have h1:=(ok.own h l hl n hnl).2;by_cases c1:k<h
 ·rw[zj c1]at hm;have hLk:Ls[k]? = some m:=by rw[← hm,vM,zO hk];rfl
  have:=(ok.own k m hLk n hmem).2;omega
 ·rw[zh c1]at hm;by_cases c2:k=h
  ·rw[zj c2,XP hl]at hm;rw[← hm]at hmem;obtain⟨i,hi⟩:=uk hmem;rw[j4]at hi;split at hi
   ·have hnd:=ok.nodup h l hl;have:=(List.getElem?_inj (zE.1 hi).1 hnd (j:=j)).1 (hi.trans hn.symm);omega
   ·cases hi
  ·rw[zh c2]at hm;rw[← hm]at hmem
   cases hmem
theorem Ue{W:World}{a:Option Addr}{n c:Nat}{xs:List Nat}(h:zr W (.slice a n c) 1 (zY xs)){j y:Nat}(hy:xs[j]? = some y) : ∃ ad,a=some ad∧W.cell? (ad.add j)=some (.int .u32 y):=by
 obtain⟨a',n',c',e,hl,_,h0,hc⟩:=h
 cases e
 have hu:(zY xs)[j]? = some (.int .u32 y):=by unfold zY;rw[yz,hy];rfl
 cases a with
 | none =>
  have h1:=h0 rfl;have h2:=(zE.1 hu).1;omega
 | some ad=>exact⟨ad,rfl,hc ad rfl j _ hu⟩
theorem Zm{W:World}{a:Option Addr}{c:Nat}{xs:List Nat}(h:yu W a c xs):zr W (.slice a xs.length c) 1 (zY xs):=zr.of_owns h (UL xs)
theorem zcl{X:World}{b:Nat}{u0 u1 u2 v0 v1 v2:Value}{T:TypeId}(h:X.heap[b]? = some (.cells #[u0,u1,u2] T (0,0))) :
  (((X.setCell ⟨b,0,none⟩ v0).setCell ⟨b,1,none⟩ v1).setCell ⟨b,2,none⟩ v2).heap[b]? = some (.cells #[v0,v1,v2] T (0,0)):=by
 have h1:=zX X b 0 _ T v0 h;have h2:=zX _ b 1 _ T v1 h1;have h3:=zX _ b 2 _ T v2 h2;simpa using h3
section
variable{w w':World}{p N:Nat}{Ls:List (List Nat)}{D:Nat→Prop}
theorem yl.lenH(h:yl w D p N Ls):Ls.length≤4096∧N≤4194304∧1≤N:=by obtain⟨gF,gL,cF,cL,F,h1,h2⟩:=h;exact⟨h1.hm,h1.nm,h1.n1⟩
theorem zbW(h:yl w D p N Ls)(hH:1≤Ls.length)(a:Option Addr)(c:Nat)(hto:zr w (.slice a N c) 1 (zY (List.range N))){M:Nat}(hNM:N≤M)(hM:M≤4194304) :
    Calls prog 280 #[lkP p,.slice a N c,.int .i64 M] w fun e w'=>e=.returned (.int .i64 0)∧(∃ D',yl w' D' p M Ls ∧ ∀ k,D' k→k=p∨w.heap.size≤k)∧Mod (fun k=>k=p) w w':=by
  obtain⟨h4,h5,h6⟩:=h.lenH;have HAt:=za h;obtain⟨gF,gL,cF,cL,F,hm,hD⟩:=h;have HOK:=za hm.ok;have HTO:=za hto;have HN:=za (XH hm);obtain⟨H,hHe⟩:=zf Ls.length;have HNe:=za (JE w (N:=M) (H:=H) (by omega) hM (by omega) (by omega));have hb:=hm.box;obtain⟨FL,hFL⟩:=zf F.length;rw[hHe,hFL]at hb;rw[hHe]at h4 hH;have HB:=za hb;have HHe:=za hHe;clear hm hD hFL hto hHe;have wH:IntKind.i64.wrap (H:Int)=H:=zt _ (by omega);have wN:IntKind.i64.wrap (N:Int)=N:=zt _ (by omega);obtain⟨hb_0,hb_1,hb_2,hb_f,hb_l,H_hb⟩:=cr3 hb;clear hb;go_enter func280,ntmps280;go_upto_region 4 with(first
    | (go_at_call 302;refine HN.out.mono ?_;rintro e w' ⟨rfl,rfl⟩)
    | (go_at_call 157;refine HNe.out.mono ?_;rintro e w1 ⟨q,D2,rfl,hq,hp1,hf1⟩))
  have hb1:=hp1.heap (fun h=>h) HB.out;have HQ:=za hq;have HP1:=za hp1;have HF1:=za hf1;clear hb_0 hb_1 hb_2 hb_f hb_l;clear H_hb hq hp1 hf1;have HB1:=za hb1;obtain⟨hb1_0,hb1_1,hb1_2,hb1_f,hb1_l,H_hb1⟩:=cr3 hb1;clear hb1;go_upto_region 7 with fail
  clear hb1_0 hb1_1 hb1_2 hb1_f hb1_l;clear H_hb1;go_loopw [40] (fun v wr => ∃ i,v=.int .i64 (i:Nat)∧i≤H∧yl wr D2 q M (uN Ls i 0)∧zb w wr) (fun v _=>H-(intOf v).toNat)
  case atStart=>exact⟨0,rfl,yq _,by rw[zee,HHe.out];exact HQ.out,HP1.out⟩
  case round =>
    clear HQ HP1 HB1;obtain⟨i,rfl,hi,hq,hpw⟩:=hrel;have HQ:=za hq;have HPW:=za hpw;clear hq hpw;by_cases hlt:i<H
    · have hlt':(i:Int)<(H:Int):=by omega
      have i0:(0:Int)≤(i:Int):=by omega
      have wi:IntKind.i64.wrap ((i:Int)+1)=(i:Int)+1:=zt _ (by omega);obtain⟨l,hl⟩ : ∃ l,Ls[i]? = some l:=⟨_,zO (by rw[HHe.out];exact hlt)⟩;have HL:=za hl;have HAl:=za (KR (HAt.out.pure HPW.out) hl);have hll:l.length≤N:=HOK.out.short hl;obtain⟨n,hn⟩:=zf l.length;rw[hn]at HAl hll;have HLN:=za hn;clear hl hn;go_upto_region 10 with(go_at_call 263;refine HAl.out.mono ?_;rintro e w3 ⟨a3,c3,rfl,hrow,hfr,hp3⟩)
      have hnD : ∀ g,(Value.slice a3 n c3).ownBlock=some g → ¬ D2 g:=fun g hg e=>by have:=hfr g hg;have:=HQ.out.lt e;omega
      have HRow:=za hrow;have HND:=za hnD;have HQ3:=za (HQ.out.pure hp3);have HP3:=za (HPW.out.trans hp3);clear hrow hfr hp3 hnD HAl;have wn:IntKind.i64.wrap (n:Int)=n:=zt _ (by omega);go_loopw [47] (fun v wr => ∃ j,v=.int .i64 (j:Nat)∧j≤n∧yl wr D2 q M (uN Ls i j)∧zb w wr∧yu wr a3 c3 l) (fun v _=>n-(intOf v).toNat)
      case atStart=>exact⟨0,rfl,yq _,HQ3.out,HP3.out,by unfold yu;rw[HLN.out];have:=HRow.out;unfold yu at this;rw[HLN.out]at this;exact this⟩
      case round =>
        clear HQ HPW HQ3 HP3 HRow;obtain⟨j,rfl,hj,hq,hpw,hrow⟩:=hrel;by_cases hlt2:j<n
        · have hlt2':(j:Int)<(n:Int):=by omega
          have j0:(0:Int)≤(j:Int):=by omega
          have wj:IntKind.i64.wrap ((j:Int)+1)=(j:Int)+1:=zt _ (by omega);obtain⟨y,hy⟩ : ∃ y,l[j]? = some y:=⟨_,zO (by rw[HLN.out];exact hlt2)⟩;obtain⟨ad,had,z0⟩:=Ue (Zm hrow) hy;have hyN:y<N:=(HOK.out.own i l HL.out y (ym hy)).1;obtain⟨ad2,had2,z1⟩:=Ue (HTO.out.frame hpw (fun _ _ h=>h)) (j:=y) (y:=y) (by rw[qe hyN]);have HBk:=za (Kj hq (n:=y) (k:=i) (l:=l.take j) (by omega) (zkS HL.out) (zko HOK.out HL.out hy));rw[zfW HL.out hy]at HBk;have dy:decide (y<N)=true:=zQ hyN;have hyb:y≤4294967295:=by omega
          have HPW:=za hpw;have HRow:=za hrow;have HQl:=za hq;subst had had2;clear hy hq hpw hrow
          go_wp2_with (go_at_call 240;refine HBk.out.mono ?_;rintro e w5 ⟨rfl,hq5,hm5⟩)
          go_roundw
          case rel=>exact⟨j+1,by go_num,hlt2,hq5,HPW.out.then hm5 (fun k hk e=>by have:=HF1.out k e;omega),zz HRow.out hm5 (by rw[HLN.out];exact HND.out)⟩
          case measure=>simp[intOf];omega
        · have e:n=j:=by omega
          subst e;have HQf:Hid (yl wr D2 q M (uN Ls (i+1) 0)):=za (by rw[← zhh HL.out,HLN.out];exact hq);have HPW:=za hpw;clear hq hpw hrow hj hlt2;go_wp2;go_roundw
          case rel=>exact⟨i+1,by go_num,hlt,HQf.out,HPW.out⟩
          case measure=>simp[intOf];omega
    · have e:H=i:=by omega
      subst e;have hq:=HQ.out;rw[← HHe.out,zfb]at hq;obtain⟨gF2,gL2,cF2,cL2,F2,hm2,hD2⟩:=hq;have hb:=HPW.out.heap (fun h=>h) HB.out;have hb2:=hm2.box;rw[HHe.out]at hb2;have hqp:q≠p:=by
        have h1:=HF1.out q ((hD2 q).2 (.inl rfl));have h2:=zm HB.out;omega
      have HM2:=za hm2;have HD2:=za hD2;obtain⟨FL2,hFL2⟩:=zf F2.length;rw[hFL2]at hb2;have HFL2:=za hFL2;have hfin:((wr.setCell ⟨p,0,none⟩ (.slice (some ⟨gF2,0,none⟩) FL2 cF2)).setCell ⟨p,1,none⟩ (.int .i64 M)).setCell ⟨p,2,none⟩ (.slice (some ⟨gL2,0,none⟩) H cL2)=((wr.setCell ⟨p,0,none⟩ (.slice (some ⟨gF2,0,none⟩) FL2 cF2)).setCell ⟨p,1,none⟩ (.int .i64 M)).setCell ⟨p,2,none⟩ (.slice (some ⟨gL2,0,none⟩) H cL2):=rfl;have HBr:=za hb;clear hm2 hD2 hFL2 hfin hi hlt;obtain⟨hb_0,hb_1,hb_2,hb_f,hb_l,H_hb⟩:=cr3 hb;clear hb;obtain⟨hb2_0,hb2_1,hb2_2,hb2_f,hb2_l,H_hb2⟩:=cr3 hb2;clear hb2;go_wp2;have hm:=(((Mod.refl (fun k=>k=p) wr).setCell (p:=⟨p,0,none⟩) (fun _=>rfl) (.slice (some ⟨gF2,0,none⟩) FL2 cF2)).setCell (p:=⟨p,1,none⟩) (fun _=>rfl) (.int .i64 M)).setCell (p:=⟨p,2,none⟩) (fun _=>rfl) (.slice (some ⟨gL2,0,none⟩) H cL2);have hbx:=zcl (v0 := .slice (some ⟨gF2,0,none⟩) FL2 cF2) (v1 := .int .i64 M) (v2 := .slice (some ⟨gL2,0,none⟩) H cL2) HBr.out;have hpp:p<w.heap.size:=zm HB.out;have h1:=HF1.out gF2 ((HD2.out gF2).2 (.inr (.inl rfl)));have h2:=HF1.out gL2 ((HD2.out gL2).2 (.inr (.inr rfl)));go_ret;refine⟨rfl,⟨fun k=>k=p∨k=gF2∨k=gL2,⟨gF2,gL2,cF2,cL2,F2,⟨?_,hm.heap (fun e=>by omega) HM2.out.fld,hm.heap (fun e=>by omega) HM2.out.len,HM2.out.ok,HM2.out.n1,HM2.out.nm,HM2.out.hm⟩,fun k=>xZ⟩,fun k hk => ?_⟩,(Mod.of_pure HPW.out).trans hm⟩
      · rw[HFL2.out,HHe.out];exact hbx
      · rcases hk with rfl | rfl | rfl
        · exact .inl rfl
        · exact .inr h1
        · exact .inr h2
end
end
section
open Go.RowKit Go.Shelf
structure kY(w:World)(B:Nat)(a:Option Addr)(c:Nat)(l:List Nat):Prop where
 box:w.heap[B]? = some (.cells #[.slice a l.length c] 157 (0,0))
 row:yu w a c l
def qy(B:Nat)(a:Option Addr)(n c:Nat)(k:Nat):Prop:=k=B∨(Value.slice a n c).ownBlock=some k
theorem kY.keeps{w w':World}{B:Nat}{a:Option Addr}{c:Nat}{l:List Nat}(h:kY w B a c l)(hk:xi (qy B a l.length c) w w'):kY w' B a c l :=
 ⟨(hk.2 B (.inl rfl) (zm h.box)).trans h.box,Qg h.row (fun g hg hlt=>hk.2 g (.inr hg) hlt)⟩
theorem kY.cell{w:World}{B:Nat}{a:Option Addr}{c:Nat}{l:List Nat}(h:kY w B a c l){j x:Nat}(hx:l[j]? = some x) : ∃ g,a=some ⟨g,0,none⟩∧w.cell? ⟨g,j,none⟩=some (.int .u32 x):=by
 have hlt:=(zE.1 hx).1;obtain⟨g,c',hsv,_,hg,hc,hf,_⟩:=ko h.row (by omega)
 cases hsv
 refine⟨g,rfl,hc _ _ ?_⟩;unfold zY;rw[yz,hx]
 rfl
def V7(x:Nat):Array Value:=#[.int .u32 x]
def zbN(J:List Nat→World→Prop)(B:Nat)(a:Option Addr)(c:Nat)(l:List Nat)(k:Value)(wr:World):Prop :=
 ∃ pre post:List Nat,k=.int .i64 (pre.length:Nat)∧l=pre++post∧J pre wr∧kY wr B a c l
theorem zan{w:World}{B:Nat}{a:Option Addr}{c:Nat}{l:List Nat}(h:kY w B a c l)(hl:l.length≤4194304) :
  qH prog 264 #[.pointer (some ⟨B,0,none⟩)] V7 (qy B a l.length c) (fun pre x _ => ∃ post,l=pre++x::post) (fun xs=>xs=l) w:=by
 intro lb J Jx W hW hJ hJx hY h0;have hA:=h.keeps (xi.of_pure hW);have hB:=zi W B 0 _ _ _ hA.box;simp at hB;have HA:=za hA;have HY:=za hY;clear hA hY hJ hJx h hW;refine callsIn_of_wp func264 rfl trivial ?_ rfl;simp only[ntmps264,List.size_toArray,List.length_cons,List.length_nil,Nat.reduceAdd,Nat.reduceSub,Array.replicate_succ,Array.replicate_zero,List.push_toArray,List.append_toArray,List.nil_append,List.cons_append];obtain⟨n,hn⟩:=zf l.length;rw[hn]at hB hl HY;have wn:IntKind.i64.wrap (n:Int)=n:=zt _ (by omega);have HN:=za hn;clear hn;gi_wp2
 gi_loopw [7] (fun k wr=>zbN J B a c l k wr) (fun k _=>n-(intOf k).toNat)
 case atStart=>exact⟨[],l,rfl,rfl,h0,HA.out⟩
 case round =>
  obtain⟨pre,post,rfl,hpp,hJs,hI⟩:=hrel;have hlen:pre.length+post.length=n:=by rw[← HN.out,hpp,zT]
  cases post with
  | nil =>
   have he:pre=l:=by rw[hpp,jt]
   have HE:=za he;have HJS:=za hJs;have hpn:n=pre.length:=by simpa using hlen.symm
   have d1:decide (pre.length<n)=false:=zU (by omega);have d2:decide ((pre.length:Int)<(n:Int))=false:=zU (by omega);clear hpp hlen he hI hJs hpn;gi_wp2
   go_end0
   exact⟨⟨_,rfl⟩,.inl ⟨pre,HE.out,HJS.out⟩⟩
  | cons x post =>
   obtain⟨g,rfl,hc⟩:=hI.cell (j:=pre.length) (x:=x) (by rw[hpp];simp);obtain⟨fn,tmps,assign,body,hy,hR⟩:=HY.out pre x wr hJs ⟨post,hpp⟩;dsimp only[V7]at hy;have hRR:=za hR;have HL:=za hpp;have HI:=za hI;have hlt:pre.length<n:=by simp at hlen;omega
   obtain⟨j,hj⟩:=zf pre.length;rw[hj]at hc hlt ⊢;have hlt':(j:Int)<(n:Int):=by omega
   have j0:(0:Int)≤(j:Int):=by omega
   have wj:IntKind.i64.wrap ((j:Int)+1)=(j:Int)+1:=zt _ (by omega);have HJ:=za hj;clear hpp hI hR hJs hlen hj;gi_wp2;refine hRR.out.mono ?_;rintro e W' (⟨rfl,hJ',hk⟩ | ⟨rfl,hJx'⟩)
   ·have HJ':=za hJ';have HK:=za (HI.out.keeps (by rw[HN.out];exact hk));clear hJ' hk;gi_wp2;go_roundw
    case rel =>
     unfold zbN;exact⟨pre++[x],post,by rw[zT,HJ.out];go_num,by rw[HL.out];simp,HJ'.out,HK.out⟩
    case measure=>simp[intOf];omega
   ·gi_wp2;exact Azdvt
end
section
open Go.RowKit Go.Shelf
attribute [local go_sem] Oper.semAt_some
def Qe(w:World)(l:List Nat)(e:Ending)(w':World):Prop :=
 ∃ B a c,e=.returned (.func (.func 264) #[] #[.pointer (some ⟨B,0,none⟩)])∧kY w' B a c l∧zb w w'
theorem zfJ{w:World}{D:Nat→Prop}{p N:Nat}{Ls:List (List Nat)}(h:yl w D p N Ls){k:Nat}{l:List Nat}(hl:Ls[k]? = some l)(hll:l.length≤4194304):Calls prog 217 #[lkP p,.int .i64 k] w (Qe w l):=by
  have HA:=za (KR h hl);obtain⟨n,hn⟩:=zf l.length;rw[hn]at HA hll;have HN:=za hn;clear h hl hn;obtain⟨i0,hi,iz0,iz1,iz2⟩:=xB qt;go_enter func217,ntmps217;go_upto_region 2 with(first
    | (go_at_call 263;refine HA.out.mono ?_;rintro e w1 ⟨a,c,rfl,hrow,hfr,hp1⟩;have hrd:=Zm hrow;rw[HN.out]at hrd;have HRD:=za hrd;have HP1:=za hp1;clear hrow hfr hp1 hrd)
    | (at_builtin;refine uX _ rfl _ _ 157 rfl 89 i0 _ 1 4 underlying157 hi iz0 iz1 iz2 rfl (by decide) (.slice none 0 0) 0 [] rfl (vV _ _ _ _) _ (zY l) n rfl HRD.out (by rw[qp,HN.out];omega) (by unfold maxLen;omega) (by omega) ?_;intro a7 c7 w5 hr7 hg7 hb7))
  have hp5:zb w1 w5:=Mod.of_grown hg7 (fun k e _=>by cases e);have hr:=hr7;rw[ZM,Yp]at hr;have hal:zb w5 (w5.alloc (.cells #[.slice a7 n c7] 157)):=(Mod.refl _ w5).alloc _;have hbx:=zk (w:=w5) (o := .cells #[.slice a7 n c7] 157 (0,0)) rfl;have HE:Hid (Qe w l (.returned (.func (.func 264) #[] #[.pointer (some ⟨w5.heap.size,0,none⟩)])) (w5.alloc (.cells #[.slice a7 n c7] 157))):=za
    ⟨w5.heap.size,a7,c7,rfl,⟨by rw[HN.out];exact hbx,by unfold yu;rw[HN.out];exact zz hr hal (fun _ _ h=>h)⟩,(HP1.out.trans hp5).trans hal⟩
  clear hr hr7 hg7 hb7 hp5 hal hbx;go_wp2;go_ret;exact HE.out
structure Xh(w:World)(l:List Nat)(pre:List Nat)(W:World):Prop where
 pu:zb w W
 row : ∃ a c,W.heap[w.heap.size]? = some (.cells #[.slice a pre.length c] 157 (0,0))∧yu W a c pre ∧ ∀ g,(Value.slice a pre.length c).ownBlock=some g→w.heap.size<g
theorem Xh.quiet{w A B:World}{l pre:List Nat}{N:Nat}(h:Xh w l pre A)(hN:w.heap.size≤N)(hq:zB N A B):Xh w l pre B:=by
 obtain⟨a,c,h1,h2,h3⟩:=h.row;exact⟨hq.mod h.pu hN,a,c,hq.cells h1,hq.owns h2,h3⟩
def V1(w:World)(l:List Nat)(e:Ending)(w':World):Prop := ∃ a c,e=.returned (.slice a l.length c)∧yu w' a c l∧xq w (.slice a l.length c)∧zb w w'
theorem zjo{w:World}{B:Nat}{a:Option Addr}{c:Nat}{l:List Nat}(h:kY w B a c l)(hl:l.length≤4194304) :
  Calls prog 311 #[.slice none 0 0,.func (.func 264) #[] #[.pointer (some ⟨B,0,none⟩)]] w (V1 w l):=by
 have hp1:zb w (w.alloc (.cells #[.slice none 0 0] 157)):=(Mod.refl _ w).alloc _;have hit:=h.keeps (xi.of_pure hp1);have HIT:=za hit;have hItlt0 : ∀ k,qy B a l.length c k→k<w.heap.size:=by
  rintro k (rfl | h2)
  ·exact zm h.box
  ·exact xV h.row h2
 have hI0:Xh w l [] (w.alloc (.cells #[.slice none 0 0] 157)):=⟨hp1,none,0,zk rfl,vV _ _ _ _,fun g hg=>by cases hg⟩;have hz1:(w.alloc (.cells #[.slice none 0 0] 157)).heap.size=w.heap.size+1:=by simp
 clear h hit hp1;obtain⟨i0,hi,iz0,iz1,iz2⟩:=xB qt;have HLL:=za hl;clear hl
 (refine(yB (n:=0)).1 (callsIn_of_wp_marks func311 rfl trivial (kH.2 ?_) rfl);simp only[ntmps311,List.size_toArray,List.length_cons,List.length_nil,Nat.reduceAdd,Nat.reduceSub,Array.replicate_succ,Array.replicate_zero,List.push_toArray,List.append_toArray,List.nil_append,List.cons_append])
 go_upto_region 1 with fail
 generalize w.alloc (.cells #[.slice none 0 0] 157)=W1 at *;have HI0:=za hI0;have HZ1:=za hz1;clear hI0 hz1;have hItlt : ∀ k,qy B a l.length c k→k<W1.heap.size:=fun k hk=>by have:=hItlt0 k hk;have:=HZ1.out;omega
 have HIL:=za hItlt0;clear hItlt0;generalize hItd:qy B a l.length c=It at *;go_wp2;refine kH.1 (XE (gf:=264) (lb:=#[.pointer (some ⟨B,0,none⟩)]) rfl (enters_of func264 (by kernel_rfl) rfl) (It:=It) (hItd ▸ zan HIT.out HLL.out) hItlt (fun _=>rfl)
  (fun pre W=>Xh w l pre W) (fun _ _ _=>False) ?hI ?hIx HI0.out ?round ?done ?stop)
 case hI=>exact fun pre A B h hq=>h.quiet (by have:=HZ1.out;omega) hq
 case hIx=>exact fun _ _ _ _ h _=>h
 case stop=>exact fun _ _ _ _ _ h _=>h.elim
 case done =>
  rintro lb xs W hlb hS hI hK;have hS':xs=l:=hS;subst hS';obtain⟨a2,c2,h1,h2,h3⟩:=hI.row;have HI:=za hI;have H2:=za h2;have H3:=za h3;have hq:zB W1.heap.size _ _:=zB.putObj (.deferred none) hlb hK rfl;clear hI hS h2 h3 hItlt hItd;obtain⟨n,hn⟩:=zf xs.length;rw[hn]at h1;have HN:=za hn;clear hn;obtain⟨h1_0,h1_f,h1_l,H_h1⟩:=cr1 h1;clear h1;go_wp2;exact Z9 (v := .slice a2 n c2) hK (by simp[results,results311,go_sem]) ⟨a2,c2,by rw[HN.out],hq.owns H2.out,fun g hg=>qZ (H3.out g hg),hq.mod HI.out.pu (by have:=HZ1.out;omega)⟩
 case round =>
  rintro lb pre x W K hI ⟨post,hpost⟩ hK;dsimp only[V7];have hpl:pre.length<4194304:=by have:=HLL.out;rw[hpost]at this;simp at this;omega
  have HCI:=za hI;have HK:=za hK;clear hI hK hItlt hpost hItd;gi_wp2;refine HK.out _ _ (Mod.refl _ _) (fun l' W2 hl2 hr2 hq2 => ?_);have hI2:=HCI.out.quiet (by have:=HZ1.out;omega) hq2;obtain⟨a2,c2,h1,h2,h3⟩:=hI2.row;have HI2:=za hI2;have HR2:=za h2;have HF2:=za h3;have HW2:Hid (w.heap.size<W2.heap.size):=za (zm h1);clear hI2 h2 h3 HK HCI;obtain⟨j,hj⟩:=zf pre.length;rw[hj]at h1 HF2 hpl;have hrr:W2.ownsRow 0 89 1 (.slice a2 j c2) j (zY pre):=by rw[← hj];exact HR2.out
  have HRR:=za hrr;have HJ:=za hj;clear hrr hj;obtain⟨b2,hb2⟩:=zf w.heap.size;rw[hb2]at h1 HF2 HW2 HIL HZ1 ⊢;have HB2:=za hb2;clear hb2;have h1b:=h1;have H1:=za h1b;clear h1b;obtain⟨h1_0,h1_f,h1_l,H_h1⟩:=cr1 h1;clear h1
  gi_wp2_with (gi_at_builtin;refine zgQ _ rfl _ _ 157 rfl 89 i0 (.int .u32 0) 1 4 underlying157 hi iz0 iz1 iz2 rfl (by decide) (.slice a2 j c2) j _ rfl (zz HRR.out ((Mod.refl (fun _=>False) W2).alloc _) (fun _ _ h=>h)) _ [.int .u32 x] 1 rfl (zr.of_block 1 1 1 (zk rfl) (by rfl) (by simp[Value.oneCell'])) rfl (by unfold maxLen;omega) (by omega) ?_;intro a7 c7 w5 hr7 hg7 hb7;have M7:=za (Mod.heap (Mod.of_grown (S:=fun k=>(Value.slice a2 j c2).ownBlock=some k) hg7 (fun k e _=>e)) (fun e=>by have:=HF2.out _ e;omega) (zK H1.out));have m7:=zi w5 _ 0 _ _ _ M7.out;have fr7:=(fun j=>yS w5 _ j _ _ M7.out);have hlt5:=zm M7.out)
  have hM:Mod (fun k=>(Value.slice a2 j c2).ownBlock=some k∨k=b2) W2 (w5.setCell ⟨b2,0,none⟩ (.slice a7 (j+1) c7)) :=
   (((Mod.refl _ W2).alloc (.cells #[.int .u32 x] 89)).then (Mod.of_grown (S:=fun k=>(Value.slice a2 j c2).ownBlock=some k) hg7 (fun k e _=>e)) (fun _ _ h => .inl h)).setCell (fun _ => .inr rfl) _
  have h7 : ∀ g,(Value.slice a7 (j+1) c7).ownBlock=some g→b2<g:=fun g hg=>by
   rcases hb7 with e | e
   ·exact HF2.out g (e ▸ hg)
   ·rw[e]at hg;have hg2:(W2.alloc (.cells #[.int .u32 x] 89)).heap.size=g:=by injection hg
    have:=HW2.out;simp at hg2;omega
  refine⟨xl.of_mod hM (fun k _ h o ho => ?_),xi.of_mod hM (fun k hk h => ?_),⟨HI2.out.pu.then hM (fun k hk h => ?_),a7,c7,?_,?_,?_⟩⟩
  ·rcases h with h | rfl
   ·obtain⟨cur,e⟩:=yd HRR.out h;rw[e]at ho;cases ho;rfl
   ·rw[H1.out]at ho;cases ho;rfl
  ·have:=HIL.out k hk;rcases h with h | h
   ·have:=HF2.out k h;omega
   ·omega
  ·have:=HB2.out;rcases h with h | h
   ·have:=HF2.out k h;omega
   ·omega
  ·rw[HB2.out,zT,HJ.out];simpa using zX w5 b2 0 _ _ (.slice a7 (j+1) c7) M7.out
  ·unfold yu;rw[zT,HJ.out,qz];exact zz hr7 ((Mod.refl (fun k=>k=b2) w5).setCell (fun _=>rfl) _) (fun g hg e=>by have:=h7 g hg;omega)
  ·rw[HB2.out,zT,HJ.out];exact h7
theorem zjY{w:World}{B:Nat}{a:Option Addr}{c:Nat}{l:List Nat}(h:kY w B a c l)(hl:l.length≤4194304) :
  Calls prog 305 #[.func (.func 264) #[] #[.pointer (some ⟨B,0,none⟩)]] w (V1 w l):=by
 have HA:=za (zjo h hl);obtain⟨n,hn⟩:=zf l.length;unfold V1 at HA;rw[hn]at HA;have HN:=za hn;clear h hl hn;go_enter func305,ntmps305
 go_wp2_with (go_at_call 311;refine HA.out.mono ?_;rintro e w1 ⟨a2,c2,rfl,h1,h2,h3⟩)
 go_ret;exact⟨a2,c2,by rw[HN.out];rfl,h1,by rw[HN.out];exact h2,h3⟩
end
section
open Go.RowKit
def neB(Ls:List (List Nat))(b:Nat):Bool:=match Ls[b]? with
 | some (_::_)=>true
 | _=>false
theorem J0{Ls:List (List Nat)}{b:Nat}(hb:b<Ls.length)(l:List Nat):neB (Ls.set b l)=vB (neB Ls) b (!l.isEmpty):=by
 funext x
 unfold neB vB;by_cases e:b=x
 ·subst e;rw[yt hb,zj rfl]
  cases l<;>rfl
 ·rw[yw e,zh (fun c=>e c.symm)]
theorem zhY(H:Nat):neB (List.replicate H [])=fun _=>false:=by
 funext x
 unfold neB;rw[vU];split
 ·rename_i h;split at h<;>cases h
 ·rfl
theorem zia{f:Nat→Bool}{b:Nat}{v:Bool}(h:f b=v):vB f b v=f:=by
 funext x
 unfold vB;split
 ·rename_i e;rw[e,h]
 ·rfl
def yM(w:World)(D:Nat→Prop)(p:Nat)(Ls:List (List Nat)):Prop :=
 ∃ q many N Dl,w.heap[p]? = some (.cells (whC q (neB Ls) many) 320 (0,0))∧yl w Dl q N Ls∧Ls.length=256 ∧ ∀ k,D k↔(k=p∨Dl k)
theorem yl.types{w:World}{D:Nat→Prop}{p N:Nat}{Ls:List (List Nat)}(h:yl w D p N Ls){k:Nat}(hk:D k){cs:Array Value}{T:TypeId}{fz:Nat × Nat}(e:w.heap[k]? = some (.cells cs T fz)):T=311∨T=315∨T=3:=by
 obtain⟨gF,gL,cF,cL,F,h1,h2⟩:=h;rcases(h2 k).1 hk with rfl | rfl | rfl
 ·have:=e.symm.trans h1.box;injection this with this;injection this with _ this;exact .inl this
 ·have:=e.symm.trans h1.fld;injection this with this;injection this with _ this;exact .inr (.inl this)
 ·have:=e.symm.trans h1.len;injection this with this;injection this with _ this;exact .inr (.inr this)
section
variable{w w':World}{D S:Nat→Prop}{p:Nat}{Ls:List (List Nat)}
theorem yM.frame(h:yM w D p Ls)(hm:Mod S w w')(hd : ∀ k,D k → ¬ S k):yM w' D p Ls:=by
 obtain⟨q,many,N,Dl,h1,h2,h3,h4⟩:=h;exact⟨q,many,N,Dl,hm.heap (hd p ((h4 p).2 (.inl rfl))) h1,h2.frame hm (fun k hk=>hd k ((h4 k).2 (.inr hk))),h3,h4⟩
theorem yM.pure(h:yM w D p Ls)(hm:zb w w'):yM w' D p Ls:=h.frame hm (fun _ _ h=>h)
theorem yM.lt(h:yM w D p Ls){k:Nat}(hk:D k):k<w.heap.size:=by
 obtain⟨q,many,N,Dl,h1,h2,h3,h4⟩:=h;rcases(h4 k).1 hk with rfl | e
 ·exact zm h1
 ·exact h2.lt e
theorem yM.self(h:yM w D p Ls):D p:=by obtain⟨q,many,N,Dl,h1,h2,h3,h4⟩:=h;exact(h4 p).2 (.inl rfl)
theorem yM.len(h:yM w D p Ls):Ls.length=256:=by obtain⟨q,many,N,Dl,h1,h2,h3,h4⟩:=h;exact h3
theorem Va{q:Nat}{f:Nat→Bool}{many:Int}(h:w.heap[p]? = some (.cells (whC q f many) 320 (0,0))){Dl:Nat→Prop}{q' N:Nat}(hl:yl w Dl q' N Ls) : ¬ Dl p:=fun hd=>by
 rcases hl.types hd h with e | e | e<;>exact absurd e (by decide)
theorem j8{q:Nat}{f:Nat→Bool}{many:Int}(h:w.heap[p]? = some (.cells (whC q f many) 320 (0,0))) :
  w.cell? ⟨p,0,none⟩=some (.pointer (some ⟨q,0,none⟩))∧w.cell? ⟨p,5,none⟩=some (.int .i64 many)∧(∀ i,w.frozen? ⟨p,i,none⟩=false)∧p<w.heap.size :=
 ⟨zi w p 0 _ _ (0,0) h,zi w p 5 _ _ (0,0) h,fun i=>yS w p i _ _ h,zm h⟩
theorem QO{q:Nat}{f:Nat→Bool}{many:Int}(h:w.heap[p]? = some (.cells (whC q f many) 320 (0,0)))(m2:Int):(w.setCell ⟨p,5,none⟩ (.int .i64 m2)).heap[p]? = some (.cells (whC q f m2) 320 (0,0)):=by
 have arr : ∀(a x0 x1 x2 x3 y z:Value),(#[a,x0,x1,x2,x3,z]:Array Value).setIfInBounds 5 y=#[a,x0,x1,x2,x3,y]:=fun _ _ _ _ _ _ _=>rfl
 have:=zX w p 5 _ _ (.int .i64 m2) h;unfold whC at this ⊢;rw[arr]at this;exact this
theorem Vz(h:yM w D p Ls){s:Nat}(hs:s<4194304){b:Int}(hb0:0≤b)(hb:b<256):Calls prog 286 #[lkP p,.int .u32 s,.int .i64 b] w fun e w'=>e=.returned (.int .i64 0)∧w=w':=by
 obtain⟨q,many,N,Dl,h1,h2,h3,h4⟩:=h;obtain⟨c0,_,_,_⟩:=j8 h1;clear h1 h2 h3 h4;have d1:decide ((4194304:Int)≤(s:Int))=false:=zU (by omega);have d1n:decide (4194304≤s)=false:=zU (by omega);have d2:decide (b<0)=false:=zU (by omega);have d3:decide ((256:Int)≤b)=false:=zU (by omega);go_enter func286,ntmps286;go_wp2;go_ret;exact⟨rfl,rfl⟩
theorem zgO(w:World):Calls prog 160 #[] w fun e w' => ∃ p D,e=.returned (lkP p)∧yM w' D p (List.replicate 256 [])∧zb w w' ∧ ∀ k,D k→w.heap.size≤k:=by
 have HN:=za (JE w (N:=8) (H:=256) (by omega) (by omega) (by omega) (by omega));have hwd : ∀ k,xa (fun _=>false) k=0:=fun k=>Jg.2 (fun _ _=>rfl)
 have HWD:=za hwd;clear hwd;go_enter func160,ntmps160
 go_wp2_with (go_at_call 157;refine HN.out.mono ?_;rintro e w1 ⟨q,D,rfl,hl,hp,hf⟩)
 go_ret;have hal:zb w1 (w1.alloc (.cells #[.pointer (some ⟨q,0,none⟩),.int .u64 0,.int .u64 0,.int .u64 0,.int .u64 0,.int .i64 0] 320)):=(Mod.refl _ w1).alloc _;have hbx:=zk (w:=w1) (o := .cells #[.pointer (some ⟨q,0,none⟩),.int .u64 0,.int .u64 0,.int .u64 0,.int .u64 0,.int .i64 0] 320 (0,0)) rfl;refine⟨w1.heap.size,fun k=>k=w1.heap.size∨D k,rfl,⟨q,0,8,D,?_,hl.pure hal,vz,fun k=>xZ⟩,hp.trans hal,fun k hk => ?_⟩
 ·unfold whC;rw[zhY,HWD.out,HWD.out,HWD.out,HWD.out];exact hbx
 ·rcases hk with rfl | hk
  ·exact hp.size
  ·exact hf k hk
end
def vk(n i:Nat):List Nat:=(List.range n).map (fun j=>if j<i then j else 0)
theorem Uy(n i:Nat):(vk n i).length=n:=by simp[vk]
theorem Q0(n:Nat):vk n n=List.range n:=by
 unfold vk;refine uF (fun j => ?_);rw[yz];by_cases hj:j<n
 ·rw[qe hj];simp[hj]
 ·rw[xM (by simpa using hj)];rfl
theorem zb3{n i:Nat}(hi:i<n):(zY (vk n i)).set i (.int .u32 (i:Nat))=zY (vk n (i+1)):=by
 unfold zY vk;refine uF (fun j => ?_);by_cases e:i=j
 ·subst e;rw[yt (by simpa using hi)];simp[List.getElem?_range hi]
 ·rw[yw e,yz,yz,yz,yz];by_cases hj:j<n
  ·rw[qe hj];have:(j<i)=(j<i+1):=by rw[eq_iff_iff];omega
   simp[this]
  ·rw[xM (by simpa using hj)];rfl
theorem zbt(m:Nat):madeCells (Value.int .u32 0).cells (m*1)=(zY (vk m 0)).toArray:=by
 rw[show(Value.int .u32 0).cells=#[.int .u32 0]from rfl];apply Array.ext_getElem?;intro k;unfold madeCells zY vk;rw[Array.getElem?_map,show((((List.range m).map (fun j=>if j<0 then j else 0)).map (fun x:Nat=>(Value.int .u32 x))).toArray)[k]? = (((List.range m).map (fun j=>if j<0 then j else 0)).map (fun x:Nat=>(Value.int .u32 x)))[k]? from vK,je];rw[yz,yz];by_cases hk:k<m
 ·rw[YQ,zj hk,qe hk]
  show some (#[Value.int .u32 0][k%1]!)=_
  rw[Nat.mod_one];rfl
 ·rw[YQ,zh hk,xM (by simpa using hk)];rfl
section
variable{w w':World}{D:Nat→Prop}{p:Nat}{Ls:List (List Nat)}
theorem Az0jv {P:Prop}(h:P:=by
 have i0:(0:Int)≤(i:Int):=by omega
 have wi:IntKind.i64.wrap ((i:Int)+1)=(i:Int)+1:=zt _ (by omega);have wu:IntKind.u32.wrap (i:Int)=(i:Int):=XY i (by omega);have q0 : ∃ v,wr.cell? ⟨g,i,none⟩=some v:=by
  rw[zi wr g i _ _ (0,0) HRW.out,vK,zO (by rw[qp,Uy];exact hlt2)];exact⟨_,rfl⟩
 obtain⟨v0,q0⟩:=q0;have g0:=yS wr g i _ _ HRW.out;have hX:g<wr.heap.size:=zm HRW.out;have di:decide (i<N)=true:=zQ hlt2;have e1:=zX wr g i _ _ (.int .u32 (i:Nat)) HRW.out;rw[Yh,zb3 hlt2]at e1;have HE1:=za e1;clear e1;go_wp2;go_roundw
 case rel=>exact⟨i+1,by go_num,hlt2,HPU.out.then ((Mod.refl (fun k=>k=g) wr).setCell (p:=⟨g,i,none⟩) (fun _=>rfl) _) (fun k hk e=>by have:=HG.out;omega),HE1.out⟩
 case measure=>simp[intOf];omega):P:=h
theorem Azx53 {P:Prop}(h:P:=by
 have:=run_make W 157 89 i0 _ underlying157 hi iz0 .i64 .i64 (N:Int) (N:Int) (by omega) (Int.le_refl _) (by rw[iz2];omega) (by omega);rw[iz1,show((N:Int)).toNat=N by omega,zbt]at this;exact this):P:=h
theorem Azfsv {P:Prop}(h:P:=by
 have:=zr.of_block (w:=wr) N N 1 HRW.out (by simp[qp,Uy]) (by simpa using UL (vk N N));simpa[Q0]using this):P:=h
theorem zkm{q N:Nat}{many:Int}{Dl:Nat→Prop}(hb:w.heap[p]? = some (.cells (whC q (neB Ls) many) 320 (0,0)))(hl:yl w Dl q N Ls)(h256:Ls.length=256){s:Nat}(hs:s<4194304) :
  Calls prog 289 #[lkP p,.int .u32 s] w fun e w'=>e=.returned (.tuple #[]) ∧ ∃ N' Dl',yl w' Dl' q N' Ls∧s<N'∧Mod Dl w w' ∧ ∀ k,Dl' k→Dl k∨w.heap.size≤k:=by
 obtain⟨c0,_,_,hlt⟩:=j8 hb;obtain⟨l4,l5,l6⟩:=hl.lenH;have HNo:=za (zcI hl);have HL:=za hl;have HNB:Hid (¬ Dl p):=za (Va hb hl);have HB:=za hb;clear hb hl l4;have wn:IntKind.i64.wrap (s:Int)=(s:Int):=zt _ (by omega);by_cases c:s<N
 ·have d1:decide ((s:Int)<(N:Int))=true:=zQ (by omega);have d1n:decide (s<N)=true:=zQ c;go_enter func289,ntmps289
  go_wp2_with (go_at_call 279;refine HNo.out.mono ?_;rintro e w' ⟨rfl,rfl⟩)
  exact zR (results_none rfl _ _ _) rfl ⟨rfl,N,Dl,HL.out,c,Mod.refl _ _,fun k hk => .inl hk⟩
 ·have d1:decide ((s:Int)<(N:Int))=false:=zU (by omega);have d1n:decide (s<N)=false:=zU c;obtain⟨i0,hi,iz0,iz1,iz2⟩:=xB qt;have hmk : ∀ W:World,(Instr.makeSlice 157 (.int .i64 (N:Int)) (.int .i64 (N:Int))).run prog W=.ok (.slice (some ⟨W.heap.size,0,none⟩) N N) (W.alloc (.cells (zY (vk N 0)).toArray 89)):=fun W=>by
   exact Azx53
  clear hi iz0 iz1 iz2;go_enter func289,ntmps289;go_upto_region 4 with(go_at_call 279;refine HNo.out.mono ?_;rintro e w' ⟨rfl,rfl⟩)
  have hal:zb w (w.alloc (.cells (zY (vk N 0)).toArray 89)):=(Mod.refl _ w).alloc _;have hr0:=zk (w:=w) (o := .cells (zY (vk N 0)).toArray 89 (0,0)) rfl;have HAL:=za hal;have HR0:=za hr0;clear hal hr0 hmk;generalize w.alloc (.cells (zY (vk N 0)).toArray 89)=W1 at *;obtain⟨g,hg⟩:=zf w.heap.size;rw[hg]at HR0 ⊢;have HG:=za hg;clear hg;have hN0:1≤N:=l6;go_loopw [20] (fun v wr => ∃ i,v=.int .i64 (i:Nat)∧i≤N∧zb w wr∧wr.heap[g]? = some (.cells (zY (vk N i)).toArray 89 (0,0))) (fun v _=>N-(intOf v).toNat)
  case atStart=>exact⟨0,rfl,yq _,HAL.out,HR0.out⟩
  case round =>
   clear HAL HR0;obtain⟨i,rfl,hi,hpu,hrw⟩:=hrel;have HPU:=za hpu;have HRW:=za hrw;clear hpu hrw;by_cases hlt2:i<N
   ·have hlt':(i:Int)<(N:Int):=by omega
    exact Az0jv
   ·have e:N=i:=by omega
    subst e;have hrd:zr wr (.slice (some ⟨g,0,none⟩) N N) 1 (zY (List.range N)):=by
     exact Azfsv
    have hren : ∀ M:Int,(N:Int)≤M→M≤4194304→(s:Int)<M→Calls prog 280 #[lkP q,.slice (some ⟨g,0,none⟩) N N,.int .i64 M] wr fun e w'=>e=.returned (.int .i64 0) ∧ ∃ N' Dl',yl w' Dl' q N' Ls∧s<N'∧Mod Dl w w' ∧ ∀ k,Dl' k→Dl k∨w.heap.size≤k:=fun M h1 h2 h3=>by
     obtain⟨M,rfl⟩:=Int.eq_ofNat_of_zero_le (show 0≤M by omega);refine(zbW (HL.out.pure HPU.out) (by omega) (some ⟨g,0,none⟩) N hrd (M:=M) (by omega) (by omega)).mono ?_;rintro e w' ⟨he,⟨D',g1,g2⟩,g3⟩;have hq:=HL.out.self;refine⟨he,M,D',g1,by omega,(Mod.of_pure HPU.out).trans (g3.mono (fun k _ hk=>by rw[hk];exact hq)),fun k hk => ?_⟩;rcases g2 k hk with e | e
     ·exact .inl (by rw[e];exact hq)
     ·exact .inr (zF HPU.out.size e)
    have HRen:=za hren;clear hren;have c0:=HPU.out.cell (fun h=>h) c0;have hlt2:=HPU.out.lt hlt;have w2:IntKind.i64.wrap (2*(N:Int))=2*(N:Int):=zt _ (by omega);have w3:IntKind.i64.wrap ((s:Int)+1)=(s:Int)+1:=zt _ (by omega);clear hrd hi
    go_wp2_with fail
    all_goals
     refine(HRen.out _ (by omega) (by omega) (by omega)).mono ?_;rintro e w5 ⟨rfl,N',Dl',q1,q2,q3,q4⟩;go_wp2
     go_end0
     exact⟨rfl,N',Dl',q1,q2,q3,q4⟩
end
end
section
open Go.RowKit Go.Shelf
def y5(w:World)(D:Nat→Prop)(p:Nat)(xs:List Nat):Prop :=
 ∃ q N Dl,w.heap[p]? = some (.cells #[lkP q] 254 (0,0))∧yl w Dl q N [xs] ∧ ∀ k,D k↔(k=p∨Dl k)
section
variable{w w':World}{D S:Nat→Prop}{p:Nat}{xs:List Nat}
theorem y5.frame(h:y5 w D p xs)(hm:Mod S w w')(hd : ∀ k,D k → ¬ S k):y5 w' D p xs:=by
 obtain⟨q,N,Dl,h1,h2,h3⟩:=h;exact⟨q,N,Dl,hm.heap (hd p ((h3 p).2 (.inl rfl))) h1,h2.frame hm (fun k hk=>hd k ((h3 k).2 (.inr hk))),h3⟩
theorem y5.pure(h:y5 w D p xs)(hm:zb w w'):y5 w' D p xs:=h.frame hm (fun _ _ h=>h)
theorem y5.lt(h:y5 w D p xs){k:Nat}(hk:D k):k<w.heap.size:=by
 obtain⟨q,N,Dl,h1,h2,h3⟩:=h;rcases(h3 k).1 hk with rfl | e
 ·exact zm h1
 ·exact h2.lt e
theorem y5.self(h:y5 w D p xs):D p:=by obtain⟨q,N,Dl,h1,h2,h3⟩:=h;exact(h3 p).2 (.inl rfl)
theorem VB{q:Nat}(h:w.heap[p]? = some (.cells #[lkP q] 254 (0,0))){Dl:Nat→Prop}{q' N:Nat}{Ls:List (List Nat)}(hl:yl w Dl q' N Ls) : ¬ Dl p:=fun hd=>by
 rcases hl.types hd h with e | e | e<;>exact absurd e (by decide)
theorem yl.slots{Dl:Nat→Prop}{q N:Nat}(h:yl w Dl q N [xs]):xs.Nodup∧(∀ x∈xs,x<N)∧N≤4194304:=by
 have hN:=h.lenH.2.1;obtain⟨gF,gL,cF,cL,F,h1,h2⟩:=h;refine⟨h1.ok.nodup 0 xs rfl,fun x hx=>(h1.ok.own 0 xs rfl x hx).1,hN⟩
theorem y5.law(h:y5 w D p xs):xs.Nodup∧(∀ x∈xs,x<4194304)∧xs.length≤4194304:=by
 obtain⟨q,N,Dl,h1,h2,h3⟩:=h;obtain⟨k1,k2,k3⟩:=h2.slots;exact⟨k1,fun x hx=>by have:=k2 x hx;omega,zF (qG k1 k2) k3⟩
theorem J6{n:Nat}:inL [xs] n↔n∈xs:=by
 constructor
 ·rintro⟨k,l,hl,hm⟩
  cases k with
  | zero=>cases hl;exact hm
  | succ k=>cases hl
 ·exact fun h=>⟨0,xs,rfl,h⟩
theorem zj7(w:World):Calls prog 99 #[] w fun e w' => ∃ p D,e=.returned (lkP p)∧y5 w' D p []∧zb w w' ∧ ∀ k,D k→w.heap.size≤k:=by
 have HN:=za (JE w (N:=8) (H:=1) (by omega) (by omega) (by omega) (by omega));go_enter func99,ntmps99
 go_wp2_with (go_at_call 157;refine HN.out.mono ?_;rintro e w1 ⟨q,Dl,rfl,hl,hp,hf⟩)
 have ha:zb w1 (w1.alloc (.cells #[lkP q] 254)):=(Mod.refl _ w1).alloc _;have hlt:=fun k (hk:Dl k)=>hl.lt hk
 have hE:y5 (w1.alloc (.cells #[lkP q] 254)) (fun k=>k=w1.heap.size∨Dl k) w1.heap.size []:=⟨q,8,Dl,zk rfl,hl.pure ha,fun _=>xZ⟩;have hpp:=hp.trans ha;have hsz:=hp.size;go_ret;refine⟨w1.heap.size,_,rfl,hE,hpp,fun k hk => ?_⟩;rcases hk with rfl | e
 ·omega
 ·exact hf k e
theorem zaC{q:Nat}(hb:w.heap[p]? = some (.cells #[lkP q] 254 (0,0))){s:Nat}(h32:s≤4294967295):Calls prog 189 #[lkP p,.int .u32 s] w fun e w'=>e=.returned (.int .i64 (if s<4194304 then 0 else 2))∧w=w':=by
 obtain⟨hb_0,hb_f,hb_l,H_hb⟩:=cr1 hb;clear hb;by_cases h:s<4194304
 ·rw[zj h];have d:decide ((4194304:Int)≤(s:Int))=false:=zU (by omega);have dn:decide (4194304≤s)=false:=zU (by omega);go_enter func189,ntmps189;go_wp2;go_ret;exact⟨rfl,rfl⟩
 ·rw[zh h];have d:decide ((4194304:Int)≤(s:Int))=true:=zQ (by omega);have dn:decide (4194304≤s)=true:=zQ (by omega);go_enter func189,ntmps189;go_wp2;go_ret;exact⟨rfl,rfl⟩
theorem Qf{q:Nat}(hb:w.heap[p]? = some (.cells #[lkP q] 254 (0,0))):Calls prog 189 #[lkP p,.int .u32 0] w fun e w'=>e=.returned (.int .i64 0)∧w=w':=zaC hb (s:=0) (by omega)
theorem KQ{q:Nat}(hb:w.heap[p]? = some (.cells #[lkP q] 254 (0,0))){s:Nat}(hs:s<4194304):Calls prog 189 #[lkP p,.int .u32 s] w fun e w'=>e=.returned (.int .i64 0)∧w=w':=by
 have:=zaC hb (s:=s) (by omega);rw[zj hs]at this;exact this
theorem QT(h:y5 w D p xs){s:Nat}(hs:s<4194304):Calls prog 138 #[lkP p,.int .u32 s] w fun e w'=>e=.returned (.bool (decide (s∈xs)))∧w=w':=by
  obtain⟨q,N,Dl,hb,hl,hd⟩:=h;have HC:=za (KQ hb hs);have HO:=za (zbx hl (n:=s) (by omega));clear hl hd;obtain⟨hb_0,hb_f,hb_l,H_hb⟩:=cr1 hb;clear hb;by_cases h:s∈xs
  · have e0:decide (s∈xs)=true:=zQ h
    rw[e0];have HI:=za h;clear h e0;go_enter func138,ntmps138
    go_wp2_with (first
      | (go_at_call 189;refine HC.out.mono ?_;rintro e w' ⟨rfl,rfl⟩)
      | (go_at_call 190;refine HO.out.mono ?_;rintro e w' ⟨⟨k,l,hl,hm,rfl⟩ | ⟨hn,_⟩,rfl⟩;rotate_left 1;exact absurd (J6.2 HI.out) hn))
    go_ret;exact⟨rfl,rfl⟩
  · have e0:decide (s∈xs)=false:=zU h
    rw[e0];have HI:=za h;clear h e0;go_enter func138,ntmps138
    go_wp2_with (first
      | (go_at_call 189;refine HC.out.mono ?_;rintro e w' ⟨rfl,rfl⟩)
      | (go_at_call 190;refine HO.out.mono ?_;rintro e w' ⟨⟨k,l,hl,hm,rfl⟩ | ⟨hn,er,hne,rfl⟩,rfl⟩;exact absurd (J6.1 ⟨k,l,hl,hm⟩) HI.out;have he0:(er==0)=false:=(by simpa using hne)))
    go_ret;exact⟨rfl,rfl⟩
theorem ziu(h:y5 w D p xs):Calls prog 193 #[lkP p] w fun e w'=>e=.returned (.int .i64 xs.length)∧w=w':=by
  obtain⟨q,N,Dl,hb,hl,hd⟩:=h;have HC:=za (Qf hb);have HL:=za (zc2 hl (k:=0) rfl);clear hl hd;obtain⟨hb_0,hb_f,hb_l,H_hb⟩:=cr1 hb;clear hb;go_enter func193,ntmps193
  go_wp2_with (first
    | (go_at_call 189;refine HC.out.mono ?_;rintro e w' ⟨rfl,rfl⟩)
    | (go_at_call 241;refine HL.out.mono ?_;rintro e w' ⟨rfl,rfl⟩))
  go_ret;exact⟨rfl,rfl⟩
theorem zbl(h:y5 w D p xs){s:Nat}(hs:s∈xs):Calls prog 181 #[lkP p,.int .u32 s] w fun e w'=>e=.returned (.int .i64 0)∧y5 w' D p (xs.erase s)∧Mod D w w':=by
  have hs4:=h.law.2.1 s hs;have HH:=za (QT h hs4);rw[zQ hs]at HH;obtain⟨q,N,Dl,hb,hl,hd⟩:=h;have HC:=za (KQ hb hs4);have HR:=za (zdI hl (k:=0) rfl hs);have HN:=za (VB hb hl);have HD:=za hd;have HB:=za hb;clear hl hd hs4 hs;obtain⟨hb_0,hb_f,hb_l,H_hb⟩:=cr1 hb;clear hb;go_enter func181,ntmps181
  go_wp2_with (first
    | (go_at_call 189;refine HC.out.mono ?_;rintro e w' ⟨rfl,rfl⟩)
    | (go_at_call 138;refine HH.out.mono ?_;rintro e w' ⟨rfl,rfl⟩)
    | (go_at_call 229;refine HR.out.mono ?_;rintro e w1 ⟨rfl,hl1,hm1⟩))
  go_ret;exact⟨rfl,⟨q,N,Dl,hm1.heap HN.out HB.out,hl1,HD.out⟩,hm1.mono (fun k _ hk=>(HD.out k).2 (.inr hk))⟩
end
section
variable{w w':World}{D S:Nat→Prop}{p:Nat}{xs:List Nat}
theorem zeC{N:Nat}(hN:1≤N)(hN2:N≤4194304)(w:World):Calls prog 281 #[.int .i64 N] w fun e w' => ∃ g,e=.returned (.slice (some ⟨g,0,none⟩) N N)∧zr w' (.slice (some ⟨g,0,none⟩) N N) 1 (zY (List.range N))∧zb w w':=by
 obtain⟨i0,hi,iz0,iz1,iz2⟩:=xB qt;have hmk : ∀ W:World,(Instr.makeSlice 157 (.int .i64 (N:Int)) (.int .i64 (N:Int))).run prog W=.ok (.slice (some ⟨W.heap.size,0,none⟩) N N) (W.alloc (.cells (zY (vk N 0)).toArray 89)):=fun W=>by
  exact Azx53
 clear hi iz0 iz1 iz2;go_enter func281,ntmps281;go_upto_region 3 with fail
 have hal:zb w (w.alloc (.cells (zY (vk N 0)).toArray 89)):=(Mod.refl _ w).alloc _;have hr0:=zk (w:=w) (o := .cells (zY (vk N 0)).toArray 89 (0,0)) rfl;have HAL:=za hal;have HR0:=za hr0;clear hal hr0 hmk;generalize w.alloc (.cells (zY (vk N 0)).toArray 89)=W1 at *;obtain⟨g,hg⟩:=zf w.heap.size;rw[hg]at HR0 ⊢;have HG:=za hg;clear hg;go_loopw [9] (fun v wr => ∃ i,v=.int .i64 (i:Nat)∧i≤N∧zb w wr∧wr.heap[g]? = some (.cells (zY (vk N i)).toArray 89 (0,0))) (fun v _=>N-(intOf v).toNat)
 case atStart=>exact⟨0,rfl,yq _,HAL.out,HR0.out⟩
 case round =>
  clear HAL HR0;obtain⟨i,rfl,hi,hpu,hrw⟩:=hrel;have HPU:=za hpu;have HRW:=za hrw;clear hpu hrw;by_cases hlt2:i<N
  ·have hlt':(i:Int)<(N:Int):=by omega
   exact Az0jv
  ·have e:N=i:=by omega
   subst e;have hrd:zr wr (.slice (some ⟨g,0,none⟩) N N) 1 (zY (List.range N)):=by
    exact Azfsv
   have HRD:=za hrd;have hge:(N:Int)≤(N:Int):=Int.le_refl _;clear hrd;go_wp2;go_ret;exact⟨g,rfl,HRD.out,HPU.out⟩
theorem zji{q N:Nat}{Dl:Nat→Prop}(hb:w.heap[p]? = some (.cells #[lkP q] 254 (0,0)))(hl:yl w Dl q N [xs]){s:Nat}(hs:s<4194304) :
  Calls prog 239 #[lkP p,.int .u32 s] w fun e w'=>e=.returned (.tuple #[]) ∧ ∃ N' Dl',yl w' Dl' q N' [xs]∧s<N'∧Mod Dl w w' ∧ ∀ k,Dl' k→Dl k∨w.heap.size≤k:=by
 obtain⟨l4,l5,l6⟩:=hl.lenH;have HNo:=za (zcI hl);have HL:=za hl;have HNP:=za (VB hb hl);clear hl l4;have wn:IntKind.i64.wrap (s:Int)=(s:Int):=zt _ (by omega);obtain⟨hb_0,hb_f,hb_l,H_hb⟩:=cr1 hb;clear hb;by_cases c:s<N
 ·have d1:decide ((N:Int)≤(s:Int))=false:=zU (by omega);have d1n:decide (N≤s)=false:=zU (by omega);go_enter func239,ntmps239
  go_wp2_with (go_at_call 279;refine HNo.out.mono ?_;rintro e w' ⟨rfl,rfl⟩)
  go_end0
  exact⟨rfl,N,Dl,HL.out,c,Mod.refl _ _,fun k hk => .inl hk⟩
 ·have d1:decide ((N:Int)≤(s:Int))=true:=zQ (by omega);have d1n:decide (N≤s)=true:=zQ (by omega);have w2:IntKind.i64.wrap (2*(N:Int))=2*(N:Int):=zt _ (by omega);have w3:IntKind.i64.wrap ((s:Int)+1)=(s:Int)+1:=zt _ (by omega);have HSa:=za (fun W=>zeC l6 l5 W);go_enter func239,ntmps239;go_upto_region 2 with(go_at_call 279;refine HNo.out.mono ?_;rintro e w' ⟨rfl,rfl⟩)
  have hren : ∀(wr:World) (g:Nat) (M:Int),zb w wr→zr wr (.slice (some ⟨g,0,none⟩) N N) 1 (zY (List.range N))→(N:Int)≤M→M≤4194304→(s:Int)<M→Calls prog 280 #[lkP q,.slice (some ⟨g,0,none⟩) N N,.int .i64 M] wr fun e w'=>e=.returned (.int .i64 0) ∧ ∃ N' Dl',yl w' Dl' q N' [xs]∧s<N'∧Mod Dl w w' ∧ ∀ k,Dl' k→Dl k∨w.heap.size≤k:=fun wr g M hpu hrd h1 h2 h3=>by
   obtain⟨M,rfl⟩:=Int.eq_ofNat_of_zero_le (show 0≤M by omega);refine(zbW (HL.out.pure hpu) (by simp) (some ⟨g,0,none⟩) N hrd (M:=M) (by omega) (by omega)).mono ?_;rintro e w' ⟨he,⟨D',g1,g2⟩,g3⟩;have hq:=HL.out.self;refine⟨he,M,D',g1,by omega,(Mod.of_pure hpu).trans (g3.mono (fun k _ hk=>by rw[hk];exact hq)),fun k hk => ?_⟩;rcases g2 k hk with e | e
   ·exact .inl (by rw[e];exact hq)
   ·exact .inr (zF hpu.size e)
  have HRen:=za hren;clear hren;obtain⟨m1,hm1⟩ : ∃ m1:Int,(if 2*(N:Int)<(s:Int)+1 then(s:Int)+1 else 2*(N:Int))=m1:=⟨_,rfl⟩;have hm2:(N:Int)≤m1∧(s:Int)<m1:=by split at hm1<;>omega
  obtain⟨M,hM⟩ : ∃ M:Int,(if m1<4194304 then m1 else(4194304:Int))=M:=⟨_,rfl⟩;have hM1:(N:Int)≤M∧M≤4194304∧(s:Int)<M:=by split at hM<;>omega
  have HM:=za hM1;have HM0:=za hM;have HM2:=za hm1;clear hM1 hM hm2 hm1;refine rHd (S:=fun u=>u.cell? ⟨p,0,none⟩=some (lkP q)) (by exact hb_0) (fun h_ => ?_);refine hTk 0 ?_;refine hTk 1 ?_;refine hTk 2 ?_;refine hLd 3 ?_;refine hTk 4 ?_;refine hTk 6 ?_;refine hTk 7 ?_;refine hTk 8 ?_;refine hTk 9 ?_;refine hTk 10 ?_;refine hTk 11 ?_;rw[HM2.out];refine hTk 12 ?_;rw[HM0.out]
  (refine hSt 5 (fun K hK => ?_);go_simp;refine(HSa.out _).mono ?_;rintro e w1 ⟨g,rfl,hrd,hp1⟩;refine hK.out _ _ ?_ (fun h_ => ?_);(· exact hp1.cell (fun h=>h) hb_0);clear hK K;refine clA ?_)
  (refine hSt 13 (fun K hK => ?_);go_simp;refine(HRen.out _ _ _ (Mod.of_drew hp1) hrd HM.out.1 HM.out.2.1 HM.out.2.2).mono ?_;rintro e w2 ⟨rfl,N',Dl',q1,q2,q3,q4⟩;refine hK.out _ _ ?_ (fun h_ => ?_);(· exact q3.cell HNP.out hb_0);clear hK K;refine clA ?_)
  refine hDn ?_;clear h_;go_wp2
  go_end0
  exact⟨rfl,N',Dl',q1,q2,q3,q4⟩
theorem zbu(h:y5 w D p xs){s:Nat}(hs:s<4194304)(hn:s∉xs) :
    Calls prog 191 #[lkP p,.int .u32 s] w fun e w'=>e=.returned (.int .i64 0)∧(∃ D',y5 w' D' p (xs++[s]) ∧ ∀ k,D' k→D k∨w.heap.size≤k)∧Mod D w w':=by
  obtain⟨q,N,Dl,hb,hl,hd⟩:=h;have HC:=za (KQ hb hs);have HRo:=za (zji hb hl hs);have HN:=za (VB hb hl);have HD:=za hd;have HB:=za hb;have HNI:Hid (¬ inL [xs] s):=fun h=>hn (J6.1 h)
  clear hl hd hs hn;go_enter func191,ntmps191;go_upto_region 5 with(first
    | (go_at_call 189;refine HC.out.mono ?_;rintro e w' ⟨rfl,rfl⟩)
    | (go_at_call 239;refine HRo.out.mono ?_;rintro e w1 ⟨rfl,N',Dl',hl1,hs1,hm1,hg1⟩))
  have hb1:=hm1.heap HN.out HB.out;have HBa:=za (Kj hl1 (k:=0) hs1 rfl HNI.out);have HN1:=za (VB hb1 hl1);have HM1:=za hm1;have HG1:=za hg1;clear hl1 hs1 hm1 hg1 hb;obtain⟨hb1_0,hb1_f,hb1_l,H_hb1⟩:=cr1 hb1;clear hb1
  go_wp2_with (go_at_call 240;refine HBa.out.mono ?_;rintro e w2 ⟨rfl,hl2,hm2⟩)
  go_ret;refine⟨rfl,⟨fun k=>k=p∨Dl' k,⟨q,N',Dl',hm2.heap HN1.out H_hb1.out,hl2,fun _=>xZ⟩,fun k hk => ?_⟩,?_⟩
  · rcases hk with rfl | e
    · exact .inl ((HD.out _).2 (.inl rfl))
    · rcases HG1.out k e with e | e
      · exact .inl ((HD.out _).2 (.inr e))
      · exact .inr e
  · refine Mod.trans' HM1.out hm2 (fun i _ hi=>(HD.out i).2 (.inr hi)) (fun i hi hk => ?_)
    rcases HG1.out i hk with e | e
    · exact(HD.out i).2 (.inr e)
    · omega
theorem zd5{N:Nat}{Ls:List (List Nat)}{gF gL cF cL:Nat}{F:List Nd}(h:xf w p gF gL cF cL N Ls F){n:Nat}(hn:n<N):Calls prog 284 #[lkP p,.int .u32 n] w fun e w'=>e=.returned (.tuple #[.int .u32 n,.int .i64 0])∧w=w':=by
 have hb:=h.box;have d1:decide ((N:Int)≤(n:Int))=false:=zU (by omega);have d1n:decide (N≤n)=false:=zU (by omega);have hnm:=h.nm;have wn:IntKind.i64.wrap (n:Int)=(n:Int):=zt _ (by omega);clear h;generalize F.length=fl at *;generalize Ls.length=ll at *;obtain⟨hb_0,hb_1,hb_2,hb_f,hb_l,H_hb⟩:=cr3 hb;clear hb;go_enter func284,ntmps284;go_wp2;go_ret2;exact⟨rfl,rfl⟩
theorem ze2{Dl:Nat→Prop}{q N:Nat}{x:Nat}{l:List Nat}(h:yl w Dl q N [x::l]):Calls prog 243 #[lkP q,.int .i64 0] w fun e w'=>e=.returned (.tuple #[.int .u32 x,.int .i64 0])∧zb w w':=by
 obtain⟨gF,gL,cF,cL,F,h,h2⟩:=h;have HLi:=za (Vn h (k:=0) (by simp));have HRi:=za (fun(W:World) (hW:zb w W)=>J7 (h.pure hW) (k:=0) (by omega));have HRe:=za (fun(W:World) (hW:zb w W)=>zd5 (h.pure hW) (n:=x) (h.ok.own 0 _ rfl x (by simp)).1);have hNF:N+0<F.length:=h.ok.hd_lt (by simp);obtain⟨c0,c1,c2⟩:=h.at_ (i:=N+0) hNF;rw[(h.ok.ring 0 _ rfl).at_ (i:=0) (x:=N+0) (y:=x) rfl rfl]at c1;have hb:=h.box;obtain⟨FL,hFL⟩:=zf F.length;rw[hFL]at hb hNF;simp only[Nat.add_zero]at hNF c1;have dr:decide (N<FL)=true:=zQ hNF;have hN4:=h.nm;clear h h2 c0 c2;obtain⟨hb_0,hb_1,hb_2,hb_f,hb_l,H_hb⟩:=cr3 hb;clear hb;go_enter func243,ntmps243;go_upto_region 4 with(go_at_call 283;refine HLi.out.mono ?_;rintro e w' ⟨rfl,rfl⟩)
 refine rHd (S:=fun u=>u=w.drew) rfl (fun h_ => ?_);refine hTk 0 ?_;refine hTk 1 ?_;refine hTk 2 ?_;refine hTk 3 ?_;refine hTk 5 ?_;refine hTk 6 ?_;refine hLd 4 ?_
 (refine hSt 7 (fun K hK => ?_);go_simp;refine zq (HRi.out _ ((Mod.refl _ w).drew)) ?_;rintro e w1 ⟨rfl,rfl⟩;refine hK.out _ _ ?_ (fun h_ => ?_);(· rfl);clear hK K;refine clA ?_)
 refine hTk 8 ?_;refine hTk 9 ?_;refine hLd 10 ?_
 (refine hSt 11 (fun K hK => ?_);go_simp;refine zq (HRe.out _ ((Mod.refl _ w).drew)) ?_;rintro e w2 ⟨rfl,rfl⟩;refine hK.out _ _ ?_ (fun h_ => ?_);(· rfl);clear hK K;refine clA ?_)
 refine hTk 12 ?_;refine hTk 13 ?_;refine hTk 14 ?_;refine hTk 15 ?_;refine hDn ?_;clear h_;go_wp2;go_ret2;exact⟨rfl,(Mod.refl _ w).drew⟩
theorem zgi{q N:Nat}{Dl:Nat→Prop}{x:Nat}{l:List Nat}(hb:w.heap[p]? = some (.cells #[lkP q] 254 (0,0)))(hl:yl w Dl q N [x::l]):Calls prog 242 #[lkP p,.func (.func 243) #[] #[]] w fun e w'=>e=.returned (.tuple #[.int .u32 x,.int .i64 0])∧zb w w':=by
  have HC:=za (Qf hb);have HF:=za (ze2 hl);clear hl;obtain⟨hb_0,hb_f,hb_l,H_hb⟩:=cr1 hb;clear hb;go_enter func242,ntmps242
  go_wp2_with (first
    | (go_at_call 189;refine HC.out.mono ?_;rintro e w' ⟨rfl,rfl⟩)
    | (go_at_call 243;refine HF.out.mono ?_;rintro e w' ⟨rfl,hp⟩))
  go_ret2;exact⟨rfl,hp⟩
theorem zki{x:Nat}{l:List Nat}(h:y5 w D p (x::l)):Calls prog 194 #[lkP p] w fun e w'=>e=.returned (.tuple #[.int .u32 x,.int .i64 0])∧zb w w':=by
 obtain⟨q,N,Dl,hb,hl,hd⟩:=h;have HE:=za (zgi hb hl);clear hl hd hb;go_enter func194,ntmps194
 go_wp2_with (go_at_call 242;refine HE.out.mono ?_;rintro e w' ⟨rfl,hp⟩)
 go_ret2;exact⟨rfl,hp⟩
def U6(w:World)(l:List Nat)(e:Ending)(w':World):Prop :=
 ∃ B a c,e=.returned (.func (.func 264) #[] #[.pointer (some ⟨B,0,none⟩)])∧kY w' B a c l∧zb w w'∧w.heap.size≤B∧xq w (.slice a l.length c)
theorem zht{q N:Nat}{Ls:List (List Nat)}(h:yl w D q N Ls){k:Nat}{l:List Nat}(hl:Ls[k]? = some l)(hll:l.length≤4194304):Calls prog 217 #[lkP q,.int .i64 k] w (U6 w l):=by
  have HA:=za (KR h hl);obtain⟨n,hn⟩:=zf l.length;rw[hn]at HA hll;have HN:=za hn;clear h hl hn;obtain⟨i0,hi,iz0,iz1,iz2⟩:=xB qt;go_enter func217,ntmps217;go_upto_region 2 with(first
    | (go_at_call 263;refine HA.out.mono ?_;rintro e w1 ⟨a,c,rfl,hrow,hfr,hp1⟩;have hrd:=Zm hrow;rw[HN.out]at hrd;have HRD:=za hrd;have HP1:=za hp1;clear hrow hfr hp1 hrd)
    | (at_builtin;refine uX _ rfl _ _ 157 rfl 89 i0 _ 1 4 underlying157 hi iz0 iz1 iz2 rfl (by decide) (.slice none 0 0) 0 [] rfl (vV _ _ _ _) _ (zY l) n rfl HRD.out (by rw[qp,HN.out];omega) (by unfold maxLen;omega) (by omega) ?_;intro a7 c7 w5 hr7 hg7 hb7))
  have hp5:zb w1 w5:=Mod.of_grown hg7 (fun k e _=>by cases e);have hr:=hr7;rw[ZM,Yp]at hr;have hal:zb w5 (w5.alloc (.cells #[.slice a7 n c7] 157)):=(Mod.refl _ w5).alloc _;have hbx:=zk (w:=w5) (o := .cells #[.slice a7 n c7] 157 (0,0)) rfl;have hs1:=HP1.out.size;have hs5:=hp5.size;have hf7:xq w (.slice a7 n c7):=fun g hg=>by
    rw[ZM]at hb7;rcases hb7 with e | e
    · rw[e]at hg;cases hg
    · rw[e]at hg;cases hg;exact hs1
  have HE:Hid (U6 w l (.returned (.func (.func 264) #[] #[.pointer (some ⟨w5.heap.size,0,none⟩)])) (w5.alloc (.cells #[.slice a7 n c7] 157))):=za
    ⟨w5.heap.size,a7,c7,rfl,⟨by rw[HN.out];exact hbx,by unfold yu;rw[HN.out];exact zz hr hal (fun _ _ h=>h)⟩,(HP1.out.trans hp5).trans hal,by omega,by rw[HN.out];exact hf7⟩
  clear hr hr7 hg7 hb7 hp5 hal hbx hs1 hs5 hf7;go_wp2;go_ret;exact HE.out
theorem zio(h:y5 w D p xs):Calls prog 167 #[lkP p] w (U6 w xs):=by
  have hlen:=h.law.2.2;obtain⟨q,N,Dl,hb,hl,hd⟩:=h;have HC:=za (Qf hb);have HA:=za (zht hl (k:=0) rfl hlen);clear hl hd hlen;obtain⟨hb_0,hb_f,hb_l,H_hb⟩:=cr1 hb;clear hb;go_enter func167,ntmps167
  go_wp2_with (first
    | (go_at_call 189;refine HC.out.mono ?_;rintro e w' ⟨rfl,rfl⟩)
    | (go_at_call 217;refine HA.out.mono ?_;rintro e w1 ⟨B,a,c,rfl,h1,h2,h3,h4⟩))
  go_ret;exact⟨B,a,c,rfl,h1,h2,h3,h4⟩
end
end
section
open Go.RowKit Go.Maps
structure Wt where
 slot:Nat
 cost:Nat
def cD(c:Nat):DataW Unit := .lit (.int .i64 c)
def jr(v:Value):Option (DataW Unit × List MemPlace):=match v with
 | .int .i64 a=>if 0≤a then some (.lit (.int .i64 a),[])else none
 | _=>none
theorem XX(s:Nat):jr (.int .i64 s)=some (.lit (.int .i64 s),[]):=by
 unfold jr;simp
theorem KT{v:Value}{z:DataW Unit × List MemPlace}(h:jr v=some z) : ∃ s:Nat,v=.int .i64 s∧z=(.lit (.int .i64 s),[]):=by
 unfold jr at h;exact Azvwu
theorem JB{a b:Nat}(h:(DataW.lit (.int .i64 a):DataW Unit)=.lit (.int .i64 b)):a=b:=by
 injection h with h;injection h with _ h;exact ZD.1 h
structure xA(w:World)(b:Nat)(M:List Wt)(D:DataW Unit):Prop where
 own:w.ownsMap prog 89 jr b M.length D
 at_ : ∀ x∈M,∀ zd,D.atKey (kS x.slot) zd=cD x.cost
 has : ∀ s,Maps.has D (kS s)=true → ∃ x∈M,x.slot=s
 size:Maps.size D=M.length
section
variable{w w':World}{b:Nat}{M:List Wt}{D:DataW Unit}{S:Nat→Prop}
theorem xA.mod(h:xA w b M D)(hm:Mod S w w')(hb : ¬ S b):xA w' b M D:=⟨Xi h.own hm hb,h.at_,h.has,h.size⟩
theorem xA.new(w:World):xA (w.alloc (.map #[] 0)) w.heap.size [] (.map []):=⟨XF _ _ _ _,(fun _ h=>by cases h),(fun s h=>by cases h),rfl⟩
theorem xA.perm{M':List Wt}(h:xA w b M D)(hp:M.Perm M'):xA w b M' D :=
 ⟨by rw[← hp.length_eq];exact h.own,fun x hx=>h.at_ x (hp.mem_iff.2 hx),fun s hs=>by obtain⟨x,hx,e⟩:=h.has s hs;exact⟨x,hp.mem_iff.1 hx,e⟩,by rw[← hp.length_eq];exact h.size⟩
theorem xA.has_mem(h:xA w b M D){x:Wt}(hx:x∈M):Maps.has D (kS x.slot)=true:=Maps.has_true_of_atKey (h.at_ x hx)
theorem xA.not_has(h:xA w b M D){s:Nat}(hs : ∀ x∈M,x.slot≠s):Maps.has D (kS s)=false:=by
 exact Az5du
theorem KL(w:World):(zeroValue 3).run prog w=.ok (.int .i64 (0:Nat)) w:=by kernel_rfl
theorem xA.look(h:xA w b M D){x:Wt}(hx:x∈M)(hs:x.slot≤4294967295):(Instr.lookup 153 (.map (some b)) (.int .u32 x.slot) true).run prog w=.ok (.tuple #[.int .i64 x.cost,.bool true]) w:=by
 obtain⟨v,ps,hrun,hv⟩:=h.own.look_ok x9 underlying153 (KL w) (XX _) (uq hs);rw[h.at_ x hx]at hv;obtain⟨y,rfl,e⟩:=KT hv;have:=JB (congrArg Prod.fst e);subst this;rw[hrun,h.has_mem hx]
theorem xA.look_no(h:xA w b M D){s:Nat}(hs:s≤4294967295)(hn : ∀ x∈M,x.slot≠s):(Instr.lookup 153 (.map (some b)) (.int .u32 s) true).run prog w=.ok (.tuple #[.int .i64 0,.bool false]) w:=by
 obtain⟨v,ps,hrun,hv⟩:=h.own.look_ok x9 underlying153 (KL w) (XX _) (uq hs);have h0:=h.not_has hn;rw[Maps.atKey_of_not_has h0]at hv;obtain⟨y,rfl,e⟩:=KT hv;have:=JB (congrArg Prod.fst e);subst this;rw[hrun,h0]
 rfl
theorem xA.look1(h:xA w b M D){x:Wt}(hx:x∈M)(hs:x.slot≤4294967295):(Instr.lookup 153 (.map (some b)) (.int .u32 x.slot) false).run prog w=.ok (.int .i64 x.cost) w:=by
 obtain⟨v,ps,hrun,hv⟩:=h.own.lookup x9 underlying153 (KL w) (XX _) (uq hs);rw[h.at_ x hx]at hv;obtain⟨y,rfl,e⟩:=KT hv;have:=JB (congrArg Prod.fst e);subst this;exact hrun
theorem xA.put{x:Wt}(h:xA w b M D)(hn : ∀ y∈M,y.slot≠x.slot)(ho:w'.ownsMap prog 89 jr b (M.length+1) (D.put (kS x.slot) (cD x.cost))):xA w' b (x::M) (D.put (kS x.slot) (cD x.cost)):=by
 exact Azbit
theorem xA.del{x:Wt}{M':List Wt}(h:xA w b M D)(hx:x∈M)(hM : ∀ y,y∈M'↔y∈M∧y.slot≠x.slot)(hl:M'.length+1=M.length){n:Nat}(ho:w'.ownsMap prog 89 jr b n (D.del (kS x.slot))):xA w' b M' (D.del (kS x.slot)):=by
 exact Azl4r
end
def zA(A:List Wt):List Nat:=A.map Wt.slot
def zw(A:List Wt):Nat:=(A.map Wt.cost).sum
structure SgL(A B:List Wt):Prop where
 nd:(zA (A++B)).Nodup
 rng : ∀ x∈A++B,x.slot<4194304∧x.cost≤1099511627776
theorem vT(A B:List Wt):zw (A++B)=zw A+zw B:=by unfold zw;simp
theorem kj(x:Wt)(B:List Wt):zw (x::B)=x.cost+zw B:=by unfold zw;simp
theorem qv:zw []=0:=rfl
theorem X9(A B:List Wt):zA (A++B)=zA A++zA B:=by unfold zA;simp
theorem zea{A B:List Wt}(h:A.Perm B):zw A=zw B:=(h.map Wt.cost).sum_nat
theorem Xt{A:List Wt}(h : ∀ x∈A,x.cost≤1099511627776):zw A≤A.length*1099511627776:=by
 induction A with
 | nil=>exact yq _
 | cons a A ih =>
  have h1:=h a yD;have h2:=ih (fun x hx=>h x (yE _ hx));rw[kj,qu];omega
theorem SgL.len{A B:List Wt}(h:SgL A B):(A++B).length≤4194304:=by
 have:=qG h.nd (N:=4194304) (fun a ha=>by obtain⟨x,hx,rfl⟩:=zI.1 ha;exact(h.rng x hx).1);unfold zA at this;rw[yH]at this;exact this
theorem SgL.sums{A B:List Wt}(h:SgL A B):zw A+zw B≤4611686018427387904:=by
 have h1:=Xt (A:=A++B) (fun x hx=>(h.rng x hx).2);have h2:=h.len;rw[vT]at h1;have:(A++B).length*1099511627776≤4194304*1099511627776:=Xd _ h2;omega
def zy(A:List Wt)(s:Nat):List Wt:=A.filter (fun x=>decide (x.slot≠s))
theorem ZB{A:List Wt}{s:Nat}(h : ∀ x∈A,x.slot≠s):zy A s=A:=by
 unfold zy;exact jo.2 (fun x hx=>by simpa using h x hx)
theorem jW{A:List Wt}{s:Nat}{y:Wt}:y∈zy A s↔y∈A∧y.slot≠s:=by unfold zy;simp
theorem qw(A B:List Wt)(s:Nat):zy (A++B) s=zy A s++zy B s:=by unfold zy;simp
theorem zbD{A:List Wt}(h:(zA A).Nodup)(s:Nat):zA (zy A s)=(zA A).erase s:=by
 rw[h.erase_eq_filter];unfold zA zy;rw[List.filter_map]
 congr 1
 apply Xs;intro x _;by_cases e:x.slot=s<;>simp[bne,e]
theorem zal{A:List Wt}(h:(zA A).Nodup){x:Wt}(hx:x∈A):A.Perm (x::zy A x.slot):=by
 induction A with
 | nil=>cases hx
 | cons a A ih =>
  have h':a.slot∉zA A∧(zA A).Nodup:=yZ.1 h;rcases yx.1 hx with rfl | hx
  ·have e:zy (x::A) x.slot=A:=by
    unfold zy;rw[List.filter_cons_of_neg (by simp)];exact ZB (fun y hy e=>h'.1 (zI.2 ⟨y,hy,e⟩))
   rw[e]
  ·have hne:a.slot≠x.slot:=fun e=>h'.1 (zI.2 ⟨x,hx,e.symm⟩)
   have e:zy (a::A) x.slot=a::zy A x.slot:=by
    unfold zy;rw[List.filter_cons_of_pos (by simpa using hne)]
   rw[e];exact((ih h'.2 hx).cons a).trans (List.Perm.swap x a _)
theorem zai{A:List Wt}(h:(zA A).Nodup){x:Wt}(hx:x∈A):zw A=x.cost+zw (zy A x.slot):=by
 rw[zea (zal h hx),kj]
theorem Qw{A:List Wt}(h:(zA A).Nodup){x:Wt}(hx:x∈A):A.length=(zy A x.slot).length+1:=by
 rw[(zal h hx).length_eq,qu]
@[go_sem] theorem zmv (w : World) (r : Option Nat) : (binOp .eql 153 (.map r) (.map none)).run prog w=.ok (.bool r.isNone) w := run_eql_map_nil w _ _ _ r underlying153
structure yG(w:World)(D:Nat→Prop)(o l0 l1 bm:Nat)(lim:Int)(D0 D1:Nat→Prop)(Dm:DataW Unit)(A B:List Wt):Prop where
 box:w.heap[o]? = some (.cells #[lkP l0,lkP l1,.int .i64 (zw A:Nat),.int .i64 (zw B:Nat),.map (some bm),.int .i64 lim] 155 (0,0))
 q0:y5 w D0 l0 (zA A)
 q1:y5 w D1 l1 (zA B)
 costs:xA w bm (A++B) Dm
 ne:o≠bm ∧ ¬ D0 o ∧ ¬ D1 o ∧ ¬ D0 bm ∧ ¬ D1 bm ∧ ∀ k,D0 k → ¬ D1 k
 law:SgL A B
 dd : ∀ k,D k↔(k=o∨k=bm∨D0 k∨D1 k)
def yX(w:World)(D:Nat→Prop)(o:Nat)(lim:Int)(A B:List Wt):Prop := ∃ l0 l1 bm D0 D1 Dm,yG w D o l0 l1 bm lim D0 D1 Dm A B
section
variable{w w':World}{D S:Nat→Prop}{o l0 l1 bm:Nat}{lim:Int}{D0 D1:Nat→Prop}{Dm:DataW Unit}{A B:List Wt}
theorem yG.frame(h:yG w D o l0 l1 bm lim D0 D1 Dm A B)(hm:Mod S w w')(hd : ∀ k,D k → ¬ S k):yG w' D o l0 l1 bm lim D0 D1 Dm A B :=
 ⟨hm.heap (hd o ((h.dd o).2 (.inl rfl))) h.box,h.q0.frame hm (fun k hk=>hd k ((h.dd k).2 (.inr (.inr (.inl hk))))),h.q1.frame hm (fun k hk=>hd k ((h.dd k).2 (.inr (.inr (.inr hk))))),h.costs.mod hm (hd bm ((h.dd bm).2 (.inr (.inl rfl)))),h.ne,h.law,h.dd⟩
theorem yG.pure(h:yG w D o l0 l1 bm lim D0 D1 Dm A B)(hm:zb w w'):yG w' D o l0 l1 bm lim D0 D1 Dm A B:=h.frame hm (fun _ _ h=>h)
theorem yG.lt(h:yG w D o l0 l1 bm lim D0 D1 Dm A B){k:Nat}(hk:D k):k<w.heap.size:=by
 rcases(h.dd k).1 hk with rfl | rfl | e | e
 ·exact zm h.box
 ·exact h.costs.own.lt
 ·exact h.q0.lt e
 ·exact h.q1.lt e
theorem yX.frame(h:yX w D o lim A B)(hm:Mod S w w')(hd : ∀ k,D k → ¬ S k):yX w' D o lim A B:=by
 obtain⟨l0,l1,bm,D0,D1,Dm,h⟩:=h;exact⟨l0,l1,bm,D0,D1,Dm,h.frame hm hd⟩
theorem yX.pure(h:yX w D o lim A B)(hm:zb w w'):yX w' D o lim A B:=h.frame hm (fun _ _ h=>h)
theorem yX.lt(h:yX w D o lim A B){k:Nat}(hk:D k):k<w.heap.size:=by
 obtain⟨l0,l1,bm,D0,D1,Dm,h⟩:=h;exact h.lt hk
theorem yX.self(h:yX w D o lim A B):D o:=by
 obtain⟨l0,l1,bm,D0,D1,Dm,h⟩:=h;exact(h.dd o).2 (.inl rfl)
theorem yX.law(h:yX w D o lim A B):SgL A B:=by
 obtain⟨l0,l1,bm,D0,D1,Dm,h⟩:=h;exact h.law
theorem Ji(h:yG w D o l0 l1 bm lim D0 D1 Dm A B){s:Nat}(hs:s<4194304){c:Nat}(hc:c≤1099511627776):Calls prog 83 #[lkP o,.int .u32 s,.int .i64 c] w fun e w'=>e=.returned (.int .i64 0)∧w=w':=by
 have hb:=h.box;have h1 : ¬ ((c:Int)<0):=by omega
 have h2 : ¬ (1099511627776:Int)<(c:Int):=by omega
 have d:decide ((4194304:Int)≤(s:Int))=false:=zU (by omega);have dn:decide (4194304≤s)=false:=zU (by omega);clear h;generalize zw A=sa at *;generalize zw B=sb at *;obtain⟨hb_0,hb_1,hb_2,hb_3,hb_4,hb_5,hb_f,hb_l,H_hb⟩:=cr6 hb;clear hb;go_enter func83,ntmps83;go_wp2;go_ret;exact⟨rfl,rfl⟩
theorem Jl(h:yG w D o l0 l1 bm lim D0 D1 Dm A B){s:Nat}(hs:s<4194304):Calls prog 83 #[lkP o,.int .u32 s,.int .i64 0] w fun e w'=>e=.returned (.int .i64 0)∧w=w':=Ji h hs (c:=0) (by omega)
def gOf(B:List Wt)(s:Nat):Nat:=if s∈zA B then 1 else 0
theorem Aziyh {P:Prop}(h:P:=by
 go_wp2_with (go_at_call 138;refine HH.out.mono ?_;rintro e w' ⟨rfl,rfl⟩)
 go_ret;exact⟨rfl,rfl⟩):P:=h
theorem KU(h:yG w D o l0 l1 bm lim D0 D1 Dm A B){s:Nat}(hs:s<4194304):Calls prog 84 #[lkP o,.int .u32 s] w fun e w'=>e=.returned (.int .i64 (gOf B s:Nat))∧w=w':=by
 have hb:=h.box;have HH:=za (QT h.q1 hs);clear h;generalize zw A=sa at *;generalize zw B=sb at *;unfold gOf;obtain⟨hb_0,hb_1,hb_2,hb_3,hb_4,hb_5,hb_f,hb_l,H_hb⟩:=cr6 hb;clear hb;by_cases c:s∈zA B
 ·rw[zj c];rw[zQ c]at HH;go_enter func84,ntmps84;exact Aziyh
 ·rw[zh c];rw[zU c]at HH;go_enter func84,ntmps84;exact Aziyh
theorem V3(h:yX w D o lim A B){x:Wt}(hx:x∈A++B):Calls prog 44 #[lkP o,.int .u32 x.slot] w fun e w'=>e=.returned (.tuple #[.int .i64 (gOf B x.slot:Nat),.int .i64 x.cost,.int .i64 0])∧w=w':=by
  obtain⟨l0,l1,bm,D0,D1,Dm,h⟩:=h;have hs:=(h.law.rng x hx).1;have HC:=za (Jl h hs);have HO:=za (KU h hs);have hlk:=fun W (hW:zb w W)=>((h.pure hW).costs).look hx (by omega)
  have hlw:=hlk w (Mod.refl _ w);have hlw2:=hlk w.drew (Mod.refl _ w).drew;have hb:=h.box;clear h hx hlk;obtain⟨s,c⟩:=x;dsimp only at *;generalize zw A=sa at *;generalize zw B=sb at *;generalize gOf B s=g at *;obtain⟨hb_0,hb_1,hb_2,hb_3,hb_4,hb_5,hb_f,hb_l,H_hb⟩:=cr6 hb;clear hb;go_enter func44,ntmps44
  go_wp2_with (first
    | (go_at_call 83;refine HC.out.mono ?_;rintro e w' ⟨rfl,rfl⟩)
    | (go_at_call 84;refine HO.out.mono ?_;rintro e w' ⟨rfl,rfl⟩))
  refine zR (v := .tuple #[.int .i64 g,.int .i64 c,.int .i64 0]) (by simp[results,results44,go_sem]) rfl ⟨rfl,rfl⟩
theorem Kn(h:yG w D o l0 l1 bm lim D0 D1 Dm A B){x:Wt}(hs:x.slot<4194304)(hc:x.cost≤1099511627776)(hn:x.slot∉zA (A++B)) :
  Calls prog 139 #[lkP o,.int .i64 0,.int .u32 x.slot,.int .i64 x.cost] w fun e w'=>e=.returned (.tuple #[])∧(∃ D' D0' Dm',yG w' D' o l0 l1 bm lim D0' D1 Dm' (A++[x]) B∧vO D D' w)∧Mod D w w':=by
 have HA:=za (zbu h.q0 hs (fun e=>hn (by rw[X9];exact xQ _ e)));have HH:=za h;have hb:=h.box;have hsum:=h.law.sums;have hlen:=h.law.len;obtain⟨ne1,ne2,ne3,ne4,ne5,ne6⟩:=h.ne;have HN:=za hn;have ob:o<w.heap.size:=zm h.box;have bb:bm<w.heap.size:=h.costs.own.lt;clear h hn;obtain⟨s,c⟩:=x;dsimp only at *;obtain⟨sa,hsa⟩:=zf (zw A);obtain⟨sb,hsb⟩:=zf (zw B);rw[hsa,hsb]at hb hsum;have HSA:=za hsa;have HSB:=za hsb;clear hsa hsb;have ws:IntKind.i64.wrap ((sa:Int)+(c:Int))=(sa:Int)+(c:Int):=zt _ (by omega);obtain⟨hb_0,hb_1,hb_2,hb_3,hb_4,hb_5,hb_f,hb_l,H_hb⟩:=cr6 hb;clear hb;go_enter func139,ntmps139;go_upto_region 1 with(go_at_call 191;refine HA.out.mono ?_;rintro e w1 ⟨rfl,⟨D',hq,hg⟩,hm⟩)
 have hb1:=hm.heap ne2 H_hb.out;have hcm:=HH.out.costs.mod hm ne4;have HM1:=za hm;have HQ1:=za hq;have HG1:=za hg;have HB1:=za hb1;have HC1:=za hcm;have sz1:w.heap.size≤w1.heap.size:=hm.size;clear hb_0 hb_1 hb_2 hb_3 hb_4 hb_5 hb_f hb_l;clear H_hb hm hq hg hcm;obtain⟨hb1_0,hb1_1,hb1_2,hb1_3,hb1_4,hb1_5,hb1_f,hb1_l,H_hb1⟩:=cr6 hb1;clear hb1
 go_still_tail 11,(by kernel_rfl)
 go_upto_region 2 with fail
 obtain⟨Y,hY⟩:=zf ((w1.setCell ⟨o,2,none⟩ (.int .i64 ((sa:Int)+(c:Int)))).drew);have hb2:(w1.setCell ⟨o,2,none⟩ (.int .i64 ((sa:Int)+(c:Int)))).drew.heap[o]? = _:=zX w1 o 2 _ _ (.int .i64 ((sa:Int)+(c:Int))) HB1.out;have hm2:Mod (fun k=>k=o) w1 (w1.setCell ⟨o,2,none⟩ (.int .i64 ((sa:Int)+(c:Int)))).drew:=((Mod.refl (fun k=>k=o) w1).setCell (p:=⟨o,2,none⟩) (fun _=>rfl) _).drew;rw[hY]at hb2 hm2 ⊢;have HC2:=za (HC1.out.mod hm2 (fun e=>ne1 e.symm));have HM2:=za hm2;have HB2:=za hb2;clear hb1_0 hb1_1 hb1_2 hb1_3 hb1_4 hb1_5 hb1_f hb1_l;clear H_hb1 hY hm2;simp only[List.setIfInBounds_toArray,List.set_cons_succ,List.set_cons_zero,Array.setIfInBounds]at hb2;obtain⟨hb2_0,hb2_1,hb2_2,hb2_3,hb2_4,hb2_5,hb2_f,hb2_l,H_hb2⟩:=cr6 hb2;clear hb2;have hMl:(A++B).length<maxLen:=by unfold maxLen;omega
 go_wp2_with (at_mapUpdate;refine XS _ rfl _ _ _ 153 rfl 89 3 x9 underlying153 jr bm (A++B).length Dm rfl HC2.out.own hMl (.int .u32 s) (.int .i64 c) (kS s) rfl rfl (uq (by omega)) (cD c) [] (XX c) ?_;intro w4 ho4 hg4;go_frame)
 have hm4:Mod (fun k=>k=bm) Y w4:=Mod.of_grown hg4 (fun k e _=>by cases e;rfl);have hnn : ∀ y∈A++B,y.slot≠s:=fun y hy e=>HN.out (zI.2 ⟨y,hy,e⟩)
 have hT4:=HC2.out.put (x:=⟨s,c⟩) hnn ho4;have hbx4:=hm4.heap (fun e=>ne1 e) HB2.out;have hall:Mod (fun k=>k=o∨k=bm) w1 w4:=Mod.trans' HM2.out hm4 (fun i _ h => .inl h) (fun i _ h => .inr h);have gD : ∀ k,D' k→D0 k∨w.heap.size≤k:=HG1.out;have hDlt : ∀ k,D1 k→k<w.heap.size:=fun k hk=>HH.out.q1.lt hk
 have nD'o : ¬ D' o:=fun hk=>by rcases gD o hk with e | e;exact ne2 e;omega
 have nD'b : ¬ D' bm:=fun hk=>by rcases gD bm hk with e | e;exact ne4 e;omega
 go_end0
 refine⟨rfl,⟨fun k=>k=o∨k=bm∨D' k∨D1 k,D',_,⟨?_,?_,?_,hT4.perm ?_,?_,?_,fun _=>xZ⟩,fun k hk => ?_⟩,?_⟩
 ·rw[hbx4];have e1:=HSA.out;have e2:=HSB.out;simp[vT,vT,kj,qv,e1,e2]
 ·have e3:zA (A++[⟨s,c⟩])=zA A++[s]:=by simp[zA]
  rw[e3];exact HQ1.out.frame hall (fun k hk h=>by rcases h with e | e;exact nD'o (e ▸ hk);exact nD'b (e ▸ hk))
 ·exact(HH.out.q1.frame HM1.out (fun k hk h=>ne6 k h hk)).frame hall (fun k hk h=>by rcases h with e | e;exact ne3 (e ▸ hk);exact ne5 (e ▸ hk))
 ·simpa using(List.perm_middle (a:=(⟨s,c⟩:Wt)) (l₁:=A) (l₂:=B)).symm
 ·exact⟨ne1,nD'o,ne3,nD'b,ne5,fun k hk h1=>by rcases gD k hk with e | e;exact ne6 k e h1;have:=hDlt k h1;omega⟩
 ·refine⟨?_,fun y hy => ?_⟩
  ·have hnd:=HH.out.law.nd;have hp:(zA ((A++[(⟨s,c⟩:Wt)])++B)).Perm (s::zA (A++B)):=by
    unfold zA;exact(List.Perm.map Wt.slot (show(((A++[(⟨s,c⟩:Wt)])++B)).Perm ((⟨s,c⟩:Wt)::(A++B))from by simpa using(List.perm_middle (a:=(⟨s,c⟩:Wt)) (l₁:=A) (l₂:=B))))
   exact hp.nodup_iff.2 (yZ.2 ⟨HN.out,hnd⟩)
  ·have hy':y=⟨s,c⟩∨y∈A++B:=by simp at hy ⊢;rcases hy with h | h | h;exact .inr (.inl h);exact .inl h;exact .inr (.inr h)
   rcases hy' with rfl | hy'
   ·exact⟨hs,hc⟩
   ·exact HH.out.law.rng y hy'
 ·rcases hk with e | e | e
  ·exact .inl ((HH.out.dd k).2 (.inl e))
  ·exact .inl ((HH.out.dd k).2 (.inr (.inl e)))
  ·rcases e with e | e
   ·rcases gD k e with e | e
    ·exact .inl ((HH.out.dd k).2 (.inr (.inr (.inl e))))
    ·exact .inr e
   ·exact .inl ((HH.out.dd k).2 (.inr (.inr (.inr e))))
 ·refine Mod.trans' HM1.out hall (fun i _ hi=>(HH.out.dd i).2 (.inr (.inr (.inl hi)))) (fun i _ hi=>(HH.out.dd i).2 (by rcases hi with e | e;exact .inl e;exact .inr (.inl e)))
theorem zh0(h:yG w D o l0 l1 bm lim D0 D1 Dm A B){x:Wt}(hs:x.slot<4194304)(hc:x.cost≤1099511627776)(hn:x.slot∉zA (A++B)) :
  Calls prog 139 #[lkP o,.int .i64 1,.int .u32 x.slot,.int .i64 x.cost] w fun e w'=>e=.returned (.tuple #[])∧(∃ D' D1' Dm',yG w' D' o l0 l1 bm lim D0 D1' Dm' A (B++[x])∧vO D D' w)∧Mod D w w':=by
 have HA:=za (zbu h.q1 hs (fun e=>hn (by rw[X9];exact xF _ e)));have HH:=za h;have hb:=h.box;have hsum:=h.law.sums;have hlen:=h.law.len;obtain⟨ne1,ne2,ne3,ne4,ne5,ne6⟩:=h.ne;have HN:=za hn;have ob:o<w.heap.size:=zm h.box;have bb:bm<w.heap.size:=h.costs.own.lt;clear h hn;obtain⟨s,c⟩:=x;dsimp only at *;obtain⟨sa,hsa⟩:=zf (zw A);obtain⟨sb,hsb⟩:=zf (zw B);rw[hsa,hsb]at hb hsum;have HSA:=za hsa;have HSB:=za hsb;clear hsa hsb;have ws:IntKind.i64.wrap ((sb:Int)+(c:Int))=(sb:Int)+(c:Int):=zt _ (by omega);obtain⟨hb_0,hb_1,hb_2,hb_3,hb_4,hb_5,hb_f,hb_l,H_hb⟩:=cr6 hb;clear hb;go_enter func139,ntmps139;go_upto_region 1 with(go_at_call 191;refine HA.out.mono ?_;rintro e w1 ⟨rfl,⟨D',hq,hg⟩,hm⟩)
 have hb1:=hm.heap ne3 H_hb.out;have hcm:=HH.out.costs.mod hm ne5;have HM1:=za hm;have HQ1:=za hq;have HG1:=za hg;have HB1:=za hb1;have HC1:=za hcm;have sz1:w.heap.size≤w1.heap.size:=hm.size;clear hb_0 hb_1 hb_2 hb_3 hb_4 hb_5 hb_f hb_l;clear H_hb hm hq hg hcm;obtain⟨hb1_0,hb1_1,hb1_2,hb1_3,hb1_4,hb1_5,hb1_f,hb1_l,H_hb1⟩:=cr6 hb1;clear hb1
 go_still_tail 11,(by kernel_rfl)
 go_upto_region 2 with fail
 obtain⟨Y,hY⟩:=zf ((w1.setCell ⟨o,3,none⟩ (.int .i64 ((sb:Int)+(c:Int)))).drew);have hb2:(w1.setCell ⟨o,3,none⟩ (.int .i64 ((sb:Int)+(c:Int)))).drew.heap[o]? = _:=zX w1 o 3 _ _ (.int .i64 ((sb:Int)+(c:Int))) HB1.out;have hm2:Mod (fun k=>k=o) w1 (w1.setCell ⟨o,3,none⟩ (.int .i64 ((sb:Int)+(c:Int)))).drew:=((Mod.refl (fun k=>k=o) w1).setCell (p:=⟨o,3,none⟩) (fun _=>rfl) _).drew;rw[hY]at hb2 hm2 ⊢;have HC2:=za (HC1.out.mod hm2 (fun e=>ne1 e.symm));have HM2:=za hm2;have HB2:=za hb2;clear hb1_0 hb1_1 hb1_2 hb1_3 hb1_4 hb1_5 hb1_f hb1_l;clear H_hb1 hY hm2;simp only[List.setIfInBounds_toArray,List.set_cons_succ,List.set_cons_zero,Array.setIfInBounds]at hb2;obtain⟨hb2_0,hb2_1,hb2_2,hb2_3,hb2_4,hb2_5,hb2_f,hb2_l,H_hb2⟩:=cr6 hb2;clear hb2;have hMl:(A++B).length<maxLen:=by unfold maxLen;omega
 go_wp2_with (at_mapUpdate;refine XS _ rfl _ _ _ 153 rfl 89 3 x9 underlying153 jr bm (A++B).length Dm rfl HC2.out.own hMl (.int .u32 s) (.int .i64 c) (kS s) rfl rfl (uq (by omega)) (cD c) [] (XX c) ?_;intro w4 ho4 hg4;go_frame)
 have hm4:Mod (fun k=>k=bm) Y w4:=Mod.of_grown hg4 (fun k e _=>by cases e;rfl);have hnn : ∀ y∈A++B,y.slot≠s:=fun y hy e=>HN.out (zI.2 ⟨y,hy,e⟩)
 have hT4:=HC2.out.put (x:=⟨s,c⟩) hnn ho4;have hbx4:=hm4.heap (fun e=>ne1 e) HB2.out;have hall:Mod (fun k=>k=o∨k=bm) w1 w4:=Mod.trans' HM2.out hm4 (fun i _ h => .inl h) (fun i _ h => .inr h);have gD : ∀ k,D' k→D1 k∨w.heap.size≤k:=HG1.out;have hDlt : ∀ k,D0 k→k<w.heap.size:=fun k hk=>HH.out.q0.lt hk
 have nD'o : ¬ D' o:=fun hk=>by rcases gD o hk with e | e;exact ne3 e;omega
 have nD'b : ¬ D' bm:=fun hk=>by rcases gD bm hk with e | e;exact ne5 e;omega
 go_end0
 refine⟨rfl,⟨fun k=>k=o∨k=bm∨D0 k∨D' k,D',_,⟨?_,?_,?_,hT4.perm ?_,?_,?_,fun _=>xZ⟩,fun k hk => ?_⟩,?_⟩
 ·rw[hbx4];have e1:=HSA.out;have e2:=HSB.out;simp[vT,vT,kj,qv,e1,e2]
 ·exact(HH.out.q0.frame HM1.out (fun k hk h=>ne6 k hk h)).frame hall (fun k hk h=>by rcases h with e | e;exact ne2 (e ▸ hk);exact ne4 (e ▸ hk))
 ·have e3:zA (B++[⟨s,c⟩])=zA B++[s]:=by simp[zA]
  rw[e3];exact HQ1.out.frame hall (fun k hk h=>by rcases h with e | e;exact nD'o (e ▸ hk);exact nD'b (e ▸ hk))
 ·rw[← vL];exact(JS _ _).symm
 ·exact⟨ne1,ne2,nD'o,ne4,nD'b,fun k hk h1=>by rcases gD k h1 with e | e;exact ne6 k hk e;have:=hDlt k hk;omega⟩
 ·refine⟨?_,fun y hy => ?_⟩
  ·have hnd:=HH.out.law.nd;have hp:(zA (A++(B++[(⟨s,c⟩:Wt)]))).Perm (s::zA (A++B)):=by
    unfold zA;exact(List.Perm.map Wt.slot (show((A++(B++[(⟨s,c⟩:Wt)]))).Perm ((⟨s,c⟩:Wt)::(A++B))from by rw[← vL];exact JS _ _))
   exact hp.nodup_iff.2 (yZ.2 ⟨HN.out,hnd⟩)
  ·have hy':y=⟨s,c⟩∨y∈A++B:=by simp at hy ⊢;rcases hy with h | h | h;exact .inr (.inl h);exact .inr (.inr h);exact .inl h
   rcases hy' with rfl | hy'
   ·exact⟨hs,hc⟩
   ·exact HH.out.law.rng y hy'
 ·rcases hk with e | e | e
  ·exact .inl ((HH.out.dd k).2 (.inl e))
  ·exact .inl ((HH.out.dd k).2 (.inr (.inl e)))
  ·rcases e with e | e
   ·exact .inl ((HH.out.dd k).2 (.inr (.inr (.inl e))))
   ·rcases gD k e with e | e
    ·exact .inl ((HH.out.dd k).2 (.inr (.inr (.inr e))))
    ·exact .inr e
 ·refine Mod.trans' HM1.out hall (fun i _ hi=>(HH.out.dd i).2 (.inr (.inr (.inr hi)))) (fun i _ hi=>(HH.out.dd i).2 (by rcases hi with e | e;exact .inl e;exact .inr (.inl e)))
end
end
section
open Go.RowKit
section
variable{w w':World}{D:Nat→Prop}{p:Nat}{Ls:List (List Nat)}
def zZ(D D':Nat→Prop)(w:World):Prop := ∀ k,D' k→D k∨w.heap.size≤k
theorem zZ.refl(D:Nat→Prop)(w:World):zZ D D w:=fun _ h => .inl h
theorem zgC(h:yM w D p Ls){s b:Nat}{l:List Nat}(hs:s<4194304)(hl:Ls[b]? = some l)(hf : ¬ inL Ls s) :
    Calls prog 254 #[lkP p,.int .u32 s,.int .i64 b] w fun e w'=>e=.returned (.int .i64 0)∧(∃ D',yM w' D' p (Ls.set b (l++[s]))∧zZ D D' w)∧Mod D w w':=by
  have hb:b<256:=by have:=(zE.1 hl).1;rw[h.len]at this;exact this
  have HCk:=za (Vz h hs (b:=(b:Int)) (by omega) (by omega));have HW:=za h;obtain⟨q,many,N,Dl,h1,h2,h3,h4⟩:=h;have HRo:=za (zkm h1 h2 h3 hs);have HB:=za h1;have HDD:=za h4;have HL:=za hl;have HF:=za hf;have H3:=za h3;have HNB:=za (Va h1 h2);have hpq:p≠q:=fun e=>Va h1 h2 (e ▸ h2.self)
  have hpl:p<w.heap.size:=zm h1;clear h1 h2 h3 h4 hl hf;have b0:(0:Int)≤(b:Int):=by omega
  go_enter func254,ntmps254;go_upto_region 5 with(first
    | (go_at_call 286;refine HCk.out.mono ?_;rintro e w' ⟨rfl,rfl⟩)
    | (go_at_call 289;refine HRo.out.mono ?_;rintro e w1 ⟨rfl,N',Dl',hl1,hsN,hm1,hg1⟩))
  have hbx1:=hm1.heap HNB.out HB.out;have hnb1:=Va hbx1 hl1;have HBk:=za (Kj hl1 hsN HL.out HF.out);have HM1:=za hm1;have HG1:=za hg1;have HBX1:=za hbx1;have HNB1:=za hnb1;obtain⟨c0,c5,_,_⟩:=j8 hbx1;clear hl1 hm1 hg1 hbx1 hnb1 c5;go_upto_region 8 with(go_at_call 240;refine HBk.out.mono ?_;rintro e w2 ⟨rfl,hl2,hm2⟩)
  have hbx2:=hm2.heap HNB1.out HBX1.out;have HSe:=za (zeP hbx2 hb);have HL2:=za hl2;have HM2:=za hm2;clear hl2 hm2 hbx2 c0;go_upto_region 9 with(go_at_call 290;refine HSe.out.mono ?_;rintro e w3 ⟨rfl,hbx3,hm3⟩)
  obtain⟨c0,c5,g5,hlt3⟩:=j8 hbx3;have g55:=g5 5;have HBX3:=za hbx3;have HM3:=za hm3;clear hbx3 hm3 g5;obtain⟨m2,hm2⟩:=zf (IntKind.i64.wrap (many+1));have hend:=QO HBX3.out m2;have hmd:=(Mod.refl (fun k=>k=p) w3).setCell (p:=⟨p,5,none⟩) (fun _=>rfl) (.int .i64 m2);have HEnd:=za hend;have HMd:=za hmd;clear hend hmd;go_wp2;go_ret;have hne:neB (Ls.set b (l++[s]))=vB (neB Ls) b true:=by
    rw[J0 (by rw[H3.out];exact hb)]
    congr 1
    simp
  refine⟨rfl,⟨fun k=>k=p∨Dl' k,⟨q,m2,N',Dl',?_,(HL2.out.frame HM3.out (fun k hk e=>HNB1.out (e ▸ hk))).frame HMd.out (fun k hk e=>HNB1.out (e ▸ hk)),by rw[xC];exact H3.out,fun k=>xZ⟩,fun k hk => ?_⟩,?_⟩
  · rw[hne];exact HEnd.out
  · rcases hk with rfl | hk
    · exact .inl ((HDD.out k).2 (.inl rfl))
    · rcases HG1.out k hk with e | e
      · exact .inl ((HDD.out k).2 (.inr e))
      · exact .inr e
  · refine(HM1.out.mono (fun k _ hk=>(HDD.out k).2 (.inr hk))).then ((HM2.out.mono (fun k _ hk=>Or.inr hk):Mod (fun k=>k=p∨Dl' k) w1 w2).trans ((HM3.out.trans HMd.out).mono (fun k _ hk=>Or.inl hk))) (fun k hk e => ?_)
    rcases e with rfl | e
    · exact(HDD.out k).2 (.inl rfl)
    · rcases HG1.out k e with e2 | e2
      · exact(HDD.out k).2 (.inr e2)
      · omega
theorem zfI(h:yM w D p Ls){s:Nat}(hs:s<4194304){b:Nat}{l:List Nat}(hl:Ls[b]? = some l)(hm:s∈l) :
    Calls prog 273 #[lkP p,.int .u32 s] w fun e w'=>e=.returned (.tuple #[.int .i64 b,.int .i64 0])∧w=w':=by
  have HCk:=za (Vz h hs (b:=0) (by omega) (by omega));obtain⟨q,many,N,Dl,h1,h2,h3,h4⟩:=h;have HOf:Hid (Calls prog 190 #[lkP q,.int .u32 s] w fun e w'=>e=.returned (.tuple #[.int .i64 b,.int .i64 0])∧w=w'):=za (by
    refine(zbx h2 (n:=s) (by omega)).mono ?_;rintro e w' ⟨hp,rfl⟩;refine⟨?_,rfl⟩;rcases hp with⟨k,l',e1,e2,rfl⟩ | ⟨hn,_⟩
    · obtain⟨gF,gL,cF,cL,F,m1,m2⟩:=h2
      have:=(m1.ok.own k l' e1 s e2).2;have h9:=(m1.ok.own b l hl s hm).2;rw[show k=b by omega]
    · exact absurd ⟨b,l,hl,hm⟩ hn)
  obtain⟨c0,_,_,_⟩:=j8 h1;clear h1 h2 h3 h4 hl hm;go_enter func273,ntmps273
  go_wp2_with (first
    | (go_at_call 286;refine HCk.out.mono ?_;rintro e w' ⟨rfl,rfl⟩)
    | (go_at_call 190;refine HOf.out.mono ?_;rintro e w' ⟨rfl,rfl⟩))
  go_ret2;exact⟨rfl,rfl⟩
theorem zcT(h:yM w D p Ls){s b:Nat}{l:List Nat}(hs:s<4194304)(hl:Ls[b]? = some l)(hm:s∈l) :
    Calls prog 231 #[lkP p,.int .u32 s] w fun e w'=>e=.returned (.tuple #[.int .i64 b,.int .i64 0])∧yM w' D p (Ls.set b (l.erase s))∧Mod D w w':=by
  have hb:b<256:=by have:=(zE.1 hl).1;rw[h.len]at this;exact this
  have HBu:=za (zfI h hs hl hm);obtain⟨q,many,N,Dl,h1,h2,h3,h4⟩:=h;have HRe:=za (zdI h2 hl hm);have HNB:=za (Va h1 h2);have HB:=za h1;have HDD:=za h4;have H3:=za h3;have HNE0:Hid (neB Ls b=true):=za (by unfold neB;rw[hl];cases l with | nil=>cases hm | cons x l=>rfl);have hbl:b<Ls.length:=by rw[h3];exact hb
  have hl9:(Ls.set b (l.erase s))[b]? = some (l.erase s):=yt hbl;have HL9:=za hl9;obtain⟨c0,c5,_,_⟩:=j8 h1;clear h1 h2 h3 h4 hl hm hl9;have b0:(0:Int)≤(b:Int):=by omega
  go_enter func231,ntmps231;go_upto_region 5 with(first
    | (go_at_call 273;refine HBu.out.mono ?_;rintro e w' ⟨rfl,rfl⟩)
    | (go_at_call 229;refine HRe.out.mono ?_;rintro e w1 ⟨rfl,hl1,hm1⟩))
  have hbx1:=hm1.heap HNB.out HB.out;obtain⟨m2,hmm⟩:=zf (IntKind.i64.wrap (many-1));have hend:=QO hbx1 m2;have hmd:=(Mod.refl (fun k=>k=p) w1).setCell (p:=⟨p,5,none⟩) (fun _=>rfl) (.int .i64 m2);have hl2:=hl1.frame hmd (fun k hk e=>HNB.out (e ▸ hk));have hmt:Mod (fun k=>k=p∨Dl k) w (w1.setCell ⟨p,5,none⟩ (.int .i64 m2)):=(hm1.mono (fun _ _ h=>Or.inr h)).trans (hmd.mono (fun _ _ h=>Or.inl h));have HLe:=za (fun W (hW:w1.setCell ⟨p,5,none⟩ (.int .i64 m2)=W)=>(hW ▸ zc2 hl2 HL9.out:Calls prog 241 #[lkP q,.int .i64 b] W fun e w'=>e=.returned (.int .i64 (l.erase s).length)∧W=w'));obtain⟨d0,d5,g5,hlt1⟩:=j8 hbx1;have g55:=g5 5;have HL2:=za hl2;have HMt:=za hmt;have HEnd:=za hend;clear hl1 hm1 hl2 hmt hend hmd g5 hbx1 c0 c5;go_upto_region 6 with fail
  generalize hW3:w1.setCell ⟨p,5,none⟩ (.int .i64 m2)=W3 at *;have HLe3:=za (HLe.out W3 rfl);have hb3:=HEnd.out;have HFin:Hid (∀ X:World,X.heap[p]? = some (.cells (whC q (neB (Ls.set b (l.erase s))) m2) 320 (0,0))→yl X Dl q N (Ls.set b (l.erase s))→yM X D p (Ls.set b (l.erase s))):=za (fun X g1 g2=>⟨q,m2,N,Dl,g1,g2,by rw[xC];exact H3.out,HDD.out⟩);have hne:=J0 (Ls:=Ls) hbl (l.erase s);have HNE:=za hne;have HMD:Hid (Mod D w W3):=za (HMt.out.mono (fun k _ hk=>(HDD.out k).2 hk));have HCl:=za (zeT hb3 hb);obtain⟨d0,d5,_,_⟩:=j8 hb3;clear hne hW3 HLe hb3 HMt;obtain⟨l',hl'⟩ : ∃ l',l.erase s=l':=⟨_,rfl⟩;rw[hl']at HLe3 HFin HNE HL2;have HLE:=za hl';clear hl'
  cases l' with
  | nil =>
    have HLe4:Hid (Calls prog 241 #[lkP q,.int .i64 b] W3 fun e w'=>e=.returned (.int .i64 0)∧W3=w'):=HLe3;clear HLe3
    go_wp2_with (first
      | (go_at_call 241;refine HLe4.out.mono ?_;rintro e w' ⟨rfl,rfl⟩)
      | (go_at_call 274;refine HCl.out.mono ?_;rintro e w5 ⟨rfl,q1,q2⟩))
    go_ret2;refine⟨rfl,by rw[HLE.out];exact HFin.out _ (by rw[HNE.out];exact q1) (HL2.out.frame q2 (fun k hk e=>HNB.out (e ▸ hk))),HMD.out.trans (q2.mono (fun k _ hk=>by rw[hk];exact(HDD.out p).2 (.inl rfl)))⟩
  | cons x l2 =>
    obtain⟨n,hn⟩:=zf ((x::l2).length);have hn0:n≠0:=by rw[← hn];simp
    rw[hn]at HLe3;have e0:((n:Int)==0)=false:=by simp;omega
    have HN:=za hn;clear hn hn0
    go_wp2_with (go_at_call 241;refine HLe3.out.mono ?_;rintro e w' ⟨rfl,rfl⟩)
    go_ret2;exact⟨rfl,by rw[HLE.out];exact HFin.out _ (by rw[HNE.out,zia (by rw[HNE0.out];rfl)];exact HEnd.out) HL2.out,HMD.out⟩
end
theorem set_self{Ls:List (List Nat)}{b:Nat}{l:List Nat}(h:Ls[b]? = some l):Ls.set b l=Ls:=by
 refine uF (fun j => ?_);by_cases e:b=j
 ·subst e;rw[yt (zE.1 h).1,h]
 ·rw[yw e]
section
variable{w w':World}{D:Nat→Prop}{p:Nat}{Ls:List (List Nat)}
theorem yM.small(h:yM w D p Ls){b:Nat}{l:List Nat}(hl:Ls[b]? = some l):l.length≤4194304∧(∀ s∈l,s<4194304)∧b<256∧l.Nodup:=by
 have hb:b<256:=by have:=(zE.1 hl).1;rw[h.len]at this;exact this
 obtain⟨q,many,N,Dl,h1,⟨gF,gL,cF,cL,F,m1,m2⟩,h3,h4⟩:=h;have:=m1.nm;exact⟨zF (m1.ok.short hl) this,fun s hs=>by have:=(m1.ok.own b l hl s hs).1;omega,hb,m1.ok.nodup b l hl⟩
theorem zfl(h:yM w D p Ls){b:Nat}{l:List Nat}(hl:Ls[b]? = some l) :
    Calls prog 288 #[lkP p,.int .i64 b] w fun e w' => ∃ a c,e=.returned (.tuple #[.slice a l.length c,.int .i64 0])∧yu w' a c l∧xq w (.slice a l.length c)∧zb w w':=by
  obtain⟨hll,_,hb,_⟩:=h.small hl;have HCk:=za (Vz h (s:=0) (by omega) (b:=(b:Int)) (by omega) (by omega));obtain⟨q,many,N,Dl,h1,h2,h3,h4⟩:=h;have HA:=za (zfJ h2 hl hll);have HC:=za (fun(W:World) B a c (hi:kY W B a c l)=>zjY hi hll);obtain⟨n,hn⟩:=zf l.length;unfold V1 at HC;unfold Qe at HA;rw[hn]at HC;obtain⟨c0,_,_,_⟩:=j8 h1;have HN:=za hn;clear h1 h2 h3 h4 hl hn hll;have b0:(0:Int)≤(b:Int):=by omega
  go_enter func288,ntmps288
  go_wp2_with (first
    | (go_at_call 286;refine HCk.out.mono ?_;rintro e w' ⟨rfl,rfl⟩)
    | (go_at_call 217;refine HA.out.mono ?_;rintro e w1 ⟨B,a,c,rfl,hi,hp1⟩;have HI1:=za hi;have HP1:=za hp1;clear hi hp1)
    | (go_at_call 305;refine(HC.out _ _ _ _ HI1.out).mono ?_;rintro e w2 ⟨a2,c2,rfl,q1,q2,q3⟩))
  go_ret2;exact⟨a2,c2,by rw[HN.out];rfl,q1,fun g hg=>by rw[HN.out]at hg;have:=q2 g hg;have:=HP1.out.size;omega,HP1.out.trans q3⟩
def Up(f:Nat→Bool):Value:=match uE f 256 with
 | some b => .tuple #[.int .i64 (b:Nat),.int .i64 0]
 | none => .tuple #[.int .i64 0,.int .i64 9]
theorem Azm0c {P:Prop}(h:P:=by
 clear HNx;go_enter func252,ntmps252
 go_wp2_with (first
   | (go_at_call 286;refine HCk.out.mono ?_;rintro e w' ⟨rfl,rfl⟩)
   | (go_at_call 287;refine HNx2.out.mono ?_;rintro e w' ⟨rfl,rfl⟩))
 go_ret2;exact⟨rfl,rfl⟩):P:=h
theorem zh1(h:yM w D p Ls)(hT:xb w):Calls prog 252 #[lkP p,.int .i64 0] w fun e w'=>e=.returned (Up (neB Ls))∧w=w':=by
  have HCk:=za (Vz h (s:=0) (by omega) (b:=0) (by omega) (by omega));obtain⟨q,many,N,Dl,h1,h2,h3,h4⟩:=h;have HNx:=za (zlh h1 hT);clear h1 h2 h3 h4 hT;unfold Uj at HNx;unfold Up
  cases hf:uE (neB Ls) 256 with
  | none =>
    rw[hf]at HNx;clear hf;have HNx2:Hid (Calls prog 287 #[mkP p,.int .i64 0] w fun e w'=>e=.returned (.tuple #[.int .i64 0,.bool false])∧w=w'):=HNx;exact Azm0c
  | some b =>
    rw[hf]at HNx;clear hf;have HNx2:Hid (Calls prog 287 #[mkP p,.int .i64 0] w fun e w'=>e=.returned (.tuple #[.int .i64 (b:Nat),.bool true])∧w=w'):=HNx;exact Azm0c
theorem zei(h:yM w D p Ls){b:Nat}{l:List Nat}(hl:Ls[b]? = some l) :
  Calls prog 253 #[lkP p,.int .i64 b] w fun e w' => ∃ a c,e=.returned (.tuple #[.slice a l.length c,.int .i64 0])∧yu w' a c l∧xq w (.slice a l.length c)∧yM w' D p (Ls.set b [])∧Mod D w w':=by
 obtain⟨hll,hsm,hb,_⟩:=h.small hl;have hbl:b<Ls.length:=by rw[h.len];exact hb
 have HLi:=za (zfl h hl);have HW:=za h;have HSM:=za hsm;have HL:=za hl;have HBL:=za hbl;obtain⟨n,hn⟩:=zf l.length;rw[hn]at HLi hll;have HN:=za hn;clear h hl hsm hn hbl;have b0:(0:Int)≤(b:Int):=by omega
 have wn:IntKind.i64.wrap (n:Int)=n:=zt _ (by omega);go_enter func253,ntmps253;go_upto_region 3 with(go_at_call 288;refine HLi.out.mono ?_;rintro e w1 ⟨a,c,rfl,hr,hf,hp⟩)
 have HW1:=za (HW.out.pure hp);have HND:Hid (∀ g,(Value.slice a n c).ownBlock=some g → ¬ D g):=za (fun g hg e=>by have:=hf g hg;have:=HW.out.lt e;omega);have HFr:=za hf;have HR:=za hr;have HP:=za hp;clear hr hf hp;go_loopw [18] (fun v wr => ∃ j,v=.int .i64 (j:Nat)∧j≤n∧yM wr D p (Ls.set b (l.drop j))∧yu wr a c l∧Mod D w wr) (fun v _=>n-(intOf v).toNat)
 case atStart =>
  refine⟨0,rfl,yq _,?_,HR.out,Mod.of_pure HP.out⟩;rw[List.drop_zero,set_self HL.out];exact HW1.out
 case round =>
  obtain⟨j,rfl,hj,hw,hr,hm⟩:=hrel;have HWr:=za hw;have HRr:=za hr;have HMr:=za hm;by_cases hlt:j<n
  ·have hlt':(j:Int)<(n:Int):=by omega
   have j0:(0:Int)≤(j:Int):=by omega
   have wj:IntKind.i64.wrap ((j:Int)+1)=(j:Int)+1:=zt _ (by omega);obtain⟨y,hy⟩ : ∃ y,l[j]? = some y:=⟨_,zO (by rw[HN.out];exact hlt)⟩;have hdr:l.drop j=y::l.drop (j+1):=by
    have hjl:j<l.length:=by rw[HN.out];exact hlt
    rw[jK hjl];rw[zO hjl]at hy;injection hy with hy
    rw[hy]
   obtain⟨ad,had,z0⟩:=Ue (Zm hr) hy;have hRe:=zcT hw (s:=y) (b:=b) (l:=l.drop j) (HSM.out y (ym hy)) (yt HBL.out) (by rw[hdr];exact yD);rw[List.set_set,hdr,List.erase_cons_head]at hRe;have HRe:=za hRe;subst had;clear hy hw hr hm hdr hRe
   go_wp2_with (go_at_call 231;refine HRe.out.mono ?_;rintro e w5 ⟨rfl,q1,q2⟩)
   go_roundw
   case rel=>exact⟨j+1,by go_num,hlt,q1,zz HRr.out q2 (by rw[HN.out];exact HND.out),HMr.out.trans q2⟩
   case measure=>simp[intOf];omega
  ·have e:n=j:=by omega
   subst e;have HWe:Hid (yM wr D p (Ls.set b [])):=za (by have:=hw;rw[Zp (by rw[HN.out];exact zN _)]at this;exact this);clear hw hr hm hj hlt;go_wp2;go_ret2;exact⟨a,c,by rw[HN.out];rfl,HRr.out,by rw[HN.out];exact HFr.out,HWe.out,HMr.out⟩
end
@[go_sem] theorem zmh (w : World) (r : Option Nat) : (binOp .eql 186 (.map r) (.map none)).run prog w=.ok (.bool r.isNone) w := run_eql_map_nil w _ _ _ r underlying186
def Ym(now:Nat)(ws:List Nat)(bm bb:Nat):List Value := .int .u64 now::(ws.map lkP++[.map (some bm),.map (some bb)])
structure kG(w:World)(p now:Nat)(ws:List Nat)(bm bb:Nat):Prop where
 box:w.heap[p]? = some (.cells (Ym now ws bm bb).toArray 267 (0,0))
 len:ws.length=8
 now:now<18446744073709551616
section
variable{w w':World}{p now bm bb:Nat}{ws:List Nat}
theorem kG.mod{S:Nat→Prop}(h:kG w p now ws bm bb)(hm:Mod S w w')(hp : ¬ S p):kG w' p now ws bm bb:=⟨hm.heap hp h.box,h.len,h.now⟩
theorem kG.cells(h:kG w p now ws bm bb):w.cell? ⟨p,0,none⟩=some (.int .u64 now)∧w.cell? ⟨p,9,none⟩=some (.map (some bm))∧w.cell? ⟨p,10,none⟩=some (.map (some bb))∧(∀ i,w.frozen? ⟨p,i,none⟩=false)∧p<w.heap.size:=by
 have g:=fun j=>zi w p j _ _ (0,0) h.box
 have hl:=h.len;refine⟨by rw[g,vK];rfl,?_,?_,fun i=>yS w p i _ _ h.box,zm h.box⟩
 ·rw[g,vK];unfold Ym;rw[XB,jn (by simp;omega)];simp[hl]
 ·rw[g,vK];unfold Ym;rw[XB,jn (by simp;omega)];simp[hl]
theorem kG.level(h:kG w p now ws bm bb){l q:Nat}(hq:ws[l]? = some q):w.cell? ⟨p,1+l,none⟩=some (lkP q):=by
 rw[zi w p (1+l) _ _ (0,0) h.box,vK];unfold Ym;rw[show 1+l=l+1 by omega,XB,uw (by have:=(zE.1 hq).1;simpa using this),yz,hq]
 rfl
theorem Ys(h:kG w p now ws bm bb){s:Nat}(hs:s<4194304):Calls prog 161 #[lkP p,.int .u32 s] w fun e w'=>e=.returned (.int .i64 0)∧w=w':=by
 obtain⟨c0,c9,c10,_,_⟩:=h.cells;clear h;have d1:decide ((4194304:Int)≤(s:Int))=false:=zU (by omega);have d1n:decide (4194304≤s)=false:=zU (by omega);go_enter func161,ntmps161;go_wp2;go_ret;exact⟨rfl,rfl⟩
theorem zkQ(h:kG w p now ws bm bb){s:Nat}(hs:4194304≤s)(h32:s≤4294967295):Calls prog 161 #[lkP p,.int .u32 s] w fun e w'=>e=.returned (.int .i64 2)∧w=w':=by
 obtain⟨c0,c9,c10,_,_⟩:=h.cells;clear h;have d1:decide ((4194304:Int)≤(s:Int))=true:=zQ (by omega);have d1n:decide (4194304≤s)=true:=zQ hs;go_enter func161,ntmps161;go_wp2;go_ret;exact⟨rfl,rfl⟩
def Zh(s:Nat):Int:=if s<4194304 then 0 else 2
theorem U4(h:kG w p now ws bm bb){s:Nat}(h32:s≤4294967295):Calls prog 161 #[lkP p,.int .u32 s] w fun e w'=>e=.returned (.int .i64 (Zh s))∧w=w':=by
 unfold Zh;by_cases hs:s<4194304
 ·rw[zj hs];exact Ys h hs
 ·rw[zh hs];exact zkQ h (by omega) h32
theorem Kx(h:kG w p now ws bm bb){dl:Nat}(hd:dl<18446744073709551616)(hne:dl≠now) :
  Calls prog 205 #[lkP p,.int .u64 dl] w fun e w'=>e=.returned (.tuple #[.int .i64 (lvl now dl:Nat),.int .i64 (bkt now dl:Nat)])∧zb w w':=by
 obtain⟨c0,_,_,_,_⟩:=h.cells;have hn:=h.now;obtain⟨b1,b2,b3⟩:=zhr hn hd hne;have hx:dl ^^^ now<18446744073709551616:=qS (n:=64) hd hn;have HLn:=za (ziT _ hx w);have hxor:=Yn dl now hd hn;have hl8:=(uV hn hd).1;have hbk:bkt now dl=dl/256 ^ lvl now dl%256:=rfl;have HBK:=za hbk;clear h hbk hx;generalize yR (dl ^^^ now)=bl at *;generalize dl ^^^ now=x at *;obtain⟨lv,hlv⟩:=zf (lvl now dl);obtain⟨bk,hbk2⟩:=zf (bkt now dl);rw[hlv]at b3 hl8 HBK;rw[hbk2]at HBK;have w1:IntKind.i64.wrap ((bl:Int)-1)=(bl:Int)-1:=zt _ (by omega);have e8:((bl:Int)-1)/8=(lv:Int):=by omega
 have w2:wrap64 (((bl:Int)-1)/8)=(lv:Int):=by rw[e8];exact jT _ (by omega)
 have b0:(0:Int)≤(bl:Int)-1:=by omega
 have HLV:=za hlv;have HB2:=za hbk2;clear hlv hbk2 hne;go_enter func205,ntmps205;go_upto_region 2 with(go_at_call 251;refine HLn.out.mono ?_;rintro e w' ⟨rfl,rfl⟩)
 have w3:IntKind.i64.wrap (8*(lv:Int))=8*(lv:Int):=zt _ (by omega);have l0:(0:Int)≤(lv:Int):=by omega
 have l1:(lv:Int)<8:=by omega
 have hand:bits .and .u64 ((dl:Int)/(2:Int) ^ (8*lv)) 255=(bk:Int):=by
  have hq:dl/2 ^ (8*lv)<18446744073709551616:=jm (Y2 _ _) hd;have:=XI (dl/2 ^ (8*lv)) 255 hq (by decide);rw[show(255:Nat)=2 ^ 8-1 from rfl,UG]at this;rw[HBK.out,show(256:Nat) ^ lv=2 ^ (8*lv) by rw[Nat.pow_mul],← this];simp
 have hbk8:bk<256:=by rw[HBK.out];exact vi _ (by decide)
 have wb:wrap64 (bk:Int)=(bk:Int):=jT _ (by omega);have hend:Ending.returned (.tuple #[.int .i64 (((bl:Int)-1)/8),.int .i64 (bk:Int)])=.returned (.tuple #[.int .i64 (lvl now dl:Nat),.int .i64 (bkt now dl:Nat)]):=by rw[e8,HLV.out,HB2.out]
 have HEnd:=za hend;clear hend wb HBK hxor
 go_region
 go_wp2;go_ret2;exact⟨HEnd.out,(Mod.refl _ _).drew⟩
end
structure yr(w:World)(D:Nat→Prop)(p now:Nat)(ws:List Nat)(bm bb:Nat)(Ds:Nat→Nat→Prop)(Dm Db:DataW Unit)(M:List Td)(Lss:List (List (List Nat))):Prop where
 box:kG w p now ws bm bb
 what:yJ w bm M Dm
 births:xG w bb M Db
 len:Lss.length=8
 lev : ∀(l q:Nat) (Ls:List (List Nat)),ws[l]? = some q→Lss[l]? = some Ls→yM w (Ds l) q Ls
 apart : ∀ l l' k,l<8→l'<8→l≠l'→Ds l k → ¬ Ds l' k
 own : ∀ l k,l<8→Ds l k→k≠p∧k≠bm∧k≠bb
 ne:bm≠bb∧bm≠p∧bb≠p
 dd : ∀ k,D k↔(k=p∨k=bm∨k=bb ∨ ∃ l,l<8∧Ds l k)
section
variable{w w':World}{D:Nat→Prop}{p now:Nat}{ws:List Nat}{bm bb:Nat}{Ds:Nat→Nat→Prop}{Dm Db:DataW Unit}{M:List Td}{Lss:List (List (List Nat))}
theorem yr.frame{S:Nat→Prop}(h:yr w D p now ws bm bb Ds Dm Db M Lss)(hm:Mod S w w')(hd : ∀ k,D k → ¬ S k):yr w' D p now ws bm bb Ds Dm Db M Lss :=
 ⟨h.box.mod hm (hd p ((h.dd p).2 (.inl rfl))),h.what.mod hm (hd bm ((h.dd bm).2 (.inr (.inl rfl)))),h.births.mod hm (hd bb ((h.dd bb).2 (.inr (.inr (.inl rfl))))),h.len,
  fun l q Ls hq hl=>(h.lev l q Ls hq hl).frame hm (fun k hk=>hd k ((h.dd k).2 (.inr (.inr (.inr ⟨l,by have:=(zE.1 hl).1;rw[h.len]at this;exact this,hk⟩))))),h.apart,h.own,h.ne,h.dd⟩
theorem yr.pure(h:yr w D p now ws bm bb Ds Dm Db M Lss)(hm:zb w w'):yr w' D p now ws bm bb Ds Dm Db M Lss:=h.frame hm (fun _ _ h=>h)
theorem yr.lt(h:yr w D p now ws bm bb Ds Dm Db M Lss){k:Nat}(hk:D k):k<w.heap.size:=by
 rcases(h.dd k).1 hk with rfl | rfl | rfl | ⟨l,hl,hk⟩
 ·exact zm h.box.box
 ·exact h.what.own.lt
 ·exact h.births.own.lt
 ·obtain⟨q,hq⟩ : ∃ q,ws[l]? = some q:=⟨_,zO (by rw[h.box.len];exact hl)⟩;obtain⟨Ls,hL⟩ : ∃ Ls,Lss[l]? = some Ls:=⟨_,zO (by rw[h.len];exact hl)⟩;exact(h.lev l q Ls hq hL).lt hk
theorem zbg(h:yr w D p now ws bm bb Ds Dm Db M Lss){x:Td}{M':List Td}(hx:x∈M)(hs:x.slot≤4294967295)(hb:x.birth≤18446744073709551615)(hM : ∀ y,y∈M'↔y∈M∧y.slot≠x.slot)(hM2 : ∀ y,y∈M'↔y∈M∧y.birth≠x.birth)(hl:M'.length+1=M.length) :
  Calls prog 208 #[lkP p,tdV x] w fun e w'=>e=.returned (.tuple #[])∧(∃ Dm' Db',yr w' D p now ws bm bb Ds Dm' Db' M' Lss)∧Mod (fun k=>k=bm∨k=bb) w w':=by
 have hal:zb w (w.alloc (.cells #[.int .u32 x.slot,.int .u64 x.dl,.int .u64 x.birth] 198)):=(Mod.refl _ w).alloc _;have h3:=zk (w:=w) (o := .cells #[.int .u32 x.slot,.int .u64 x.dl,.int .u64 x.birth] 198 (0,0)) rfl;have HC:=za (h.pure hal);have n1:bm≠w.heap.size:=fun e=>by have:=h.what.own.lt;omega
 have n2:bb≠w.heap.size:=fun e=>by have:=h.births.own.lt;omega
 have HX:=za hx;have HM:=za hM;have HM2:=za hM2;have HAL:=za hal;obtain⟨ne1,ne2,ne3⟩:=h.ne;clear h hx hM hM2 hal;unfold tdV;go_enter func208,ntmps208;go_upto_region 1 with fail
 generalize w.alloc (.cells #[.int .u32 x.slot,.int .u64 x.dl,.int .u64 x.birth] 198)=W1 at *;generalize w.heap.size=b3 at *;obtain⟨c0,c9,c10,_,_⟩:=HC.out.box.cells;have H3:=za h3;obtain⟨h3_0,h3_1,h3_2,h3_f,h3_l,H_h3⟩:=cr3 h3;clear h3
 go_still_tail 6,(by kernel_rfl)
 go_upto_region 2 with(at_delete;refine Yw _ rfl _ _ 186 89 rfl 198 x9 underlying186 kJ bm M.length Dm rfl HC.out.what.own.drew (.int .u32 x.slot) (kS x.slot) rfl (uq hs) ?_;intro w2 ho2 ht2;go_frame)
 have hm2:Mod (fun k=>k=bm) W1 w2:=Mod.of_drew (Mod.of_grown ht2.grown (fun k e _=>by cases e;rfl));have hbx2:=HC.out.box.mod hm2 (fun e=>ne2 e.symm);have hbi2:=HC.out.births.mod hm2 (fun e=>ne1 e.symm);have h32:=hm2.heap (fun e=>n1 e.symm) H3.out;have hT2:=HC.out.what.del HX.out HM.out hl ho2;have HM2':=za hm2;have HT2:=za hT2;have HBI2:=za hbi2;clear h3_0 h3_1 h3_2 h3_f h3_l;clear H_h3 c0 c9 c10 ho2 ht2 hm2 hbi2 hT2;obtain⟨c0,c9,c10,_,_⟩:=hbx2.cells;clear hbx2;obtain⟨h32_0,h32_1,h32_2,h32_f,h32_l,H_h32⟩:=cr3 h32;clear h32
 go_still_tail 6,(by kernel_rfl)
 go_wp2_with (at_delete;refine Yw _ rfl _ _ 263 27 rfl 329 kC underlying263 unitElem bb M.length Db rfl HBI2.out.own.drew (.int .u64 x.birth) (kB x.birth) rfl (qK hb) ?_;intro w3 ho3 ht3;go_frame)
 have hm3:Mod (fun k=>k=bb) w2 w3:=Mod.of_drew (Mod.of_grown ht3.grown (fun k e _=>by cases e;rfl));have hB3:=HBI2.out.del HX.out HM2.out hl ho3;have hmm:Mod (fun k=>k=bm∨k=bb) W1 w3:=(HM2'.out.mono (fun _ _ h=>Or.inl h)).trans (hm3.mono (fun _ _ h=>Or.inr h))
 go_end0
 refine⟨rfl,⟨_,_,HC.out.box.mod hmm (fun e=>by rcases e with e | e;exact ne2 e.symm;exact ne3 e.symm),HT2.out.mod hm3 (fun e=>ne1 e),hB3,HC.out.len,fun l q Ls hq hL=>(HC.out.lev l q Ls hq hL).frame hmm (fun k hk e => ?_),HC.out.apart,HC.out.own,HC.out.ne,HC.out.dd⟩,(HAL.out.mono (fun _ _ h=>h.elim)).trans hmm⟩;have hl8:l<8:=by have:=(zE.1 hL).1;rw[HC.out.len]at this;exact this
 obtain⟨_,o2,o3⟩:=HC.out.own l k hl8 hk;rcases e with e | e
 ·exact o2 e
 ·exact o3 e
end
section
variable{w w':World}{D:Nat→Prop}{p now:Nat}{ws:List Nat}{bm bb:Nat}{Ds:Nat→Nat→Prop}{Dm Db:DataW Unit}{M:List Td}{Lss:List (List (List Nat))}
def kV{α:Type}(f:Nat→α)(l:Nat)(v:α):Nat→α:=fun k=>if k=l then v else f k
theorem yr.level(h:yr w D p now ws bm bb Ds Dm Db M Lss){l q:Nat}{Ls':List (List Nat)}{D':Nat→Prop}(hl:l<8)(hq:ws[l]? = some q)(hw:yM w' D' q Ls')(hg:zZ (Ds l) D' w)(hm:Mod (Ds l) w w') :
  ∃ D2,yr w' D2 p now ws bm bb (kV Ds l D') Dm Db M (Lss.set l Ls')∧zZ D D2 w:=by
 have hlt : ∀ k,D k→k<w.heap.size:=fun k hk=>h.lt hk
 have inD : ∀ {l' k:Nat},l'<8→Ds l' k→D k:=fun hl' hk=>(h.dd _).2 (.inr (.inr (.inr ⟨_,hl',hk⟩)))
 have o:=fun k=>h.own l k hl
 refine⟨fun k=>k=p∨k=bm∨k=bb ∨ ∃ l',l'<8∧kV Ds l D' l' k,⟨h.box.mod hm (fun e=>(o p e).1 rfl),h.what.mod hm (fun e=>(o bm e).2.1 rfl),h.births.mod hm (fun e=>(o bb e).2.2 rfl),by rw[xC];exact h.len,fun l2 q2 Ls2 hq2 hl2 => ?_,fun l2 l3 k h2 h3 hne hk => ?_,fun l2 k h2 hk => ?_,h.ne,fun k=>xZ⟩,fun k hk => ?_⟩
 ·unfold kV;by_cases e:l2=l
  ·subst e;rw[zj rfl];rw[yt (by rw[h.len];exact hl)]at hl2
   cases hl2
   rw[hq]at hq2
   cases hq2
   exact hw
  ·rw[zh e];rw[yw (fun c=>e c.symm)]at hl2;have hl8:l2<8:=by have:=(zE.1 hl2).1;rw[h.len]at this;exact this
   exact(h.lev l2 q2 Ls2 hq2 hl2).frame hm (fun k hk hk2=>h.apart l2 l k hl8 hl e hk hk2)
 ·unfold kV at hk ⊢;by_cases e:l2=l
  ·rw[zj e]at hk;have e3:l3≠l:=fun c=>hne (by rw[e,c])
   rw[zh e3];intro hk3;rcases hg k hk with c | c
   ·exact h.apart l l3 k hl h3 (fun c=>e3 c.symm) c hk3
   ·have:=hlt k (inD h3 hk3);omega
  ·rw[zh e]at hk;by_cases e3:l3=l
   ·rw[zj e3];intro hk3;rcases hg k hk3 with c | c
    ·exact h.apart l2 l k h2 hl e hk c
    ·have:=hlt k (inD h2 hk);omega
   ·rw[zh e3];exact h.apart l2 l3 k h2 h3 hne hk
 ·unfold kV at hk;by_cases e:l2=l
  ·rw[zj e]at hk;rcases hg k hk with c | c
   ·exact o k c
   ·have a1:=hlt p ((h.dd p).2 (.inl rfl));have a2:=hlt bm ((h.dd bm).2 (.inr (.inl rfl)));have a3:=hlt bb ((h.dd bb).2 (.inr (.inr (.inl rfl))));omega
  ·rw[zh e]at hk;exact h.own l2 k h2 hk
 ·rcases hk with e | e | e | ⟨l2,h2,hk⟩
  ·exact .inl ((h.dd k).2 (.inl e))
  ·exact .inl ((h.dd k).2 (.inr (.inl e)))
  ·exact .inl ((h.dd k).2 (.inr (.inr (.inl e))))
  ·unfold kV at hk;by_cases e:l2=l
   ·rw[zj e]at hk;rcases hg k hk with c | c
    ·exact .inl (inD hl c)
    ·exact .inr c
   ·rw[zh e]at hk;exact .inl (inD h2 hk)
end
section
variable{w w':World}{D:Nat→Prop}{p now:Nat}{ws:List Nat}{bm bb:Nat}{Ds:Nat→Nat→Prop}{Dm Db:DataW Unit}{M:List Td}{Lss:List (List (List Nat))}
def UO(M:List Td)(x:Td)(M':List Td):Prop:=(∀ y∈M,y.slot≠x.slot)∧(∀ y∈M,y.birth≠x.birth)∧M'=x::M∨x∈M∧(∀ y∈M,y.slot=x.slot→y=x)∧M'=M
theorem yJ.putC{b:Nat}{x:Td}{M':List Td}(h:yJ w b M Dm)(hc:UO M x M')(ho:w'.ownsMap prog 89 kJ b (M.length+1) (Dm.put (kS x.slot) (tdD x))):yJ w' b M' (Dm.put (kS x.slot) (tdD x)):=by
 rcases hc with⟨h1,_,rfl⟩ | ⟨h1,h2,rfl⟩
 ·exact h.put h1 ho
 ·exact h.again h1 h2 ho
theorem xG.putC{b:Nat}{x:Td}{M':List Td}(h:xG w b M Db)(hc:UO M x M')(ho:w'.ownsMap prog 27 unitElem b (M.length+1) (Db.put (kB x.birth) (.agg []))):xG w' b M' (Db.put (kB x.birth) (.agg [])):=by
 rcases hc with⟨_,h1,rfl⟩ | ⟨h1,h2,rfl⟩
 ·exact h.put h1 ho
 ·exact h.again h1 ho
theorem Azur6 {P:Prop}(h:P:=by
 rcases hk with rfl | rfl
 ·exact(HC0.out.dd k).2 (.inr (.inl rfl))
 ·exact(HC0.out.dd k).2 (.inr (.inr (.inl rfl)))):P:=h
theorem zap(h:yr w D p now ws bm bb Ds Dm Db M Lss){x:Td}{M':List Td}(hs:x.slot<4194304)(hd:x.dl<18446744073709551616)(hb:x.birth≤18446744073709551615)(hne:x.dl≠now)(hMl:M.length<maxLen){Ls:List (List Nat)}{L:List Nat}
  (hL:Lss[lvl now x.dl]? = some Ls) (hK:Ls[bkt now x.dl]? = some L) (hf : ¬ inL Ls x.slot) (hc:UO M x M') :
  Calls prog 207 #[lkP p,tdV x] w fun e w'=>e=.returned (.tuple #[])∧(∃ D' Ds' Dm' Db',yr w' D' p now ws bm bb Ds' Dm' Db' M' (Lss.set (lvl now x.dl) (Ls.set (bkt now x.dl) (L++[x.slot])))∧zZ D D' w)∧Mod D w w':=by
 have hal:zb w (w.alloc (.cells #[.int .u32 x.slot,.int .u64 x.dl,.int .u64 x.birth] 198)):=(Mod.refl _ w).alloc _;have h3:=zk (w:=w) (o := .cells #[.int .u32 x.slot,.int .u64 x.dl,.int .u64 x.birth] 198 (0,0)) rfl;have hl8:lvl now x.dl<8:=(uV h.box.now hd).1;have hbk:bkt now x.dl<256:=YA;obtain⟨q,hq⟩ : ∃ q,ws[lvl now x.dl]? = some q:=⟨_,zO (by rw[h.box.len];exact hl8)⟩;have HPl:=za (Kx (h.pure hal).box hd hne);obtain⟨lv,hlv⟩:=zf (lvl now x.dl);obtain⟨bk,hbk2⟩:=zf (bkt now x.dl);rw[hlv]at hl8 hq hL HPl ⊢;rw[hbk2]at hbk hK HPl ⊢;have nD : ∀ k,D k→k≠w.heap.size:=fun k hk e=>by have:=h.lt hk;omega
 have HC0:=za h;have HC:=za (h.pure hal);have HND:=za nD;have HAL:=za hal;have HL:=za hL;have HK:=za hK;have HF:=za hf;have HCa:=za hc;have HQ:=za hq;clear h hal nD hL hK hf hc hq hlv hbk2 hne;obtain⟨ne1,ne2,ne3⟩:=HC0.out.ne;unfold tdV;go_enter func207,ntmps207;go_upto_region 1 with fail
 generalize w.alloc (.cells #[.int .u32 x.slot,.int .u64 x.dl,.int .u64 x.birth] 198)=W1 at *;obtain⟨b3,hb3⟩:=zf w.heap.size;rw[hb3]at h3 HND ⊢;have HB3:=za hb3;have H3:=za h3;clear hb3;obtain⟨h3_0,h3_1,h3_2,h3_f,h3_l,H_h3⟩:=cr3 h3;clear h3;go_upto_region 2 with(go_at_call 205;refine HPl.out.mono ?_;rintro e w2 ⟨rfl,hp2⟩)
 have h32:=hp2.heap (fun h=>h) H3.out;have HC2:=za (HC.out.pure hp2);have hcl:=HC2.out.box.level HQ.out;obtain⟨c0,c9,c10,_,_⟩:=HC2.out.box.cells;have H32:=za h32;have HP2:=za hp2;clear h3_0 h3_1 h3_2 h3_f h3_l;clear H_h3 HC hp2 HPl;obtain⟨h32_0,h32_1,h32_2,h32_f,h32_l,H_h32⟩:=cr3 h32;clear h32;have dl8:decide (lv<8)=true:=zQ hl8;have l0:(0:Int)≤(lv:Int):=by omega
 have l1:(lv:Int)<8:=by omega
 have HPu:=za (zgC ((HC2.out.lev lv q Ls HQ.out HL.out).pure ((Mod.refl _ w2).drew:zb w2 w2.drew)) hs HK.out HF.out)
 go_still_tail 9,(by kernel_rfl)
 go_upto_region 3 with(go_at_call 254;refine HPu.out.mono ?_;rintro e w3 ⟨rfl,⟨D3,hw3,hg3⟩,hm3⟩)
 have hm3':Mod (Ds lv) w2 w3:=Mod.of_drew hm3;have inD : ∀ k,Ds lv k→D k:=fun k hk=>(HC0.out.dd k).2 (.inr (.inr (.inr ⟨lv,hl8,hk⟩)))
 have hg3':zZ (Ds lv) D3 w2:=hg3;obtain⟨D4,hC3,hg4⟩:=HC2.out.level hl8 HQ.out hw3 hg3' hm3';have h33:=hm3'.heap (fun e=>HND.out b3 (inD b3 e) rfl) H32.out;have HC3:=za hC3;have HG4:=za hg4;have HM3:=za (hm3'.mono (fun k _ hk=>inD k hk):Mod D w2 w3);have H33:=za h33;clear h32_0 h32_1 h32_2 h32_f h32_l;clear H_h32 hw3 hg3 hm3 hm3' inD hg3' hC3 hg4 HPu c0 c9 c10 hcl dl8;obtain⟨c0,c9,c10,_,_⟩:=HC3.out.box.cells;have nb1:bm≠b3:=fun e=>HND.out bm ((HC0.out.dd bm).2 (.inr (.inl rfl))) e
 have nb2:bb≠b3:=fun e=>HND.out bb ((HC0.out.dd bb).2 (.inr (.inr (.inl rfl)))) e
 obtain⟨h33_0,h33_1,h33_2,h33_f,h33_l,H_h33⟩:=cr3 h33;clear h33
 go_still_tail 7,(by kernel_rfl)
 go_upto_region 4 with(at_mapUpdate;refine XS _ rfl _ _ _ 186 rfl 89 198 x9 underlying186 kJ bm M.length Dm rfl HC3.out.what.own.drew hMl (.int .u32 x.slot) (tdV x) (kS x.slot) rfl rfl (uq (by omega)) (tdD x) [] (YD x) ?_;intro w4 ho4 hg4;go_frame)
 have hm4:Mod (fun k=>k=bm) w3 w4:=Mod.of_drew (Mod.of_grown hg4 (fun k e _=>by cases e;rfl));have hbx4:=HC3.out.box.mod hm4 (fun e=>ne2 e.symm);have hT4:=HC3.out.what.putC HCa.out ho4;have hB4:=HC3.out.births.mod hm4 (fun e=>ne1 e.symm);have h34:=hm4.heap (fun e=>nb1 e.symm) H33.out;have HM4:=za hm4;have HT4:=za hT4;have HB4:=za hB4;clear h33_0 h33_1 h33_2 h33_f h33_l;clear H_h33 hm4 hT4 hB4 ho4 hg4 c0 c9 c10;obtain⟨c0,c9,c10,_,_⟩:=hbx4.cells;clear hbx4;obtain⟨h34_0,h34_1,h34_2,h34_f,h34_l,H_h34⟩:=cr3 h34;clear h34
 go_still_tail 7,(by kernel_rfl)
 go_wp2_with (at_mapUpdate;refine XS _ rfl _ _ _ 263 rfl 27 329 kC underlying263 unitElem bb M.length Db rfl HB4.out.own.drew hMl (.int .u64 x.birth) (.agg #[]) (kB x.birth) rfl rfl (qK hb) (.agg []) [] unitElem_mk ?_;intro w5 ho5 hg5;go_frame)
 have hm5:Mod (fun k=>k=bb) w4 w5:=Mod.of_drew (Mod.of_grown hg5 (fun k e _=>by cases e;rfl));have hB5:=HB4.out.putC HCa.out ho5;have hmm:Mod (fun k=>k=bm∨k=bb) w3 w5:=(HM4.out.mono (fun _ _ h=>Or.inl h)).trans (hm5.mono (fun _ _ h=>Or.inr h));have hsz:w.heap.size≤w2.heap.size:=(HAL.out.trans HP2.out).size
 go_end0
 refine⟨rfl,⟨D4,_,_,_,⟨HC3.out.box.mod hmm (fun e=>by rcases e with e | e;exact ne2 e.symm;exact ne3 e.symm),HT4.out.mod hm5 (fun e=>ne1 e),hB5,HC3.out.len,fun l q Ls hq hL=>(HC3.out.lev l q Ls hq hL).frame hmm (fun k hk e => ?_),HC3.out.apart,HC3.out.own,HC3.out.ne,HC3.out.dd⟩,fun k hk => ?_⟩,?_⟩
 ·have hl9:l<8:=by have:=(zE.1 hL).1;rw[HC3.out.len]at this;exact this
  obtain⟨_,o2,o3⟩:=HC3.out.own l k hl9 hk;rcases e with e | e
  ·exact o2 e
  ·exact o3 e
 ·rcases HG4.out k hk with e | e
  ·exact .inl e
  ·exact .inr (zF hsz e)
 ·refine((HAL.out.trans HP2.out).mono (fun _ _ h=>h.elim):Mod D w w2).trans (HM3.out.trans (hmm.mono (fun k _ hk => ?_)));exact Azur6
end
section
variable{w w':World}{D:Nat→Prop}{p now:Nat}{ws:List Nat}{bm bb:Nat}{Ds:Nat→Nat→Prop}{Dm Db:DataW Unit}{M:List Td}{Lss:List (List (List Nat))}
abbrev zTd:Td:=⟨0,0,0⟩
def getTd(M:List Td)(s:Nat):Td × Int:=if s<4194304 then(match M.find? (fun x=>x.slot==s)with | some x=>(x,0) | none=>(zTd,9))else(zTd,2)
theorem UR{s:Nat}{x:Td}(hs:s<4194304)(hx:M.find? (fun x=>x.slot==s)=some x):getTd M s=(x,0):=by unfold getTd;rw[zj hs,hx]
theorem Xy{s:Nat}(hs:s<4194304)(hx:M.find? (fun x=>x.slot==s)=none):getTd M s=(zTd,9):=by unfold getTd;rw[zj hs,hx]
theorem Qc{s:Nat}(hs : ¬ s<4194304):getTd M s=(zTd,2):=by unfold getTd;rw[zh hs]
theorem KD(h:yr w D p now ws bm bb Ds Dm Db M Lss){s:Nat}(h32:s≤4294967295) :
  Calls prog 230 #[lkP p,.int .u32 s] w fun e w'=>e=.returned (.tuple #[tdV (getTd M s).1,.int .i64 (getTd M s).2])∧zb w w':=by
 have hal:zb w (w.alloc (.cells #[.int .u32 0,.int .u64 0,.int .u64 0] 198)):=(Mod.refl _ w).alloc _;have h4:=zk (w:=w) (o := .cells #[.int .u32 0,.int .u64 0,.int .u64 0] 198 (0,0)) rfl;have HC:=za (h.pure hal);have HCk:=za (U4 (h.pure hal).box h32);obtain⟨c0,c9,c10,_,_⟩:=(h.pure hal).box.cells;have HAL:=za hal;clear hal;by_cases hs:s<4194304
 ·have hse:Zh s=0:=by unfold Zh;rw[zj hs]
  rw[hse]at HCk
  cases hf:M.find? (fun x=>x.slot==s)with
  | some x =>
   have hxM:=ZU hf;have hxs:x.slot=s:=by have:=Vk hf;simpa using this
   subst hxs;have hlk:=HC.out.what.look hxM (by omega);rw[UR hs hf];unfold tdV at hlk ⊢;clear h hf hxM hse;go_enter func230,ntmps230;go_upto_region 1 with fail
   generalize w.alloc (.cells #[.int .u32 0,.int .u64 0,.int .u64 0] 198)=W1 at *;obtain⟨b4,hb4⟩:=zf w.heap.size;rw[hb4]at h4 ⊢;have hb4':w.heap.size≤b4:=by omega
   clear hb4;obtain⟨h4_0,h4_1,h4_2,h4_f,h4_l,H_h4⟩:=cr3 h4;clear h4
   go_wp2_with (go_at_call 161;refine HCk.out.mono ?_;rintro e w' ⟨rfl,rfl⟩)
   have hpp:=HAL.out;refine zR (v := .tuple #[.agg #[.int .u32 x.slot,.int .u64 x.dl,.int .u64 x.birth],.int .i64 0]) (by simp[results,results230,go_sem,h4_0,h4_1,h4_2,h4_l]) rfl ⟨rfl,?_⟩;exact y9
  | none =>
   have hnx : ∀ x∈M,x.slot≠s:=fun x hx e=>by have:=qj.1 hf x hx;simp[e]at this
   have hlk:=HC.out.what.look_no (s:=s) (by omega) hnx;rw[Xy hs hf];unfold tdV at hlk ⊢;clear h hf hnx hse;go_enter func230,ntmps230;go_upto_region 1 with fail
   generalize w.alloc (.cells #[.int .u32 0,.int .u64 0,.int .u64 0] 198)=W1 at *;obtain⟨b4,hb4⟩:=zf w.heap.size;rw[hb4]at h4 ⊢;have hb4':w.heap.size≤b4:=by omega
   clear hb4;obtain⟨h4_0,h4_1,h4_2,h4_f,h4_l,H_h4⟩:=cr3 h4;clear h4
   go_wp2_with (go_at_call 161;refine HCk.out.mono ?_;rintro e w' ⟨rfl,rfl⟩)
   have hpp:=HAL.out;refine zR (v := .tuple #[.agg #[.int .u32 0,.int .u64 0,.int .u64 0],.int .i64 9]) (by simp[results,results230,go_sem,h4_0,h4_1,h4_2,h4_l]) rfl ⟨rfl,?_⟩;exact y9
 ·have hse:Zh s=2:=by unfold Zh;rw[zh hs]
  rw[hse]at HCk;rw[Qc hs];unfold tdV;clear h hse;go_enter func230,ntmps230;go_upto_region 1 with fail
  generalize w.alloc (.cells #[.int .u32 0,.int .u64 0,.int .u64 0] 198)=W1 at *;obtain⟨b4,hb4⟩:=zf w.heap.size;rw[hb4]at h4 ⊢;have hb4':w.heap.size≤b4:=by omega
  clear hb4;obtain⟨h4_0,h4_1,h4_2,h4_f,h4_l,H_h4⟩:=cr3 h4;clear h4
  go_wp2_with (go_at_call 161;refine HCk.out.mono ?_;rintro e w' ⟨rfl,rfl⟩)
  have hpp:=HAL.out;refine zR (v := .tuple #[.agg #[.int .u32 0,.int .u64 0,.int .u64 0],.int .i64 2]) (by simp[results,results230,go_sem,h4_0,h4_1,h4_2,h4_l]) rfl ⟨rfl,?_⟩;exact y9
end
section
variable{w w':World}{D:Nat→Prop}{p now:Nat}{ws:List Nat}{bm bb:Nat}{Ds:Nat→Nat→Prop}{Dm Db:DataW Unit}{M:List Td}{Lss:List (List (List Nat))}
theorem zlv(h:yr w D p now ws bm bb Ds Dm Db M Lss){x:Td}{M':List Td}(hg:M.find? (fun y=>y.slot==x.slot)=some x)(hs:x.slot<4194304)(hd:x.dl<18446744073709551616)(hb:x.birth≤18446744073709551615)(hne:x.dl≠now){Ls:List (List Nat)}{L:List Nat}
  (hL:Lss[lvl now x.dl]? = some Ls) (hK:Ls[bkt now x.dl]? = some L) (hf:x.slot∈L) (hM : ∀ y,y∈M'↔y∈M∧y.slot≠x.slot) (hM2 : ∀ y,y∈M'↔y∈M∧y.birth≠x.birth) (hl:M'.length+1=M.length) :
  Calls prog 182 #[lkP p,.int .u32 x.slot] w fun e w'=>e=.returned (.tuple #[tdV x,.int .i64 0])∧(∃ D' Ds' Dm' Db',yr w' D' p now ws bm bb Ds' Dm' Db' M' (Lss.set (lvl now x.dl) (Ls.set (bkt now x.dl) (L.erase x.slot)))∧zZ D D' w)∧Mod D w w':=by
 have hal:zb w (w.alloc (.cells #[.int .u32 0,.int .u64 0,.int .u64 0] 198)):=(Mod.refl _ w).alloc _;have h4:=zk (w:=w) (o := .cells #[.int .u32 0,.int .u64 0,.int .u64 0] 198 (0,0)) rfl;have hl8:lvl now x.dl<8:=(uV h.box.now hd).1;obtain⟨q,hq⟩ : ∃ q,ws[lvl now x.dl]? = some q:=⟨_,zO (by rw[h.box.len];exact hl8)⟩;have hget:=KD (h.pure hal) (s:=x.slot) (by omega);rw[UR hs hg]at hget;have HGe:=za hget;have HPl:=za (fun(W:World) (hW:zb (w.alloc (.cells #[.int .u32 0,.int .u64 0,.int .u64 0] 198)) W)=>Kx ((h.pure hal).pure hW).box hd hne);obtain⟨lv,hlv⟩:=zf (lvl now x.dl);obtain⟨bk,hbk2⟩:=zf (bkt now x.dl);rw[hlv]at hl8 hq hL HPl ⊢;rw[hbk2]at hK HPl ⊢;have nD : ∀ k,D k→k<w.heap.size:=fun k hk=>h.lt hk
 have HC0:=za h;have HC:=za (h.pure hal);have HND:=za nD;have HAL:=za hal;have HXM:=za (ZU hg);have HL:=za hL;have HK:=za hK;have HF:=za hf;have HQ:=za hq;have HM:=za hM;have HM2:=za hM2;clear h hal nD hL hK hf hq hlv hbk2 hne hg hM hM2 hget;unfold tdV at HGe ⊢;dsimp only at HGe;go_enter func182,ntmps182;go_upto_region 1 with fail
 generalize w.alloc (.cells #[.int .u32 0,.int .u64 0,.int .u64 0] 198)=W1 at *;obtain⟨b4,hb4⟩:=zf w.heap.size;rw[hb4]at h4 HND ⊢;have HB4:=za hb4;have H4:=za h4;clear hb4 h4;go_upto_region 2 with(go_at_call 230;refine HGe.out.mono ?_;rintro e w2 ⟨rfl,hp2⟩)
 have hal2:zb w2 (w2.alloc (.cells #[.int .u32 x.slot,.int .u64 x.dl,.int .u64 x.birth] 198)):=(Mod.refl _ w2).alloc _;have h6:=zk (w:=w2) (o := .cells #[.int .u32 x.slot,.int .u64 x.dl,.int .u64 x.birth] 198 (0,0)) rfl;have hp3:=hp2.trans hal2;have hb46:b4<w2.heap.size:=hp2.lt (zm H4.out);have HP3:=za hp3;have HC3:=za (HC.out.pure hp3);have HPl3:=za (HPl.out _ hp3);clear hal2 hp2 hp3 HPl HGe;generalize w2.alloc (.cells #[.int .u32 x.slot,.int .u64 x.dl,.int .u64 x.birth] 198)=W3 at *;generalize w2.heap.size=b6 at *;have H6:=za h6;obtain⟨h6_0,h6_1,h6_2,h6_f,h6_l,H_h6⟩:=cr3 h6;clear h6;go_upto_region 4 with(go_at_call 205;refine HPl3.out.mono ?_;rintro e w4 ⟨rfl,hp4⟩)
 have h64:=hp4.heap (fun h=>h) H6.out;have HC4:=za (HC3.out.pure hp4);have hcl:=HC4.out.box.level HQ.out;have HP4:=za (HP3.out.trans hp4);clear h6_0 h6_1 h6_2 h6_f h6_l;clear H_h6 HPl3 hp4 HC3;have dl8:decide (lv<8)=true:=zQ hl8;have l0:(0:Int)≤(lv:Int):=by omega
 have l1:(lv:Int)<8:=by omega
 have HRe:=za (zcT (HC4.out.lev lv q Ls HQ.out HL.out) hs HK.out HF.out);obtain⟨c0,c9,c10,_,_⟩:=HC4.out.box.cells;have H64:=za h64;clear h64;go_upto_region 5 with(go_at_call 231;refine HRe.out.mono ?_;rintro e w5 ⟨rfl,hw5,hm5⟩)
 obtain⟨D4,hC5,hg5⟩:=HC4.out.level hl8 HQ.out hw5 (zZ.refl _ _) hm5;have inD : ∀ k,Ds lv k→D k:=fun k hk=>(HC0.out.dd k).2 (.inr (.inr (.inr ⟨lv,hl8,hk⟩)))
 have hb46':b4<b6:=hb46;have h65:=hm5.heap (fun e=>by have:=HND.out b6 (inD b6 e);omega) H64.out;have hmD:Mod D w4 w5:=hm5.mono (fun k _ hk=>inD k hk);have h45:=hmD.heap (fun e=>by have:=HND.out b4 e;omega) (HP4.out.heap (fun h=>h) H4.out);have hfo:=zbg hC5 HXM.out (by omega) hb HM.out HM2.out hl;unfold tdV at hfo;have HFo:=za hfo;have HG5:=za hg5;have HMD:=za hmD;have H65:=za h65;have H45:=za h45;have hnm : ∀ k,(k=bm∨k=bb)→D k:=fun k hk=>by
  exact Azur6
 have HNM:=za hnm;clear hC5 hg5 inD hm5 hw5 hmD hfo h45 hnm HRe c0 c9 c10 hcl;obtain⟨h65_0,h65_1,h65_2,h65_f,h65_l,H_h65⟩:=cr3 h65;clear h65;go_upto_region 6 with(go_at_call 208;refine HFo.out.mono ?_;rintro e w6 ⟨rfl,⟨Dm',Db',hC6⟩,hm6⟩)
 have h66:=hm6.heap (fun e=>by have:=HND.out b6 (HNM.out b6 e);omega) H65.out;have h46:=hm6.heap (fun e=>by have:=HND.out b4 (HNM.out b4 e);omega) H45.out;have HC6:=za hC6;have HM6:=za hm6;have H46:=za h46;have hsz:w.heap.size≤w4.heap.size:=(HAL.out.trans HP4.out).size;have HSZ:=za hsz;clear h65_0 h65_1 h65_2 h65_f h65_l;clear H_h65 hC6 hm6 hsz;obtain⟨h66_0,h66_1,h66_2,h66_f,h66_l,H_h66⟩:=cr3 h66;clear h66;obtain⟨h46_0,h46_1,h46_2,h46_f,h46_l,H_h46⟩:=cr3 h46;clear h46;go_wp2;have hmf:Mod (fun k=>k=b4) w6 (((w6.setCell ⟨b4,0,none⟩ (.int .u32 x.slot)).setCell ⟨b4,1,none⟩ (.int .u64 x.dl)).setCell ⟨b4,2,none⟩ (.int .u64 x.birth)) :=
  (((Mod.refl (fun k=>k=b4) w6).setCell (p:=⟨b4,0,none⟩) (fun _=>rfl) _).setCell (p:=⟨b4,1,none⟩) (fun _=>rfl) _).setCell (p:=⟨b4,2,none⟩) (fun _=>rfl) _
 have hD4 : ∀ k,D4 k→k≠b4:=fun k hk e=>by
  subst e;rcases HG5.out k hk with c | c
  ·have:=HND.out k c;omega
  ·have:=HP4.out.size;have:=zm H4.out;omega
 have hB4:b4=w.heap.size:=HB4.out.symm;refine zR (v := .tuple #[.agg #[.int .u32 x.slot,.int .u64 x.dl,.int .u64 x.birth],.int .i64 0]) (by simp[results,results182,go_sem,h46_0,h46_1,h46_2,h46_l]) rfl ⟨rfl,⟨D4,_,_,_,HC6.out.frame hmf (fun k hk e=>hD4 k hk e),fun k hk => ?_⟩,?_⟩
 ·rcases HG5.out k hk with c | c
  ·exact .inl c
  ·exact .inr (zF HSZ.out c)
 ·exact(((HAL.out.trans HP4.out).mono (fun _ _ h=>h.elim):Mod D w w4).trans (HMD.out.trans (HM6.out.mono (fun k _ hk=>HNM.out k hk)))).then hmf (fun k hk e=>by exfalso;omega)
end
section
variable{w w':World}{D:Nat→Prop}{p now:Nat}{ws:List Nat}{bm bb:Nat}{Ds:Nat→Nat→Prop}{Dm Db:DataW Unit}{M:List Td}{Lss:List (List (List Nat))}
theorem zd4(h:yr w D p now ws bm bb Ds Dm Db M Lss){s:Nat}(h32:s≤4294967295){er:Int}(he:getTd M s=(zTd,er))(h0:er≠0) :
  Calls prog 182 #[lkP p,.int .u32 s] w fun e w'=>e=.returned (.tuple #[tdV zTd,.int .i64 er])∧zb w w':=by
 have hal:zb w (w.alloc (.cells #[.int .u32 0,.int .u64 0,.int .u64 0] 198)):=(Mod.refl _ w).alloc _;have h4:=zk (w:=w) (o := .cells #[.int .u32 0,.int .u64 0,.int .u64 0] 198 (0,0)) rfl;have hget:=KD (h.pure hal) (s:=s) h32;rw[he]at hget;have HGe:=za hget;have HAL:=za hal;have e0:(er==0)=false:=by simpa using h0
 clear h hal hget he h0;unfold tdV at HGe ⊢;dsimp only at HGe;go_enter func182,ntmps182;go_upto_region 1 with fail
 generalize w.alloc (.cells #[.int .u32 0,.int .u64 0,.int .u64 0] 198)=W1 at *;obtain⟨b4,hb4⟩:=zf w.heap.size;rw[hb4]at h4 ⊢;have hb4':w.heap.size≤b4:=by omega
 have H4:=za h4;clear hb4 h4;go_upto_region 2 with(go_at_call 230;refine HGe.out.mono ?_;rintro e w2 ⟨rfl,hp2⟩)
 have hal2:zb w2 (w2.alloc (.cells #[.int .u32 0,.int .u64 0,.int .u64 0] 198)):=(Mod.refl _ w2).alloc _;have h6:=zk (w:=w2) (o := .cells #[.int .u32 0,.int .u64 0,.int .u64 0] 198 (0,0)) rfl;have h42:=(hp2.trans hal2).heap (fun h=>h) H4.out;have HPP:=za (HAL.out.trans (hp2.trans hal2));clear hal2 hp2 HGe;generalize w2.alloc (.cells #[.int .u32 0,.int .u64 0,.int .u64 0] 198)=W3 at *;generalize w2.heap.size=b6 at *;obtain⟨h6_0,h6_1,h6_2,h6_f,h6_l,H_h6⟩:=cr3 h6;clear h6;obtain⟨h42_0,h42_1,h42_2,h42_f,h42_l,H_h42⟩:=cr3 h42;clear h42;go_wp2;have hpp:=HPP.out;refine zR (v := .tuple #[.agg #[.int .u32 0,.int .u64 0,.int .u64 0],.int .i64 er]) (by simp[results,results182,go_sem,h42_0,h42_1,h42_2,h42_l]) rfl ⟨rfl,?_⟩;exact y9
theorem zg2(h:yr w D p now ws bm bb Ds Dm Db M Lss):Calls prog 105 #[lkP p] w fun e w'=>e=.returned (.int .u64 now)∧w=w':=by
 have HCk:=za (Ys h.box (s:=0) (by omega));obtain⟨c0,c9,c10,_,_⟩:=h.box.cells;clear h;go_enter func105,ntmps105
 go_wp2_with (go_at_call 161;refine HCk.out.mono ?_;rintro e w' ⟨rfl,rfl⟩)
 go_ret;exact⟨rfl,rfl⟩
end
def atE(now s dl:Nat):Int:=if s<4194304 then(if dl=18446744073709551615 then 2 else if dl≤now then 3 else 0)else 2
section
variable{w w':World}{p now bm bb:Nat}{ws:List Nat}
theorem Az02h {P:Prop}(h:P:=by
 go_enter func248,ntmps248
 go_wp2_with (go_at_call 161;refine HCk.out.mono ?_;rintro e w' ⟨rfl,rfl⟩)
 go_ret;exact⟨rfl,rfl⟩):P:=h
theorem U3(h:kG w p now ws bm bb){s dl:Nat}(h32:s≤4294967295)(hd:dl≤18446744073709551615):Calls prog 248 #[lkP p,.int .u32 s,.int .u64 dl] w fun e w'=>e=.returned (.int .i64 (atE now s dl))∧w=w':=by
 have HCk:=za (U4 h h32);obtain⟨c0,_,_,_,_⟩:=h.cells;clear h;unfold Zh at HCk;unfold atE;by_cases hs:s<4194304
 ·rw[zj hs]at HCk ⊢;by_cases hn:dl=18446744073709551615
  ·rw[zj hn];have e1:((dl:Int)==18446744073709551615)=true:=by simp;omega
   clear hn;exact Az02h
  ·rw[zh hn];have e1:((dl:Int)==18446744073709551615)=false:=by simp;omega
   clear hn;by_cases hl:dl≤now
   ·rw[zj hl];have d1:decide ((dl:Int)≤(now:Int))=true:=zQ (by omega);have d2:decide (dl≤now)=true:=zQ hl;exact Az02h
   ·rw[zh hl];have d1:decide ((dl:Int)≤(now:Int))=false:=zU (by omega);have d2:decide (dl≤now)=false:=zU hl;exact Az02h
 ·rw[zh hs]at HCk ⊢;exact Az02h
end
section
variable{w w':World}{D:Nat→Prop}{p now:Nat}{ws:List Nat}{bm bb:Nat}{Ds:Nat→Nat→Prop}{Dm Db:DataW Unit}{M:List Td}{Lss:List (List (List Nat))}
theorem Azpue {P:Prop}(h:P:=by
 go_region
 all_goals
   (try go_wp2)
   try go_meet
   first
     | exact⟨rfl,hpx⟩
     | exact⟨rfl,hpx.drew⟩
     | exact⟨rfl,hpx.alloc _⟩
     | exact⟨rfl,(hpx.alloc _).drew⟩):P:=h
theorem Azhsu {P:Prop}(h:P:=by
 go_region
 all_goals
   (try go_wp2)
   go_meet
   first
     | exact⟨rfl,(Mod.refl _ _).alloc _⟩
     | exact⟨rfl,((Mod.refl _ _).alloc _).drew⟩):P:=h
theorem zjw(h:yr w D p now ws bm bb Ds Dm Db M Lss){x:Td}(hs:x.slot<4194304)(hd:x.dl<18446744073709551615)(hb:x.birth≤18446744073709551615)(hb0:x.birth≠0)(hn:now<x.dl)(hMl:M.length<maxLen){Ls:List (List Nat)}{L:List Nat}
    (hL:Lss[lvl now x.dl]? = some Ls) (hK:Ls[bkt now x.dl]? = some L) (hf : ¬ inL Ls x.slot) (h1 : ∀ y∈M,y.slot≠x.slot) (h2 : ∀ y∈M,y.birth≠x.birth) :
    Calls prog 198 #[lkP p,tdV x] w fun e w'=>e=.returned (.int .i64 0)∧(∃ D' Ds' Dm' Db',yr w' D' p now ws bm bb Ds' Dm' Db' (x::M) (Lss.set (lvl now x.dl) (Ls.set (bkt now x.dl) (L++[x.slot])))∧zZ D D' w)∧Mod D w w':=by
  have hal:zb w (w.alloc (.cells #[.int .u32 x.slot,.int .u64 x.dl,.int .u64 x.birth] 198)):=(Mod.refl _ w).alloc _;have h3:=zk (w:=w) (o := .cells #[.int .u32 x.slot,.int .u64 x.dl,.int .u64 x.birth] 198 (0,0)) rfl;have HC:=za (h.pure hal);have HCk:=za (Ys (h.pure hal).box hs);have hat:=U3 (h.pure hal).box (s:=x.slot) (dl:=x.dl) (by omega) (by omega);unfold atE at hat;rw[zj hs,zh (by omega),zh (by omega)]at hat;have HAt:=za hat;have HPu:=za (fun(W:World) (hW:zb w W)=>zap (h.pure hW) (x:=x) (M':=x::M) hs (by omega) hb (by omega) hMl hL hK hf (.inl ⟨h1,h2,rfl⟩));have hlk:=fun(W:World) (hW:zb (w.alloc (.cells #[.int .u32 x.slot,.int .u64 x.dl,.int .u64 x.birth] 198)) W)=>((h.pure hal).pure hW).what.look_no (s:=x.slot) (by omega) h1
  have hlb:=fun(W:World) (hW:zb (w.alloc (.cells #[.int .u32 x.slot,.int .u64 x.dl,.int .u64 x.birth] 198)) W)=>((h.pure hal).pure hW).births.look (s:=x.birth) hb
  have hbh:Maps.has Db (kB x.birth)=false:=by
    cases hh:Maps.has Db (kB x.birth)with
    | false=>rfl
    | true=>obtain⟨y,hy,e⟩:=(h.births.has _).1 hh;exact absurd e (h2 y hy)
  rw[hbh]at hlb;have HLK:=za hlk;have HLB:=za hlb;have HAL:=za hal;have e0:((x.birth:Int)==0)=false:=by simp;omega
  clear h hal hat hlk hlb hbh hL hK hf h1 h2 hb0;unfold tdV at HPu HLK ⊢;go_enter func198,ntmps198;go_upto_region 1 with fail
  generalize w.alloc (.cells #[.int .u32 x.slot,.int .u64 x.dl,.int .u64 x.birth] 198)=W1 at *;obtain⟨b3,hb3⟩:=zf w.heap.size;rw[hb3]at h3 ⊢;have H3:=za h3;clear hb3;obtain⟨h3_0,h3_1,h3_2,h3_f,h3_l,H_h3⟩:=cr3 h3;clear h3;obtain⟨c0,c9,c10,_,_⟩:=HC.out.box.cells;go_upto_region 9 with(first
    | (go_at_call 161;refine HCk.out.mono ?_;rintro e w' ⟨rfl,rfl⟩)
    | (go_at_call 248;refine HAt.out.mono ?_;rintro e w' ⟨rfl,rfl⟩))
  have hk1:=HLK.out W1 (Mod.refl _ _);have hk2:=HLK.out W1.drew (Mod.refl _ _).drew;have hk3:=HLK.out (W1.alloc (.cells #[.int .u32 0,.int .u64 0,.int .u64 0] 198)) ((Mod.refl _ _).alloc _);have hk4:=HLK.out (W1.alloc (.cells #[.int .u32 0,.int .u64 0,.int .u64 0] 198)).drew ((Mod.refl _ _).alloc _).drew
  go_cut [8] (fun v wx=>v=.bool false∧zb W1 wx)
  case first =>
    exact Azhsu
  case rest =>
    obtain⟨rfl,hpx⟩:=hcut;have h3x:=hpx.heap (fun h=>h) H3.out;have HCx:=za (HC.out.pure hpx);have HPX:=za hpx;have H3x:=za h3x;clear h3_0 h3_1 h3_2 h3_f h3_l;clear H_h3 c0 c9 c10 hk1 hk2 hk3 hk4;obtain⟨h3x_0,h3x_1,h3x_2,h3x_f,h3x_l,H_h3x⟩:=cr3 h3x;clear h3x;obtain⟨c0,c9,c10,_,_⟩:=HCx.out.box.cells;have hk1:=HLB.out wc hpx;have hk2:=HLB.out wc.drew hpx.drew;have hk3:=HLB.out (wc.alloc (.cells #[] 329)) (hpx.alloc _);have hk4:=HLB.out (wc.alloc (.cells #[] 329)).drew (hpx.alloc _).drew;go_upto_region 10 with fail
    go_cut [10] (fun v wx=>v=.bool false∧zb W1 wx)
    case first =>
      exact Azpue
    case rest =>
      obtain⟨rfl,hpy⟩:=hcut;have h3y:=hpy.heap (fun h=>h) H3.out;have HCy:=za (HC.out.pure hpy);have HPY:=za hpy;have H3y:=za h3y;clear h3x_0 h3x_1 h3x_2 h3x_f h3x_l;clear H_h3x c0 c9 c10 hk1 hk2 hk3 hk4 HCx;obtain⟨h3y_0,h3y_1,h3y_2,h3y_f,h3y_l,H_h3y⟩:=cr3 h3y;clear h3y;obtain⟨c0,c9,c10,_,_⟩:=HCy.out.box.cells;go_upto_region 13 with fail
      go_upto_region 14 with(go_at_call 207;refine zq (HPu.out _ (by first | exact HAL.out.trans HPY.out | exact(HAL.out.trans HPY.out).drew)) ?_;rintro e w' ⟨rfl,⟨D',Ds',Dm',Db',hC,hg⟩,hm⟩)
      have hm0:Mod D w w':=((HAL.out.trans HPY.out).mono (fun _ _ h=>h.elim):Mod D w wc).trans (by first | exact hm | exact Mod.of_drew hm);have hg0:zZ D D' w:=fun k hk=>by
        rcases hg k hk with e | e
        · exact .inl e
        · exact .inr (zF (HAL.out.trans HPY.out).size e)
      have HF:=za hC;have HM:=za hm0;have HG:=za hg0;clear hC hm hg hm0 hg0;go_wp2;exact zR (v := .int .i64 0) (by simp[results,results198,go_sem]) rfl ⟨rfl,⟨_,_,_,_,HF.out,HG.out⟩,HM.out⟩
end
end
end Go.Proofs.YtifbnponicgplaaGreatDoor
