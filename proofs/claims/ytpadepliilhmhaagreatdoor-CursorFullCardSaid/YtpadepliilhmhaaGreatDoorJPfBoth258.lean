/- Lemmas and contracts of functions. No condition. -/
import Derived.Shelf.Spec.TrailingZeros
import Derived.Test.YtpadepliilhmhaaGreatDoorJPfBoth256
namespace Go.Proofs.YtpadepliilhmhaaGreatDoor
open _root_.Go.Proofs.Tryz
set_option maxRecDepth 100000
set_option maxHeartbeats 20000000
set_option linter.all false
section
open Go.RowKit
theorem jK:(prog.info? 103).map (fun i=>(i.zero,i.size,i.bytes))=some (some (.int .u32 0),1,4):=by kernel_rfl
def zW(xs:List Nat):List Value:=xs.map (fun x:Nat=>(.int .u32 x:Value))
theorem qt(a b:List Nat):zW (a++b)=zW a++zW b:=by simp[zW]
theorem jG(a:List Nat):(zW a).length=a.length:=by simp[zW]
abbrev yo(w:World)(a:Option Addr)(c:Nat)(xs:List Nat):Prop:=w.ownsRow 0 103 1 (.slice a xs.length c) xs.length (zW xs)
def xh(w:World)(v:Value):Prop := ∀ g,v.ownBlock=some g→w.heap.size≤g
theorem Vj(xs:List Nat) : ∀ u∈zW xs,u.oneCell'=true:=by
 intro u hu;unfold zW at hu;obtain⟨x,_,rfl⟩:=zD.1 hu
 rfl
theorem zb7{F:List Nd} : ∀ {l:List Nat} {a:Nat},Ch F a l → ∀(i x y:Nat),(a::l)[i]? = some x→l[i]? = some y→(nd F x).nx=y
 | [],_,_,i,x,y,_,h=>by simp at h
 | z::l,a,⟨h1,h2,h3⟩,0,x,y,hx,hy=>by
  simp at hx hy;rw[← hx,h1,hy]
 | z::l,a,⟨h1,h2,h3⟩,i+1,x,y,hx,hy=>zb7 h3 i x y (by simpa using hx) (by simpa using hy)
theorem uM.at_{F:List Nd}{r:Nat}{l:List Nat}(h:uM F r l){i x y:Nat}(hx:(r::l)[i]? = some x)(hy:(l++[r])[i]? = some y):(nd F x).nx=y:=by
 refine zb7 h i x y ?_ hy;rw[← zbA,uc (by exact(zC.1 hx).1)];exact hx
section
variable{w w':World}{p N:Nat}{Ls:List (List Nat)}{D:Nat→Prop}
theorem Ku(h:yf w D p N Ls){k:Nat}{l:List Nat}(hl:Ls[k]? = some l) :
    Calls prog 258 #[lkP p,.int .i64 k] w fun e w' => ∃ a c,e=.returned (.slice a l.length c)∧yo w' a c l∧xh w (.slice a l.length c)∧zb w w':=by
  obtain⟨gF,gL,cF,cL,F,h,_⟩:=h;have hk:k<Ls.length:=(zC.1 hl).1;have hk4:k≤4096:=by have:=h.hm;omega
  have HLi:=za (X8 h hk);have HRi:=za (Jb h hk4);have HNX:Hid (∀ {i x y:Nat},((N+k)::l)[i]? = some x→(l++[N+k])[i]? = some y→(nd F x).nx=y):=za (fun hx hy=>(h.ok.ring k l hl).at_ hx hy);have HLT:Hid (∀(i x:Nat),(l++[N+k])[i]? = some x→x<F.length∧(i<l.length→x<N∧l[i]? = some x)∧(l.length≤i→x=N+k)):=za (fun i x hx=>by
    have hm:=yh hx;refine⟨(h.ok.mem_lt hl x hm).1,fun hi => ?_,fun hi => ?_⟩
    · rw[uc hi]at hx
      exact⟨(h.ok.own k l hl x (yh hx)).1,hx⟩
    · rw[kK hi]at hx
      rw[List.getElem?_singleton]at hx;split at hx
      · injection hx with hx;exact hx.symm
      · cases hx)
  have hll:l.length≤N:=h.ok.short hl;have hnm:=h.nm;have hFb:F.length≤4198400:=by rw[h.ok.len];have:=h.hm;omega
  have hNF:N+k<F.length:=h.ok.hd_lt hk;obtain⟨FL,hFL⟩:=zc F.length;rw[hFL]at hFb hNF HLT;obtain⟨c0,c1,c2⟩:=h.at_ (i:=N+k) (by rw[hFL];exact hNF);obtain⟨y0,hy0⟩ : ∃ y,(l++[N+k])[0]? = some y:=⟨_,zQ (by simp)⟩;rw[HNX.out (i:=0) rfl hy0]at c1;have hb:=h.box;rw[hFL]at hb;have HB:=za hb;have HM:=za h;have HFLe:=za hFL;obtain⟨r,hr⟩:=zc (N+k);rw[hr]at HRi HNX HLT hNF c1 hy0;have HY0:=za hy0;have hNr:N≤r:=by omega
  have dr:decide (r<FL)=true:=zK hNF;have HY0L:=HLT.out _ _ hy0;have hy0b:y0<FL:=HY0L.1;clear h hl hFL hr c0 c2 hy0 HY0L;obtain⟨hb_0,hb_1,hb_2,hb_f,hb_l,H_hb⟩:=cr3 hb;clear hb;obtain⟨i0,hi,iz0,iz1,iz2⟩:=xy jK;go_enter func258,ntmps258
  go_upto_block 0 with(first
    | (go_at_call 296;refine HLi.out.mono ?_;rintro e w' ⟨rfl,rfl⟩)
    | (go_at_call 233;refine HRi.out.mono ?_;rintro e w' ⟨rfl,rfl⟩))
  go_wp2_with fail
  have t1:=HM.out;clear t1;clear hb_0 hb_1 hb_2 hb_f hb_l;clear H_hb;go_loopw [6,7] (fun v6 v7 wr => ∃(i:Nat) (a:Option Addr) (c:Nat) (y:Nat),v7=.int .u32 y∧i≤l.length∧(l++[r])[i]? = some y∧v6=.slice a i c∧yo wr a c (l.take i)∧xh w (.slice a i c)∧zb w wr) (fun v6 _ _=>l.length-(match v6 with | .slice _ n _=>n | _=>0))
  case atStart=>exact⟨0,none,0,y0,rfl,yk _,HY0.out,rfl,vD _ _ _ _,(fun g hg=>by cases hg),Mod.refl _ _⟩
  case round =>
    obtain⟨i,a,c,y,rfl,hi9,hy,rfl,hrow,hfr,hpu⟩:=hrel;obtain⟨hy1,hy2,hy3⟩:=HLT.out _ _ hy;have HY:=za hy;have HMr:=za (HM.out.pure hpu);have hb:=hpu.heap (fun h=>h) HB.out;have hcl:=(HMr.out.at_ (i:=y) (by rw[HFLe.out];exact hy1));obtain⟨q0,q1,q2⟩:=hcl;have HRow:=za hrow;have HFR:=za hfr;have HPU:=za hpu;clear hy hrow hfr hpu q0 q2;by_cases hlt:i<l.length
    · obtain⟨hy4,hy5⟩:=hy2 hlt
      have hne:((y:Int)==(r:Int))=false:=by simp;omega
      have hne2:((y:Int) != (r:Int))=true:=by simp;omega
      obtain⟨y',hy'⟩ : ∃ y',(l++[r])[i+1]? = some y':=⟨_,zQ (by simp;omega)⟩;have hnx:(nd F y).nx=y':=HNX.out (i:=i+1) (by simpa using hy5) hy';rw[hnx]at q1;have hy'b:=(HLT.out _ _ hy').1;have dy:decide (y<FL)=true:=zK hy1;have htk:l.take (i+1)=l.take i++[y]:=by rw[uB,hy5];rfl
      have htl:(l.take i).length=i:=by rw[jL];omega
      have HTK:=za htk;have HTL:=za htl;have HY':=za hy';have hrr:wr.ownsRow 0 103 1 (.slice a i c) i (zW (l.take i)):=by have:=HRow.out;unfold yo at this;rw[htl]at this;exact this
      have HRR:=za hrr;have q1b:=q1;clear htk htl hy' hnx hrr hy2 hy3 hy5 q1;obtain⟨hb_0,hb_1,hb_2,hb_f,hb_l,H_hb⟩:=cr3 hb;clear hb;go_upto_region 7 with(at_builtin;refine uE _ rfl _ _ 172 rfl 103 i0 _ 1 4 underlying172 hi iz0 iz1 iz2 rfl (by decide) (.slice a i c) i _ rfl (zA HRR.out ((Mod.refl (fun _=>False) wr).alloc _) (fun _ _ h=>h)) _ [.int .u32 (y:Nat)] 1 rfl (zn.of_block 1 1 1 (zi rfl) (by rfl) (by simp[Value.oneCell'])) rfl (by unfold maxLen;omega) (by omega) ?_;intro a7 c7 w5 hr7 hg7 hb7)
      have hpw:zb w w5:=(HPU.out.alloc _).then (Mod.of_grown (S:=fun k'=>(Value.slice a i c).ownBlock=some k') hg7 (fun k e _=>e)) (fun k hk e=>by have:=HFR.out k e;omega);have hfw:xh w (.slice a7 (i+1) c7):=fun k hk=>by
        rcases hb7 with e | e
        · exact HFR.out k (e ▸ hk)
        · rw[e]at hk;cases hk;exact(HPU.out.alloc _).size
      have HPW:=za hpw;have HFW:=za hfw;have HR7:=za hr7;have hb5:=hpw.heap (fun h=>h) HB.out;obtain⟨z0,z1,z2⟩:=((HM.out.pure hpw).at_ (i:=y) (by rw[HFLe.out];exact hy1));rw[HNX.out (i:=i+1) (by have:=(HLT.out _ _ HY.out).2.1 hlt;simpa using this.2) HY'.out]at z1;clear hb_0 hb_1 hb_2 hb_f hb_l;clear H_hb hpw hfw hr7 hg7 hb7 q1b z0 z2 hne hne2;obtain⟨hb5_0,hb5_1,hb5_2,hb5_f,hb5_l,H_hb5⟩:=cr3 hb5;clear hb5;go_wp2;go_roundw
      case rel=>exact⟨i+1,a7,c7,y',rfl,hlt,HY'.out,rfl,by unfold yo;rw[HTK.out,zN,HTL.out,qt];exact HR7.out,HFW.out,HPW.out⟩
      case measure=>simp;omega
    · have hri:y=r:=hy3 (by omega)
      have hil:i=l.length:=by omega
      subst hri hil;have HTA:Hid (l.take l.length=l):=za (by rw[List.take_length]);clear hy2 hy3 hlt hi9;go_wp2;go_ret;refine⟨a,c,rfl,?_,HFR.out,HPU.out⟩;have:=HRow.out;rw[HTA.out]at this;exact this
end
abbrev mkP(p:Nat):Value := .pointer (some ⟨p,1,none⟩)
def whC(q:Nat)(f:Nat→Bool)(many:Int):Array Value:=#[.pointer (some ⟨q,0,none⟩),.int .u64 (zE f 0:Nat),.int .u64 (zE f 1:Nat),.int .u64 (zE f 2:Nat),.int .u64 (zE f 3:Nat),.int .i64 many]
theorem K7{q:Nat}{f:Nat→Bool}{many:Int}{k:Nat}(hk:k<4):(whC q f many)[1+k]? = some (.int .u64 (zE f k:Nat)):=by
 have arr : ∀(a x0 x1 x2 x3 z:Value),(#[a,x0,x1,x2,x3,z]:Array Value)[1+0]? = some x0∧(#[a,x0,x1,x2,x3,z]:Array Value)[1+1]? = some x1∧(#[a,x0,x1,x2,x3,z]:Array Value)[1+2]? = some x2∧(#[a,x0,x1,x2,x3,z]:Array Value)[1+3]? = some x3:=fun _ _ _ _ _ _=>⟨rfl,rfl,rfl,rfl⟩
 have:k=0∨k=1∨k=2∨k=3:=by omega
 unfold whC;rcases this with rfl | rfl | rfl | rfl
 ·exact(arr _ _ _ _ _ _).1
 ·exact(arr _ _ _ _ _ _).2.1
 ·exact(arr _ _ _ _ _ _).2.2.1
 ·exact(arr _ _ _ _ _ _).2.2.2
theorem zcr{q:Nat}{f:Nat→Bool}{many:Int}{b:Nat}{v:Bool}{x:Nat}(hb:b<256)(hx:x=zE (yT f b v) (b/64)):(whC q f many).setIfInBounds (1+b/64) (.int .u64 (x:Nat))=whC q (yT f b v) many:=by
 rw[hx];clear hx;have h:=fun k (hk:k≠b/64)=>zjd (f:=f) (b:=b) (v:=v) hk
 have:b/64=0∨b/64=1∨b/64=2∨b/64=3:=by omega
 have arr : ∀(a x0 x1 x2 x3 y z:Value),(#[a,x0,x1,x2,x3,z]:Array Value).setIfInBounds (1+0) y=#[a,y,x1,x2,x3,z]∧(#[a,x0,x1,x2,x3,z]:Array Value).setIfInBounds (1+1) y=#[a,x0,y,x2,x3,z]∧(#[a,x0,x1,x2,x3,z]:Array Value).setIfInBounds (1+2) y=#[a,x0,x1,y,x3,z]∧(#[a,x0,x1,x2,x3,z]:Array Value).setIfInBounds (1+3) y=#[a,x0,x1,x2,y,z]:=fun _ _ _ _ _ _ _=>⟨rfl,rfl,rfl,rfl⟩
 rcases this with e | e | e | e<;>rw[e]at h ⊢ <;> unfold whC
 ·rw[(arr _ _ _ _ _ _ _).1,h 1 (by decide),h 2 (by decide),h 3 (by decide)]
 ·rw[(arr _ _ _ _ _ _ _).2.1,h 0 (by decide),h 2 (by decide),h 3 (by decide)]
 ·rw[(arr _ _ _ _ _ _ _).2.2.1,h 0 (by decide),h 1 (by decide),h 3 (by decide)]
 ·rw[(arr _ _ _ _ _ _ _).2.2.2,h 0 (by decide),h 1 (by decide),h 2 (by decide)]
section
variable{w w':World}{p q:Nat}{f:Nat→Bool}{many:Int}
theorem zgC(h:w.heap[p]? = some (.cells (whC q f many) 347 (0,0))){b:Nat}(hb:b<256) :
  Calls prog 285 #[mkP p,.int .i64 b] w fun e w'=>e=.returned (.tuple #[])∧w'.heap[p]? = some (.cells (whC q (yT f b true) many) 347 (0,0))∧Mod (fun k=>k=p) w w':=by
 have hk:b/64<4:=by omega
 have hr:b%64<64:=xY _ (by decide);have c0:w.cell? ⟨p,1+b/64,none⟩=some (.int .u64 (zE f (b/64):Nat)):=by rw[zj w p _ _ _ (0,0) h];exact K7 hk
 have g0:=yP w p (1+b/64) _ _ h;have hlt:p<w.heap.size:=zl h;have wq:wrap64 ((b:Int)/64)=((b/64:Nat):Int):=by rw[show(b:Int)/64=((b/64:Nat):Int) by omega];exact jg _ (by omega)
 have eq1:(b:Int)/64=((b/64:Nat):Int):=by omega
 have eq2:(b:Int)%64=((b%64:Nat):Int):=by omega
 have HS:=za (Js (f:=f) (b:=b));have hwl:=ZX f (b/64);have hpl:2 ^ (b%64)<18446744073709551616:=Nat.pow_lt_pow_right (a:=2) (by decide) (show b%64<64 by omega);have hc2:((2 ^ (b%64):Nat):Int)=(2:Int) ^ (b%64):=by simp
 have hw2:=vJ (2 ^ (b%64)) hpl;rw[hc2]at hw2;have hor:=Xh (zE f (b/64)) (2 ^ (b%64)) hwl hpl;rw[hc2]at hor;clear hc2;have b0:(0:Int)≤(b:Int):=by omega
 have b1:(b:Int)<256:=by omega
 have HH:=za h;have HB:=za hb;obtain⟨k,hk'⟩ : ∃ k,b/64=k:=⟨_,rfl⟩;have HK:=za hk';clear h hb hk;rw[hk']at c0 g0 wq eq1 HS hwl hor;clear hk';generalize zE f k=x at *;generalize b%64=r at *;go_enter func285,ntmps285
 go_region
 have e1:=zT w p (1+k) _ _ (.int .u64 ((x ||| 2 ^ r:Nat):Int)) HH.out;have e2:=((Mod.refl (fun k=>k=p) w).setCell (p:=⟨p,1+k,none⟩) (fun _=>rfl) (.int .u64 ((x ||| 2 ^ r:Nat):Int))).drew;have e3:(whC q f many).setIfInBounds (1+k) (.int .u64 ((x ||| 2 ^ r:Nat):Int))=whC q (yT f b true) many:=by
  have:=zcr (q:=q) (f:=f) (many:=many) (v:=true) (x:=x ||| 2 ^ r) HB.out (by rw[HK.out];exact HS.out);rw[HK.out]at this;exact this
 rw[e3]at e1
 go_end0
 exact⟨rfl,e1,e2⟩
theorem zdz(h:w.heap[p]? = some (.cells (whC q f many) 347 (0,0))){b:Nat}(hb:b<256) :
  Calls prog 266 #[mkP p,.int .i64 b] w fun e w'=>e=.returned (.tuple #[])∧w'.heap[p]? = some (.cells (whC q (yT f b false) many) 347 (0,0))∧Mod (fun k=>k=p) w w':=by
 have hk:b/64<4:=by omega
 have hr:b%64<64:=xY _ (by decide);have c0:w.cell? ⟨p,1+b/64,none⟩=some (.int .u64 (zE f (b/64):Nat)):=by rw[zj w p _ _ _ (0,0) h];exact K7 hk
 have g0:=yP w p (1+b/64) _ _ h;have hlt:p<w.heap.size:=zl h;have wq:wrap64 ((b:Int)/64)=((b/64:Nat):Int):=by rw[show(b:Int)/64=((b/64:Nat):Int) by omega];exact jg _ (by omega)
 have eq1:(b:Int)/64=((b/64:Nat):Int):=by omega
 have eq2:(b:Int)%64=((b%64:Nat):Int):=by omega
 have HS:=za (zbK (f:=f) (b:=b));have hwl:=ZX f (b/64);have hpl:2 ^ (b%64)<18446744073709551616:=Nat.pow_lt_pow_right (a:=2) (by decide) (show b%64<64 by omega);have hc2:((2 ^ (b%64):Nat):Int)=(2:Int) ^ (b%64):=by simp
 have hw2:=vJ (2 ^ (b%64)) hpl;rw[hc2]at hw2;have hor:=Vo (zE f (b/64)) (2 ^ (b%64)) _ hwl hpl rfl;rw[hc2]at hor;clear hc2;have b0:(0:Int)≤(b:Int):=by omega
 have b1:(b:Int)<256:=by omega
 have HH:=za h;have HB:=za hb;obtain⟨k,hk'⟩ : ∃ k,b/64=k:=⟨_,rfl⟩;have HK:=za hk';clear h hb hk;rw[hk']at c0 g0 wq eq1 HS hwl hor;clear hk';generalize zE f k=x at *;generalize b%64=r at *;go_enter func266,ntmps266
 go_region
 have e1:=zT w p (1+k) _ _ (.int .u64 ((x &&& (18446744073709551615-2 ^ r):Nat):Int)) HH.out;have e2:=((Mod.refl (fun k=>k=p) w).setCell (p:=⟨p,1+k,none⟩) (fun _=>rfl) (.int .u64 ((x &&& (18446744073709551615-2 ^ r):Nat):Int))).drew;have e3:(whC q f many).setIfInBounds (1+k) (.int .u64 ((x &&& (18446744073709551615-2 ^ r):Nat):Int))=whC q (yT f b false) many:=by
  have:=zcr (q:=q) (f:=f) (many:=many) (v:=false) (x:=x &&& (18446744073709551615-2 ^ r)) HB.out (by rw[HK.out];exact HS.out);rw[HK.out]at this;exact this
 rw[e3]at e1
 go_end0
 exact⟨rfl,e1,e2⟩
end
def ux(Ls:List (List Nat))(h j:Nat):List (List Nat):=(List.range Ls.length).map (fun k=>if k<h then Ls.getD k []else if k=h then(Ls.getD h []).take j else[])
theorem qw(Ls:List (List Nat))(h j:Nat):(ux Ls h j).length=Ls.length:=by simp[ux]
theorem qP{Ls:List (List Nat)}{h j k:Nat}(hk:k<Ls.length):(ux Ls h j)[k]? = some (if k<h then Ls.getD k []else if k=h then(Ls.getD h []).take j else[]):=by
 unfold ux;rw[yu,jb hk];rfl
theorem Xn{Ls:List (List Nat)}{h:Nat}{l:List Nat}(hl:Ls[h]? = some l):Ls.getD h []=l:=by rw[vF,hl];rfl
theorem zjs(Ls:List (List Nat)):ux Ls 0 0=List.replicate Ls.length []:=by
 refine vX (fun k => ?_);rw[vz];by_cases hk:k<Ls.length
 ·rw[qP hk,zh hk,zf (by omega)];split<;>simp
 ·rw[zf hk,xu (by rw[qw];omega)]
theorem zdU(Ls:List (List Nat))(j:Nat):ux Ls Ls.length j=Ls:=by
 refine vX (fun k => ?_);by_cases hk:k<Ls.length
 ·rw[qP hk,zh hk,vF,zQ hk];rfl
 ·rw[xu (by rw[qw];omega),xu (by omega)]
theorem zen{Ls:List (List Nat)}{h:Nat}{l:List Nat}(hl:Ls[h]? = some l):ux Ls h l.length=ux Ls (h+1) 0:=by
 refine vX (fun k => ?_);by_cases hk:k<Ls.length
 ·rw[qP hk,qP hk,Xn hl,List.take_length]
  congr 1
  by_cases c1:k<h
  ·rw[zh c1,zh (by omega)]
  ·rw[zf c1];by_cases c2:k=h
   ·subst c2;rw[zh rfl,zh (by omega),Xn hl]
   ·rw[zf c2,zf (by omega)];split<;>simp
 ·rw[xu (by rw[qw];omega),xu (by rw[qw];omega)]
theorem zkL{Ls:List (List Nat)}{h j:Nat}{l:List Nat}(hl:Ls[h]? = some l):(ux Ls h j)[h]? = some (l.take j):=by
 rw[qP (zC.1 hl).1,zf (by omega),zh rfl,Xn hl]
theorem zjM{Ls:List (List Nat)}{h j n:Nat}{l:List Nat}(hl:Ls[h]? = some l)(hn:l[j]? = some n):(ux Ls h j).set h (l.take j++[n])=ux Ls h (j+1):=by
 have hh:=(zC.1 hl).1;refine vX (fun k => ?_);by_cases hk:k<Ls.length
 ·rw[qP hk];by_cases e:h=k
  ·subst e;rw[yj (by rw[qw];exact hk),zf (by omega),zh rfl,Xn hl,uB,hn]
   rfl
  ·rw[yq e,qP hk];simp only[if_neg (fun c:k=h=>e c.symm)]
 ·rw[xu (by rw[xp,qw];omega),xu (by rw[qw];omega)]
theorem zdY{N:Nat}{Ls:List (List Nat)}{F:List Nd}(ok:xl N Ls F){h j n:Nat}{l:List Nat}(hl:Ls[h]? = some l)(hn:l[j]? = some n) : ¬ inL (ux Ls h j) n:=by
 rintro⟨k,m,hm,hmem⟩;have hnl:=yh hn;have hk:k<Ls.length:=by have:=(zC.1 hm).1;rwa [qw]at this
 rw[qP hk]at hm;injection hm with hm
 have h1:=(ok.own h l hl n hnl).2;by_cases c1:k<h
 ·rw[zh c1]at hm;have hLk:Ls[k]? = some m:=by rw[← hm,vF,zQ hk];rfl
  have:=(ok.own k m hLk n hmem).2;omega
 ·rw[zf c1]at hm;by_cases c2:k=h
  ·rw[zh c2,Xn hl]at hm;rw[← hm]at hmem;obtain⟨i,hi⟩:=vV hmem;rw[jh]at hi;split at hi
   ·have hnd:=ok.nodup h l hl;have:=(List.getElem?_inj (zC.1 hi).1 hnd (j:=j)).1 (hi.trans hn.symm);omega
   ·cases hi
  ·rw[zf c2]at hm;rw[← hm]at hmem
   cases hmem
theorem VQ{W:World}{a:Option Addr}{n c:Nat}{xs:List Nat}(h:zn W (.slice a n c) 1 (zW xs)){j y:Nat}(hy:xs[j]? = some y) : ∃ ad,a=some ad∧W.cell? (ad.add j)=some (.int .u32 y):=by
 obtain⟨a',n',c',e,hl,_,h0,hc⟩:=h
 cases e
 have hu:(zW xs)[j]? = some (.int .u32 y):=by unfold zW;rw[yu,hy];rfl
 cases a with
 | none =>
  have h1:=h0 rfl;have h2:=(zC.1 hu).1;omega
 | some ad=>exact⟨ad,rfl,hc ad rfl j _ hu⟩
theorem qm{W:World}{a:Option Addr}{c:Nat}{xs:List Nat}(h:yo W a c xs):zn W (.slice a xs.length c) 1 (zW xs):=zn.of_owns h (Vj xs)
theorem zb4{X:World}{b:Nat}{u0 u1 u2 v0 v1 v2:Value}{T:TypeId}(h:X.heap[b]? = some (.cells #[u0,u1,u2] T (0,0))) :
  (((X.setCell ⟨b,0,none⟩ v0).setCell ⟨b,1,none⟩ v1).setCell ⟨b,2,none⟩ v2).heap[b]? = some (.cells #[v0,v1,v2] T (0,0)):=by
 have h1:=zT X b 0 _ T v0 h;have h2:=zT _ b 1 _ T v1 h1;have h3:=zT _ b 2 _ T v2 h2;simpa using h3
section
variable{w w':World}{p N:Nat}{Ls:List (List Nat)}{D:Nat→Prop}
theorem yf.lenH(h:yf w D p N Ls):Ls.length≤4096∧N≤4194304∧1≤N:=by obtain⟨gF,gL,cF,cL,F,h1,h2⟩:=h;exact⟨h1.hm,h1.nm,h1.n1⟩
theorem Q8(h:yf w D p N Ls)(hH:1≤Ls.length)(a:Option Addr)(c:Nat)(hto:zn w (.slice a N c) 1 (zW (List.range N))){M:Nat}(hNM:N≤M)(hM:M≤4194304) :
    Calls prog 276 #[lkP p,.slice a N c,.int .i64 M] w fun e w'=>e=.returned (.int .i64 0)∧(∃ D',yf w' D' p M Ls ∧ ∀ k,D' k→k=p∨w.heap.size≤k)∧Mod (fun k=>k=p) w w':=by
  obtain⟨h4,h5,h6⟩:=h.lenH;have HAt:=za h;obtain⟨gF,gL,cF,cL,F,hm,hD⟩:=h;have HOK:=za hm.ok;have HTO:=za hto;have HN:=za (Y6 hm);obtain⟨H,hHe⟩:=zc Ls.length;have HNe:=za (UN w (N:=M) (H:=H) (by omega) hM (by omega) (by omega));have hb:=hm.box;obtain⟨FL,hFL⟩:=zc F.length;rw[hHe,hFL]at hb;rw[hHe]at h4 hH;have HB:=za hb;have HHe:=za hHe;clear hm hD hFL hto hHe;have wH:IntKind.i64.wrap (H:Int)=H:=zo _ (by omega);have wN:IntKind.i64.wrap (N:Int)=N:=zo _ (by omega);obtain⟨hb_0,hb_1,hb_2,hb_f,hb_l,H_hb⟩:=cr3 hb;clear hb;go_enter func276,ntmps276;go_upto_region 4 with(first
    | (go_at_call 302;refine HN.out.mono ?_;rintro e w' ⟨rfl,rfl⟩)
    | (go_at_call 180;refine HNe.out.mono ?_;rintro e w1 ⟨q,D2,rfl,hq,hp1,hf1⟩))
  have hb1:=hp1.heap (fun h=>h) HB.out;have HQ:=za hq;have HP1:=za hp1;have HF1:=za hf1;clear hb_0 hb_1 hb_2 hb_f hb_l;clear H_hb hq hp1 hf1;have HB1:=za hb1;obtain⟨hb1_0,hb1_1,hb1_2,hb1_f,hb1_l,H_hb1⟩:=cr3 hb1;clear hb1;go_upto_region 7 with fail
  clear hb1_0 hb1_1 hb1_2 hb1_f hb1_l;clear H_hb1;go_loopw [40] (fun v wr => ∃ i,v=.int .i64 (i:Nat)∧i≤H∧yf wr D2 q M (ux Ls i 0)∧zb w wr) (fun v _=>H-(intOf v).toNat)
  case atStart=>exact⟨0,rfl,yk _,by rw[zjs,HHe.out];exact HQ.out,HP1.out⟩
  case round =>
    clear HQ HP1 HB1;obtain⟨i,rfl,hi,hq,hpw⟩:=hrel;have HQ:=za hq;have HPW:=za hpw;clear hq hpw;by_cases hlt:i<H
    · have hlt':(i:Int)<(H:Int):=by omega
      have i0:(0:Int)≤(i:Int):=by omega
      have wi:IntKind.i64.wrap ((i:Int)+1)=(i:Int)+1:=zo _ (by omega);obtain⟨l,hl⟩ : ∃ l,Ls[i]? = some l:=⟨_,zQ (by rw[HHe.out];exact hlt)⟩;have HL:=za hl;have HAl:=za (Ku (HAt.out.pure HPW.out) hl);have hll:l.length≤N:=HOK.out.short hl;obtain⟨n,hn⟩:=zc l.length;rw[hn]at HAl hll;have HLN:=za hn;clear hl hn;go_upto_region 10 with(go_at_call 258;refine HAl.out.mono ?_;rintro e w3 ⟨a3,c3,rfl,hrow,hfr,hp3⟩)
      have hnD : ∀ g,(Value.slice a3 n c3).ownBlock=some g → ¬ D2 g:=fun g hg e=>by have:=hfr g hg;have:=HQ.out.lt e;omega
      have HRow:=za hrow;have HND:=za hnD;have HQ3:=za (HQ.out.pure hp3);have HP3:=za (HPW.out.trans hp3);clear hrow hfr hp3 hnD HAl;have wn:IntKind.i64.wrap (n:Int)=n:=zo _ (by omega);go_loopw [47] (fun v wr => ∃ j,v=.int .i64 (j:Nat)∧j≤n∧yf wr D2 q M (ux Ls i j)∧zb w wr∧yo wr a3 c3 l) (fun v _=>n-(intOf v).toNat)
      case atStart=>exact⟨0,rfl,yk _,HQ3.out,HP3.out,by unfold yo;rw[HLN.out];have:=HRow.out;unfold yo at this;rw[HLN.out]at this;exact this⟩
      case round =>
        clear HQ HPW HQ3 HP3 HRow;obtain⟨j,rfl,hj,hq,hpw,hrow⟩:=hrel;by_cases hlt2:j<n
        · have hlt2':(j:Int)<(n:Int):=by omega
          have j0:(0:Int)≤(j:Int):=by omega
          have wj:IntKind.i64.wrap ((j:Int)+1)=(j:Int)+1:=zo _ (by omega);obtain⟨y,hy⟩ : ∃ y,l[j]? = some y:=⟨_,zQ (by rw[HLN.out];exact hlt2)⟩;obtain⟨ad,had,z0⟩:=VQ (qm hrow) hy;have hyN:y<N:=(HOK.out.own i l HL.out y (yh hy)).1;obtain⟨ad2,had2,z1⟩:=VQ (HTO.out.frame hpw (fun _ _ h=>h)) (j:=y) (y:=y) (by rw[jb hyN]);have HBk:=za (U5 hq (n:=y) (k:=i) (l:=l.take j) (by omega) (zkL HL.out) (zdY HOK.out HL.out hy));rw[zjM HL.out hy]at HBk;have dy:decide (y<N)=true:=zK hyN;have hyb:y≤4294967295:=by omega
          have HPW:=za hpw;have HRow:=za hrow;have HQl:=za hq;subst had had2;clear hy hq hpw hrow
          go_wp2_with (go_at_call 232;refine HBk.out.mono ?_;rintro e w5 ⟨rfl,hq5,hm5⟩)
          go_roundw
          case rel=>exact⟨j+1,by go_num,hlt2,hq5,HPW.out.then hm5 (fun k hk e=>by have:=HF1.out k e;omega),zA HRow.out hm5 (by rw[HLN.out];exact HND.out)⟩
          case measure=>simp[intOf];omega
        · have e:n=j:=by omega
          subst e;have HQf:Hid (yf wr D2 q M (ux Ls (i+1) 0)):=za (by rw[← zen HL.out,HLN.out];exact hq);have HPW:=za hpw;clear hq hpw hrow hj hlt2;go_wp2;go_roundw
          case rel=>exact⟨i+1,by go_num,hlt,HQf.out,HPW.out⟩
          case measure=>simp[intOf];omega
    · have e:H=i:=by omega
      subst e;have hq:=HQ.out;rw[← HHe.out,zdU]at hq;obtain⟨gF2,gL2,cF2,cL2,F2,hm2,hD2⟩:=hq;have hb:=HPW.out.heap (fun h=>h) HB.out;have hb2:=hm2.box;rw[HHe.out]at hb2;have hqp:q≠p:=by
        have h1:=HF1.out q ((hD2 q).2 (.inl rfl));have h2:=zl HB.out;omega
      have HM2:=za hm2;have HD2:=za hD2;obtain⟨FL2,hFL2⟩:=zc F2.length;rw[hFL2]at hb2;have HFL2:=za hFL2;have hfin:((wr.setCell ⟨p,0,none⟩ (.slice (some ⟨gF2,0,none⟩) FL2 cF2)).setCell ⟨p,1,none⟩ (.int .i64 M)).setCell ⟨p,2,none⟩ (.slice (some ⟨gL2,0,none⟩) H cL2)=((wr.setCell ⟨p,0,none⟩ (.slice (some ⟨gF2,0,none⟩) FL2 cF2)).setCell ⟨p,1,none⟩ (.int .i64 M)).setCell ⟨p,2,none⟩ (.slice (some ⟨gL2,0,none⟩) H cL2):=rfl;have HBr:=za hb;clear hm2 hD2 hFL2 hfin hi hlt;obtain⟨hb_0,hb_1,hb_2,hb_f,hb_l,H_hb⟩:=cr3 hb;clear hb;obtain⟨hb2_0,hb2_1,hb2_2,hb2_f,hb2_l,H_hb2⟩:=cr3 hb2;clear hb2;go_wp2;have hm:=(((Mod.refl (fun k=>k=p) wr).setCell (p:=⟨p,0,none⟩) (fun _=>rfl) (.slice (some ⟨gF2,0,none⟩) FL2 cF2)).setCell (p:=⟨p,1,none⟩) (fun _=>rfl) (.int .i64 M)).setCell (p:=⟨p,2,none⟩) (fun _=>rfl) (.slice (some ⟨gL2,0,none⟩) H cL2);have hbx:=zb4 (v0 := .slice (some ⟨gF2,0,none⟩) FL2 cF2) (v1 := .int .i64 M) (v2 := .slice (some ⟨gL2,0,none⟩) H cL2) HBr.out;have hpp:p<w.heap.size:=zl HB.out;have h1:=HF1.out gF2 ((HD2.out gF2).2 (.inr (.inl rfl)));have h2:=HF1.out gL2 ((HD2.out gL2).2 (.inr (.inr rfl)));go_ret;refine⟨rfl,⟨fun k=>k=p∨k=gF2∨k=gL2,⟨gF2,gL2,cF2,cL2,F2,⟨?_,hm.heap (fun e=>by omega) HM2.out.fld,hm.heap (fun e=>by omega) HM2.out.len,HM2.out.ok,HM2.out.n1,HM2.out.nm,HM2.out.hm⟩,fun k=>vg⟩,fun k hk => ?_⟩,(Mod.of_pure HPW.out).trans hm⟩
      · rw[HFL2.out,HHe.out];exact hbx
      · rcases hk with rfl | rfl | rfl
        · exact .inl rfl
        · exact .inr h1
        · exact .inr h2
end
def xt(w:World):Prop:=TabAt 0 Lib.deBruijn64tab w
theorem xt.mod{S:Nat→Prop}{w w':World}(h:xt w)(hm:Mod S w w')(h0 : ¬ S 0):xt w':=fun j hj=>hm.cell h0 (h j hj)
theorem xt.pure{w w':World}(h:xt w)(hm:zb w w'):xt w':=h.mod hm (fun h=>h)
theorem xt.lt{w:World}(h:xt w):0<w.heap.size:=Yf w _ (h 0 (by decide))
theorem zgk(x k idx:Nat)(w:World)(hx0:((x:Int)==0)=false)
  (key:IntKind.u64.wrap (bits BinOp.and IntKind.u64 (x:Int) (IntKind.u64.wrap (-(x:Int)))*285870213051353865)/288230376151711744=(idx:Int))
  (hi:idx<64) (hk:k<64) (hcell:w.cell? ⟨0,idx,none⟩=some (.int .u8 k)):Calls prog 305 #[.int .u64 x] w fun e w'=>e=.returned (.int .i64 k)∧w=w':=by
 go_enter func305,ntmps305
 go_wp2_with (simp only[key])
 go_ret;exact⟨rfl,rfl⟩
theorem zj1(x:Nat)(hx:x<18446744073709551616)(h0:x≠0)(w:World)(hT:xt w):Calls prog 305 #[.int .u64 x] w fun e w'=>e=.returned (.int .i64 (Lib.ctz 64 x))∧w=w':=by
 obtain⟨hlow,hk⟩:=Lib.lowest_bit 64 x h0 hx;obtain⟨hi,htab⟩:=Lib.deBruijn64_at _ hk;have hcell:=hT _ hi;rw[htab]at hcell;exact zgk x _ _ w (by simp;omega) (tz64_key x _ hx h0 hlow) hi hk hcell
theorem zdK{x:Nat}(hx:x<18446744073709551616)(h0:x≠0):Lib.ctz 64 x<64∧x.testBit (Lib.ctz 64 x)=true ∧ ∀ j,j<Lib.ctz 64 x→x.testBit j=false:=by
 obtain⟨m,hm,hk⟩:=Lib.ctzFrom_spec 64 x (by omega) hx;have e:Lib.ctz 64 x=Lib.ctzFrom 64 x:=by unfold Lib.ctz;rw[zf h0]
 rw[e];generalize Lib.ctzFrom 64 x=c at *;refine⟨hk,?_,fun j hj => ?_⟩
 ·rw[hm,Nat.testBit_two_pow_mul];simp
 ·rw[hm,Nat.testBit_two_pow_mul];simp;omega
def VD(f:Nat→Bool):Value:=match ug f 256 with
 | some b => .tuple #[.int .i64 (b:Nat),.bool true]
 | none => .tuple #[.int .i64 0,.bool false]
section
variable{w w':World}{p q:Nat}{f:Nat→Bool}{many:Int}
theorem zi8(h:w.heap[p]? = some (.cells (whC q f many) 347 (0,0)))(hT:xt w) :
  Calls prog 282 #[mkP p,.int .i64 0] w fun e w'=>e=.returned (VD f)∧w=w':=by
 have HH:=za h;have HT:=za hT;clear h hT;go_enter func282,ntmps282;go_upto_region 3 with fail
 go_loop [6,7] (fun v6 v7 => ∃ k:Nat,v6=.int .u64 18446744073709551615∧v7=.int .i64 k∧k≤4 ∧ ∀ i,i<k→zE f i=0) (fun _ v7=>4-(intOf v7).toNat)
 case atStart=>exact⟨0,rfl,rfl,by omega,fun i hi=>by omega⟩
 case round =>
  obtain⟨k,rfl,rfl,hk,hz⟩:=hrel;have HZ:=za hz;clear hz;by_cases hlt:k<4
  ·have hlt':(k:Int)<4:=by omega
   have k0:(0:Int)≤(k:Int):=by omega
   have wi:IntKind.i64.wrap ((k:Int)+1)=(k:Int)+1:=zo _ (by omega);have dk:decide (k<4)=true:=zK hlt;have c0:w.cell? ⟨p,1+k,none⟩=some (.int .u64 (zE f k:Nat)):=by rw[zj w p _ _ _ (0,0) HH.out];exact K7 hlt
   have hwl:=ZX f k;have hand:=Yw (zE f k) 18446744073709551615 hwl (by decide);have hand2:zE f k &&& 18446744073709551615=zE f k:=by
    have:(18446744073709551615:Nat)=2 ^ 64-1:=rfl;rw[this,Vm];exact xB hwl
   rw[hand2]at hand;obtain⟨x,hx⟩:=zc (zE f k);rw[hx]at c0 hwl hand;have HX:=za hx;rw[show((18446744073709551615:Nat):Int)=18446744073709551615 by decide]at hand;clear hx hand2;by_cases hx0:x=0
   ·have HX0:=za hx0;have e0:((x:Int)==0)=true:=by simp;omega
    have e1:((x:Int) != 0)=false:=by simp;omega
    clear hx0;go_wp2
    go_round
    case rel=>exact⟨k+1,rfl,by go_num,hlt,fun i hi=>by
     by_cases e:i=k
     ·subst e;exact HX.out.trans HX0.out
     ·exact HZ.out i (by omega)⟩
    case measure=>simp[intOf];omega
   ·have HZ4:=za (zj1 x hwl hx0 w HT.out);obtain⟨hc1,hc2,hc3⟩:=zdK hwl hx0;have hfb:ug f 256=some (64*k+Lib.ctz 64 x):=by
     refine zfK (by omega) ?_ (fun j hj => ?_)
     ·rw[← HX.out,kX]at hc2;simp at hc2;rw[← HX.out];exact hc2.2
     ·by_cases c:j/64=k
      ·have:=hc3 (j%64) (by omega);rw[← HX.out,kX]at this;simp at this;have h2:=this (xY _ (by decide));rw[show 64*k+j%64=j by omega]at h2;exact h2
      ·have:=UE.1 (HZ.out (j/64) (by omega)) (j%64) (xY _ (by decide));rw[show 64*(j/64)+j%64=j by omega]at this;exact this
    have HFB:=za hfb;have e0:((x:Int)==0)=false:=by simp;omega
    have e1:((x:Int) != 0)=true:=by simp;omega
    clear hfb hc2 hc3;generalize Lib.ctz 64 x=t at *;have w64:IntKind.i64.wrap (64*(k:Int))=64*(k:Int):=zo _ (by omega);have w65:IntKind.i64.wrap (64*(k:Int)+(t:Int))=64*(k:Int)+(t:Int):=zo _ (by omega)
    go_wp2_with (go_at_call 305;refine HZ4.out.mono ?_;rintro e w' ⟨rfl,rfl⟩)
    go_ret2;exact⟨by unfold VD;rw[HFB.out];rfl,rfl⟩
  ·have hk4:k=4:=by omega
   subst hk4;have hfb:ug f 256=none:=zgU (fun j hj=>by
    have:=UE.1 (HZ.out (j/64) (by omega)) (j%64) (xY _ (by decide));rw[show 64*(j/64)+j%64=j by omega]at this;exact this)
   have HFB:=za hfb;clear hfb;go_wp2;go_ret2;exact⟨by unfold VD;rw[HFB.out];rfl,rfl⟩
end
def neB(Ls:List (List Nat))(b:Nat):Bool:=match Ls[b]? with
 | some (_::_)=>true
 | _=>false
theorem V5{Ls:List (List Nat)}{b:Nat}(hb:b<Ls.length)(l:List Nat):neB (Ls.set b l)=yT (neB Ls) b (!l.isEmpty):=by
 funext x
 unfold neB yT;by_cases e:b=x
 ·subst e;rw[yj hb,zh rfl]
  cases l<;>rfl
 ·rw[yq e,zf (fun c=>e c.symm)]
theorem zgL(H:Nat):neB (List.replicate H [])=fun _=>false:=by
 funext x
 unfold neB;rw[vz];split
 ·rename_i h;split at h<;>cases h
 ·rfl
theorem zf0{f:Nat→Bool}{b:Nat}{v:Bool}(h:f b=v):yT f b v=f:=by
 funext x
 unfold yT;split
 ·rename_i e;rw[e,h]
 ·rfl
def yR(w:World)(D:Nat→Prop)(p:Nat)(Ls:List (List Nat)):Prop :=
 ∃ q many N Dl,w.heap[p]? = some (.cells (whC q (neB Ls) many) 347 (0,0))∧yf w Dl q N Ls∧Ls.length=256 ∧ ∀ k,D k↔(k=p∨Dl k)
theorem yf.types{w:World}{D:Nat→Prop}{p N:Nat}{Ls:List (List Nat)}(h:yf w D p N Ls){k:Nat}(hk:D k){cs:Array Value}{T:TypeId}{fz:Nat × Nat}(e:w.heap[k]? = some (.cells cs T fz)):T=338∨T=342∨T=3:=by
 obtain⟨gF,gL,cF,cL,F,h1,h2⟩:=h;rcases(h2 k).1 hk with rfl | rfl | rfl
 ·have:=e.symm.trans h1.box;injection this with this;injection this with _ this;exact .inl this
 ·have:=e.symm.trans h1.fld;injection this with this;injection this with _ this;exact .inr (.inl this)
 ·have:=e.symm.trans h1.len;injection this with this;injection this with _ this;exact .inr (.inr this)
section
variable{w w':World}{D S:Nat→Prop}{p:Nat}{Ls:List (List Nat)}
theorem yR.frame(h:yR w D p Ls)(hm:Mod S w w')(hd : ∀ k,D k → ¬ S k):yR w' D p Ls:=by
 obtain⟨q,many,N,Dl,h1,h2,h3,h4⟩:=h;exact⟨q,many,N,Dl,hm.heap (hd p ((h4 p).2 (.inl rfl))) h1,h2.frame hm (fun k hk=>hd k ((h4 k).2 (.inr hk))),h3,h4⟩
theorem yR.pure(h:yR w D p Ls)(hm:zb w w'):yR w' D p Ls:=h.frame hm (fun _ _ h=>h)
theorem yR.lt(h:yR w D p Ls){k:Nat}(hk:D k):k<w.heap.size:=by
 obtain⟨q,many,N,Dl,h1,h2,h3,h4⟩:=h;rcases(h4 k).1 hk with rfl | e
 ·exact zl h1
 ·exact h2.lt e
theorem yR.self(h:yR w D p Ls):D p:=by obtain⟨q,many,N,Dl,h1,h2,h3,h4⟩:=h;exact(h4 p).2 (.inl rfl)
theorem yR.len(h:yR w D p Ls):Ls.length=256:=by obtain⟨q,many,N,Dl,h1,h2,h3,h4⟩:=h;exact h3
theorem Xe{q:Nat}{f:Nat→Bool}{many:Int}(h:w.heap[p]? = some (.cells (whC q f many) 347 (0,0))){Dl:Nat→Prop}{q' N:Nat}(hl:yf w Dl q' N Ls) : ¬ Dl p:=fun hd=>by
 rcases hl.types hd h with e | e | e<;>exact absurd e (by decide)
theorem jS{q:Nat}{f:Nat→Bool}{many:Int}(h:w.heap[p]? = some (.cells (whC q f many) 347 (0,0))) :
  w.cell? ⟨p,0,none⟩=some (.pointer (some ⟨q,0,none⟩))∧w.cell? ⟨p,5,none⟩=some (.int .i64 many)∧(∀ i,w.frozen? ⟨p,i,none⟩=false)∧p<w.heap.size :=
 ⟨zj w p 0 _ _ (0,0) h,zj w p 5 _ _ (0,0) h,fun i=>yP w p i _ _ h,zl h⟩
theorem zaW{q:Nat}{f:Nat→Bool}{many:Int}(h:w.heap[p]? = some (.cells (whC q f many) 347 (0,0)))(m2:Int):(w.setCell ⟨p,5,none⟩ (.int .i64 m2)).heap[p]? = some (.cells (whC q f m2) 347 (0,0)):=by
 have arr : ∀(a x0 x1 x2 x3 y z:Value),(#[a,x0,x1,x2,x3,z]:Array Value).setIfInBounds 5 y=#[a,x0,x1,x2,x3,y]:=fun _ _ _ _ _ _ _=>rfl
 have:=zT w p 5 _ _ (.int .i64 m2) h;unfold whC at this ⊢;rw[arr]at this;exact this
theorem Vu(h:yR w D p Ls){s:Nat}(hs:s<4194304){b:Int}(hb0:0≤b)(hb:b<256):Calls prog 281 #[lkP p,.int .u32 s,.int .i64 b] w fun e w'=>e=.returned (.int .i64 0)∧w=w':=by
 obtain⟨q,many,N,Dl,h1,h2,h3,h4⟩:=h;obtain⟨c0,_,_,_⟩:=jS h1;clear h1 h2 h3 h4;have d1:decide ((4194304:Int)≤(s:Int))=false:=zO (by omega);have d1n:decide (4194304≤s)=false:=zO (by omega);have d2:decide (b<0)=false:=zO (by omega);have d3:decide ((256:Int)≤b)=false:=zO (by omega);go_enter func281,ntmps281;go_wp2;go_ret;exact⟨rfl,rfl⟩
theorem ziQ(w:World):Calls prog 183 #[] w fun e w' => ∃ p D,e=.returned (lkP p)∧yR w' D p (List.replicate 256 [])∧zb w w' ∧ ∀ k,D k→w.heap.size≤k:=by
 have HN:=za (UN w (N:=8) (H:=256) (by omega) (by omega) (by omega) (by omega));have hwd : ∀ k,zE (fun _=>false) k=0:=fun k=>UE.2 (fun _ _=>rfl)
 have HWD:=za hwd;clear hwd;go_enter func183,ntmps183
 go_wp2_with (go_at_call 180;refine HN.out.mono ?_;rintro e w1 ⟨q,D,rfl,hl,hp,hf⟩)
 go_ret;have hal:zb w1 (w1.alloc (.cells #[.pointer (some ⟨q,0,none⟩),.int .u64 0,.int .u64 0,.int .u64 0,.int .u64 0,.int .i64 0] 347)):=(Mod.refl _ w1).alloc _;have hbx:=zi (w:=w1) (o := .cells #[.pointer (some ⟨q,0,none⟩),.int .u64 0,.int .u64 0,.int .u64 0,.int .u64 0,.int .i64 0] 347 (0,0)) rfl;refine⟨w1.heap.size,fun k=>k=w1.heap.size∨D k,rfl,⟨q,0,8,D,?_,hl.pure hal,x9,fun k=>vg⟩,hp.trans hal,fun k hk => ?_⟩
 ·unfold whC;rw[zgL,HWD.out,HWD.out,HWD.out,HWD.out];exact hbx
 ·rcases hk with rfl | hk
  ·exact hp.size
  ·exact hf k hk
end
def xZ(n i:Nat):List Nat:=(List.range n).map (fun j=>if j<i then j else 0)
theorem X6(n i:Nat):(xZ n i).length=n:=by simp[xZ]
theorem Qi(n:Nat):xZ n n=List.range n:=by
 unfold xZ;refine vX (fun j => ?_);rw[yu];by_cases hj:j<n
 ·rw[jb hj];simp[hj]
 ·rw[xu (by simpa using hj)];rfl
theorem zaz{n i:Nat}(hi:i<n):(zW (xZ n i)).set i (.int .u32 (i:Nat))=zW (xZ n (i+1)):=by
 unfold zW xZ;refine vX (fun j => ?_);by_cases e:i=j
 ·subst e;rw[yj (by simpa using hi)];simp[List.getElem?_range hi]
 ·rw[yq e,yu,yu,yu,yu];by_cases hj:j<n
  ·rw[jb hj];have:(j<i)=(j<i+1):=by rw[eq_iff_iff];omega
   simp[this]
  ·rw[xu (by simpa using hj)];rfl
theorem JW(m:Nat):madeCells (Value.int .u32 0).cells (m*1)=(zW (xZ m 0)).toArray:=by
 rw[show(Value.int .u32 0).cells=#[.int .u32 0]from rfl];apply Array.ext_getElem?;intro k;unfold madeCells zW xZ;rw[Array.getElem?_map,show((((List.range m).map (fun j=>if j<0 then j else 0)).map (fun x:Nat=>(Value.int .u32 x))).toArray)[k]? = (((List.range m).map (fun j=>if j<0 then j else 0)).map (fun x:Nat=>(Value.int .u32 x)))[k]? from vf,j3];rw[yu,yu];by_cases hk:k<m
 ·rw[Yk,zh hk,jb hk]
  show some (#[Value.int .u32 0][k%1]!)=_
  rw[Nat.mod_one];rfl
 ·rw[Yk,zf hk,xu (by simpa using hk)];rfl
section
variable{w w':World}{D:Nat→Prop}{p:Nat}{Ls:List (List Nat)}
theorem Azkt7 {P:Prop}(h:P:=by
 have i0:(0:Int)≤(i:Int):=by omega
 have wi:IntKind.i64.wrap ((i:Int)+1)=(i:Int)+1:=zo _ (by omega);have wu:IntKind.u32.wrap (i:Int)=(i:Int):=YX i (by omega);have q0 : ∃ v,wr.cell? ⟨g,i,none⟩=some v:=by
  rw[zj wr g i _ _ (0,0) HRW.out,vf,zQ (by rw[jG,X6];exact hlt2)];exact⟨_,rfl⟩
 obtain⟨v0,q0⟩:=q0;have g0:=yP wr g i _ _ HRW.out;have hX:g<wr.heap.size:=zl HRW.out;have di:decide (i<N)=true:=zK hlt2;have e1:=zT wr g i _ _ (.int .u32 (i:Nat)) HRW.out;rw[jX,zaz hlt2]at e1;have HE1:=za e1;clear e1;go_wp2;go_roundw
 case rel=>exact⟨i+1,by go_num,hlt2,HPU.out.then ((Mod.refl (fun k=>k=g) wr).setCell (p:=⟨g,i,none⟩) (fun _=>rfl) _) (fun k hk e=>by have:=HG.out;omega),HE1.out⟩
 case measure=>simp[intOf];omega):P:=h
theorem Azqx8 {P:Prop}(h:P:=by
 have:=run_make W 172 103 i0 _ underlying172 hi iz0 .i64 .i64 (N:Int) (N:Int) (by omega) (Int.le_refl _) (by rw[iz2];omega) (by omega);rw[iz1,show((N:Int)).toNat=N by omega,JW]at this;exact this):P:=h
theorem Az8wo {P:Prop}(h:P:=by
 have:=zn.of_block (w:=wr) N N 1 HRW.out (by simp[jG,X6]) (by simpa using Vj (xZ N N));simpa[Qi]using this):P:=h
theorem zfb{q N:Nat}{many:Int}{Dl:Nat→Prop}(hb:w.heap[p]? = some (.cells (whC q (neB Ls) many) 347 (0,0)))(hl:yf w Dl q N Ls)(h256:Ls.length=256){s:Nat}(hs:s<4194304) :
  Calls prog 284 #[lkP p,.int .u32 s] w fun e w'=>e=.returned (.tuple #[]) ∧ ∃ N' Dl',yf w' Dl' q N' Ls∧s<N'∧Mod Dl w w' ∧ ∀ k,Dl' k→Dl k∨w.heap.size≤k:=by
 obtain⟨c0,_,_,hlt⟩:=jS hb;obtain⟨l4,l5,l6⟩:=hl.lenH;have HNo:=za (zcv hl);have HL:=za hl;have HNB:Hid (¬ Dl p):=za (Xe hb hl);have HB:=za hb;clear hb hl l4;have wn:IntKind.i64.wrap (s:Int)=(s:Int):=zo _ (by omega);by_cases c:s<N
 ·have d1:decide ((s:Int)<(N:Int))=true:=zK (by omega);have d1n:decide (s<N)=true:=zK c;go_enter func284,ntmps284
  go_wp2_with (go_at_call 275;refine HNo.out.mono ?_;rintro e w' ⟨rfl,rfl⟩)
  exact zM (results_none rfl _ _ _) rfl ⟨rfl,N,Dl,HL.out,c,Mod.refl _ _,fun k hk => .inl hk⟩
 ·have d1:decide ((s:Int)<(N:Int))=false:=zO (by omega);have d1n:decide (s<N)=false:=zO c;obtain⟨i0,hi,iz0,iz1,iz2⟩:=xy jK;have hmk : ∀ W:World,(Instr.makeSlice 172 (.int .i64 (N:Int)) (.int .i64 (N:Int))).run prog W=.ok (.slice (some ⟨W.heap.size,0,none⟩) N N) (W.alloc (.cells (zW (xZ N 0)).toArray 103)):=fun W=>by
   exact Azqx8
  clear hi iz0 iz1 iz2;go_enter func284,ntmps284;go_upto_region 4 with(go_at_call 275;refine HNo.out.mono ?_;rintro e w' ⟨rfl,rfl⟩)
  have hal:zb w (w.alloc (.cells (zW (xZ N 0)).toArray 103)):=(Mod.refl _ w).alloc _;have hr0:=zi (w:=w) (o := .cells (zW (xZ N 0)).toArray 103 (0,0)) rfl;have HAL:=za hal;have HR0:=za hr0;clear hal hr0 hmk;generalize w.alloc (.cells (zW (xZ N 0)).toArray 103)=W1 at *;obtain⟨g,hg⟩:=zc w.heap.size;rw[hg]at HR0 ⊢;have HG:=za hg;clear hg;have hN0:1≤N:=l6;go_loopw [20] (fun v wr => ∃ i,v=.int .i64 (i:Nat)∧i≤N∧zb w wr∧wr.heap[g]? = some (.cells (zW (xZ N i)).toArray 103 (0,0))) (fun v _=>N-(intOf v).toNat)
  case atStart=>exact⟨0,rfl,yk _,HAL.out,HR0.out⟩
  case round =>
   clear HAL HR0;obtain⟨i,rfl,hi,hpu,hrw⟩:=hrel;have HPU:=za hpu;have HRW:=za hrw;clear hpu hrw;by_cases hlt2:i<N
   ·have hlt':(i:Int)<(N:Int):=by omega
    exact Azkt7
   ·have e:N=i:=by omega
    subst e;have hrd:zn wr (.slice (some ⟨g,0,none⟩) N N) 1 (zW (List.range N)):=by
     exact Az8wo
    have hren : ∀ M:Int,(N:Int)≤M→M≤4194304→(s:Int)<M→Calls prog 276 #[lkP q,.slice (some ⟨g,0,none⟩) N N,.int .i64 M] wr fun e w'=>e=.returned (.int .i64 0) ∧ ∃ N' Dl',yf w' Dl' q N' Ls∧s<N'∧Mod Dl w w' ∧ ∀ k,Dl' k→Dl k∨w.heap.size≤k:=fun M h1 h2 h3=>by
     obtain⟨M,rfl⟩:=Int.eq_ofNat_of_zero_le (show 0≤M by omega);refine(Q8 (HL.out.pure HPU.out) (by omega) (some ⟨g,0,none⟩) N hrd (M:=M) (by omega) (by omega)).mono ?_;rintro e w' ⟨he,⟨D',g1,g2⟩,g3⟩;have hq:=HL.out.self;refine⟨he,M,D',g1,by omega,(Mod.of_pure HPU.out).trans (g3.mono (fun k _ hk=>by rw[hk];exact hq)),fun k hk => ?_⟩;rcases g2 k hk with e | e
     ·exact .inl (by rw[e];exact hq)
     ·exact .inr (zJ HPU.out.size e)
    have HRen:=za hren;clear hren;have c0:=HPU.out.cell (fun h=>h) c0;have hlt2:=HPU.out.lt hlt;have w2:IntKind.i64.wrap (2*(N:Int))=2*(N:Int):=zo _ (by omega);have w3:IntKind.i64.wrap ((s:Int)+1)=(s:Int)+1:=zo _ (by omega);clear hrd hi
    go_wp2_with fail
    all_goals
     refine(HRen.out _ (by omega) (by omega) (by omega)).mono ?_;rintro e w5 ⟨rfl,N',Dl',q1,q2,q3,q4⟩;go_wp2
     go_end0
     exact⟨rfl,N',Dl',q1,q2,q3,q4⟩
end
end
section
open Go.RowKit Go.Shelf
structure kw(w:World)(B:Nat)(a:Option Addr)(c:Nat)(l:List Nat):Prop where
 box:w.heap[B]? = some (.cells #[.slice a l.length c] 172 (0,0))
 row:yo w a c l
def qq(B:Nat)(a:Option Addr)(n c:Nat)(k:Nat):Prop:=k=B∨(Value.slice a n c).ownBlock=some k
theorem kw.keeps{w w':World}{B:Nat}{a:Option Addr}{c:Nat}{l:List Nat}(h:kw w B a c l)(hk:yJ (qq B a l.length c) w w'):kw w' B a c l :=
 ⟨(hk.2 B (.inl rfl) (zl h.box)).trans h.box,KJ h.row (fun g hg hlt=>hk.2 g (.inr hg) hlt)⟩
theorem kw.cell{w:World}{B:Nat}{a:Option Addr}{c:Nat}{l:List Nat}(h:kw w B a c l){j x:Nat}(hx:l[j]? = some x) : ∃ g,a=some ⟨g,0,none⟩∧w.cell? ⟨g,j,none⟩=some (.int .u32 x):=by
 have hlt:=(zC.1 hx).1;obtain⟨g,c',hsv,_,hg,hc,hf,_⟩:=kh h.row (by omega)
 cases hsv
 refine⟨g,rfl,hc _ _ ?_⟩;unfold zW;rw[yu,hx]
 rfl
def VV(x:Nat):Array Value:=#[.int .u32 x]
def zaM(J:List Nat→World→Prop)(B:Nat)(a:Option Addr)(c:Nat)(l:List Nat)(k:Value)(wr:World):Prop :=
 ∃ pre post:List Nat,k=.int .i64 (pre.length:Nat)∧l=pre++post∧J pre wr∧kw wr B a c l
theorem zad{w:World}{B:Nat}{a:Option Addr}{c:Nat}{l:List Nat}(h:kw w B a c l)(hl:l.length≤4194304) :
  jf prog 259 #[.pointer (some ⟨B,0,none⟩)] VV (qq B a l.length c) (fun pre x _ => ∃ post,l=pre++x::post) (fun xs=>xs=l) w:=by
 intro lb J Jx W hW hJ hJx hY h0;have hA:=h.keeps (yJ.of_pure hW);have hB:=zj W B 0 _ _ _ hA.box;simp at hB;have HA:=za hA;have HY:=za hY;clear hA hY hJ hJx h hW;refine callsIn_of_wp func259 rfl trivial ?_ rfl;simp only[ntmps259,List.size_toArray,List.length_cons,List.length_nil,Nat.reduceAdd,Nat.reduceSub,Array.replicate_succ,Array.replicate_zero,List.push_toArray,List.append_toArray,List.nil_append,List.cons_append];obtain⟨n,hn⟩:=zc l.length;rw[hn]at hB hl HY;have wn:IntKind.i64.wrap (n:Int)=n:=zo _ (by omega);have HN:=za hn;clear hn;gi_wp2
 gi_loopw [7] (fun k wr=>zaM J B a c l k wr) (fun k _=>n-(intOf k).toNat)
 case atStart=>exact⟨[],l,rfl,rfl,h0,HA.out⟩
 case round =>
  obtain⟨pre,post,rfl,hpp,hJs,hI⟩:=hrel;have hlen:pre.length+post.length=n:=by rw[← HN.out,hpp,zN]
  cases post with
  | nil =>
   have he:pre=l:=by rw[hpp,kQ]
   have HE:=za he;have HJS:=za hJs;have hpn:n=pre.length:=by simpa using hlen.symm
   have d1:decide (pre.length<n)=false:=zO (by omega);have d2:decide ((pre.length:Int)<(n:Int))=false:=zO (by omega);clear hpp hlen he hI hJs hpn;gi_wp2
   go_end0
   exact⟨⟨_,rfl⟩,.inl ⟨pre,HE.out,HJS.out⟩⟩
  | cons x post =>
   obtain⟨g,rfl,hc⟩:=hI.cell (j:=pre.length) (x:=x) (by rw[hpp];simp);obtain⟨fn,tmps,assign,body,hy,hR⟩:=HY.out pre x wr hJs ⟨post,hpp⟩;dsimp only[VV]at hy;have hRR:=za hR;have HL:=za hpp;have HI:=za hI;have hlt:pre.length<n:=by simp at hlen;omega
   obtain⟨j,hj⟩:=zc pre.length;rw[hj]at hc hlt ⊢;have hlt':(j:Int)<(n:Int):=by omega
   have j0:(0:Int)≤(j:Int):=by omega
   have wj:IntKind.i64.wrap ((j:Int)+1)=(j:Int)+1:=zo _ (by omega);have HJ:=za hj;clear hpp hI hR hJs hlen hj;gi_wp2;refine hRR.out.mono ?_;rintro e W' (⟨rfl,hJ',hk⟩ | ⟨rfl,hJx'⟩)
   ·have HJ':=za hJ';have HK:=za (HI.out.keeps (by rw[HN.out];exact hk));clear hJ' hk;gi_wp2;go_roundw
    case rel =>
     unfold zaM;exact⟨pre++[x],post,by rw[zN,HJ.out];go_num,by rw[HL.out];simp,HJ'.out,HK.out⟩
    case measure=>simp[intOf];omega
   ·gi_wp2;exact Azzwy
end
section
open Go.RowKit Go.Shelf
attribute [local go_sem] Oper.semAt_some
def Us(w:World)(l:List Nat)(e:Ending)(w':World):Prop :=
 ∃ B a c,e=.returned (.func (.func 259) #[] #[.pointer (some ⟨B,0,none⟩)])∧kw w' B a c l∧zb w w'
theorem zfV{w:World}{D:Nat→Prop}{p N:Nat}{Ls:List (List Nat)}(h:yf w D p N Ls){k:Nat}{l:List Nat}(hl:Ls[k]? = some l)(hll:l.length≤4194304):Calls prog 211 #[lkP p,.int .i64 k] w (Us w l):=by
  have HA:=za (Ku h hl);obtain⟨n,hn⟩:=zc l.length;rw[hn]at HA hll;have HN:=za hn;clear h hl hn;obtain⟨i0,hi,iz0,iz1,iz2⟩:=xy jK;go_enter func211,ntmps211;go_upto_region 2 with(first
    | (go_at_call 258;refine HA.out.mono ?_;rintro e w1 ⟨a,c,rfl,hrow,hfr,hp1⟩;have hrd:=qm hrow;rw[HN.out]at hrd;have HRD:=za hrd;have HP1:=za hp1;clear hrow hfr hp1 hrd)
    | (at_builtin;refine uE _ rfl _ _ 172 rfl 103 i0 _ 1 4 underlying172 hi iz0 iz1 iz2 rfl (by decide) (.slice none 0 0) 0 [] rfl (vD _ _ _ _) _ (zW l) n rfl HRD.out (by rw[jG,HN.out];omega) (by unfold maxLen;omega) (by omega) ?_;intro a7 c7 w5 hr7 hg7 hb7))
  have hp5:zb w1 w5:=Mod.of_grown hg7 (fun k e _=>by cases e);have hr:=hr7;rw[jJ,Yh]at hr;have hal:zb w5 (w5.alloc (.cells #[.slice a7 n c7] 172)):=(Mod.refl _ w5).alloc _;have hbx:=zi (w:=w5) (o := .cells #[.slice a7 n c7] 172 (0,0)) rfl;have HE:Hid (Us w l (.returned (.func (.func 259) #[] #[.pointer (some ⟨w5.heap.size,0,none⟩)])) (w5.alloc (.cells #[.slice a7 n c7] 172))):=za
    ⟨w5.heap.size,a7,c7,rfl,⟨by rw[HN.out];exact hbx,by unfold yo;rw[HN.out];exact zA hr hal (fun _ _ h=>h)⟩,(HP1.out.trans hp5).trans hal⟩
  clear hr hr7 hg7 hb7 hp5 hal hbx;go_wp2;go_ret;exact HE.out
structure Xg(w:World)(l:List Nat)(pre:List Nat)(W:World):Prop where
 pu:zb w W
 row : ∃ a c,W.heap[w.heap.size]? = some (.cells #[.slice a pre.length c] 172 (0,0))∧yo W a c pre ∧ ∀ g,(Value.slice a pre.length c).ownBlock=some g→w.heap.size<g
theorem Xg.quiet{w A B:World}{l pre:List Nat}{N:Nat}(h:Xg w l pre A)(hN:w.heap.size≤N)(hq:zv N A B):Xg w l pre B:=by
 obtain⟨a,c,h1,h2,h3⟩:=h.row;exact⟨hq.mod h.pu hN,a,c,hq.cells h1,hq.owns h2,h3⟩
def XU(w:World)(l:List Nat)(e:Ending)(w':World):Prop := ∃ a c,e=.returned (.slice a l.length c)∧yo w' a c l∧xh w (.slice a l.length c)∧zb w w'
theorem zf6{w:World}{B:Nat}{a:Option Addr}{c:Nat}{l:List Nat}(h:kw w B a c l)(hl:l.length≤4194304) :
  Calls prog 312 #[.slice none 0 0,.func (.func 259) #[] #[.pointer (some ⟨B,0,none⟩)]] w (XU w l):=by
 have hp1:zb w (w.alloc (.cells #[.slice none 0 0] 172)):=(Mod.refl _ w).alloc _;have hit:=h.keeps (yJ.of_pure hp1);have HIT:=za hit;have hItlt0 : ∀ k,qq B a l.length c k→k<w.heap.size:=by
  rintro k (rfl | h2)
  ·exact zl h.box
  ·exact ua h.row h2
 have hI0:Xg w l [] (w.alloc (.cells #[.slice none 0 0] 172)):=⟨hp1,none,0,zi rfl,vD _ _ _ _,fun g hg=>by cases hg⟩;have hz1:(w.alloc (.cells #[.slice none 0 0] 172)).heap.size=w.heap.size+1:=by simp
 clear h hit hp1;obtain⟨i0,hi,iz0,iz1,iz2⟩:=xy jK;have HLL:=za hl;clear hl
 (refine(yl (n:=0)).1 (callsIn_of_wp_marks func312 rfl trivial (vW.2 ?_) rfl);simp only[ntmps312,List.size_toArray,List.length_cons,List.length_nil,Nat.reduceAdd,Nat.reduceSub,Array.replicate_succ,Array.replicate_zero,List.push_toArray,List.append_toArray,List.nil_append,List.cons_append])
 go_upto_region 1 with fail
 generalize w.alloc (.cells #[.slice none 0 0] 172)=W1 at *;have HI0:=za hI0;have HZ1:=za hz1;clear hI0 hz1;have hItlt : ∀ k,qq B a l.length c k→k<W1.heap.size:=fun k hk=>by have:=hItlt0 k hk;have:=HZ1.out;omega
 have HIL:=za hItlt0;clear hItlt0;generalize hItd:qq B a l.length c=It at *;go_wp2;refine vW.1 (ZC (gf:=259) (lb:=#[.pointer (some ⟨B,0,none⟩)]) rfl (enters_of func259 (by kernel_rfl) rfl) (It:=It) (hItd ▸ zad HIT.out HLL.out) hItlt (fun _=>rfl)
  (fun pre W=>Xg w l pre W) (fun _ _ _=>False) ?hI ?hIx HI0.out ?round ?done ?stop)
 case hI=>exact fun pre A B h hq=>h.quiet (by have:=HZ1.out;omega) hq
 case hIx=>exact fun _ _ _ _ h _=>h
 case stop=>exact fun _ _ _ _ _ h _=>h.elim
 case done =>
  rintro lb xs W hlb hS hI hK;have hS':xs=l:=hS;subst hS';obtain⟨a2,c2,h1,h2,h3⟩:=hI.row;have HI:=za hI;have H2:=za h2;have H3:=za h3;have hq:zv W1.heap.size _ _:=zv.putObj (.deferred none) hlb hK rfl;clear hI hS h2 h3 hItlt hItd;obtain⟨n,hn⟩:=zc xs.length;rw[hn]at h1;have HN:=za hn;clear hn;obtain⟨h1_0,h1_f,h1_l,H_h1⟩:=cr1 h1;clear h1;go_wp2;exact jZ (v := .slice a2 n c2) hK (by simp[results,results312,go_sem]) ⟨a2,c2,by rw[HN.out],hq.owns H2.out,fun g hg=>qI (H3.out g hg),hq.mod HI.out.pu (by have:=HZ1.out;omega)⟩
 case round =>
  rintro lb pre x W K hI ⟨post,hpost⟩ hK;dsimp only[VV];have hpl:pre.length<4194304:=by have:=HLL.out;rw[hpost]at this;simp at this;omega
  have HCI:=za hI;have HK:=za hK;clear hI hK hItlt hpost hItd;gi_wp2;refine HK.out _ _ (Mod.refl _ _) (fun l' W2 hl2 hr2 hq2 => ?_);have hI2:=HCI.out.quiet (by have:=HZ1.out;omega) hq2;obtain⟨a2,c2,h1,h2,h3⟩:=hI2.row;have HI2:=za hI2;have HR2:=za h2;have HF2:=za h3;have HW2:Hid (w.heap.size<W2.heap.size):=za (zl h1);clear hI2 h2 h3 HK HCI;obtain⟨j,hj⟩:=zc pre.length;rw[hj]at h1 HF2 hpl;have hrr:W2.ownsRow 0 103 1 (.slice a2 j c2) j (zW pre):=by rw[← hj];exact HR2.out
  have HRR:=za hrr;have HJ:=za hj;clear hrr hj;obtain⟨b2,hb2⟩:=zc w.heap.size;rw[hb2]at h1 HF2 HW2 HIL HZ1 ⊢;have HB2:=za hb2;clear hb2;have h1b:=h1;have H1:=za h1b;clear h1b;obtain⟨h1_0,h1_f,h1_l,H_h1⟩:=cr1 h1;clear h1
  gi_wp2_with (gi_at_builtin;refine zao _ rfl _ _ 172 rfl 103 i0 (.int .u32 0) 1 4 underlying172 hi iz0 iz1 iz2 rfl (by decide) (.slice a2 j c2) j _ rfl (zA HRR.out ((Mod.refl (fun _=>False) W2).alloc _) (fun _ _ h=>h)) _ [.int .u32 x] 1 rfl (zn.of_block 1 1 1 (zi rfl) (by rfl) (by simp[Value.oneCell'])) rfl (by unfold maxLen;omega) (by omega) ?_;intro a7 c7 w5 hr7 hg7 hb7;have M7:=za (Mod.heap (Mod.of_grown (S:=fun k=>(Value.slice a2 j c2).ownBlock=some k) hg7 (fun k e _=>e)) (fun e=>by have:=HF2.out _ e;omega) (zL H1.out));have m7:=zj w5 _ 0 _ _ _ M7.out;have fr7:=(fun j=>yP w5 _ j _ _ M7.out);have hlt5:=zl M7.out)
  have hM:Mod (fun k=>(Value.slice a2 j c2).ownBlock=some k∨k=b2) W2 (w5.setCell ⟨b2,0,none⟩ (.slice a7 (j+1) c7)) :=
   (((Mod.refl _ W2).alloc (.cells #[.int .u32 x] 103)).then (Mod.of_grown (S:=fun k=>(Value.slice a2 j c2).ownBlock=some k) hg7 (fun k e _=>e)) (fun _ _ h => .inl h)).setCell (fun _ => .inr rfl) _
  have h7 : ∀ g,(Value.slice a7 (j+1) c7).ownBlock=some g→b2<g:=fun g hg=>by
   rcases hb7 with e | e
   ·exact HF2.out g (e ▸ hg)
   ·rw[e]at hg;have hg2:(W2.alloc (.cells #[.int .u32 x] 103)).heap.size=g:=by injection hg
    have:=HW2.out;simp at hg2;omega
  refine⟨yY.of_mod hM (fun k _ h o ho => ?_),yJ.of_mod hM (fun k hk h => ?_),⟨HI2.out.pu.then hM (fun k hk h => ?_),a7,c7,?_,?_,?_⟩⟩
  ·rcases h with h | rfl
   ·obtain⟨cur,e⟩:=ym HRR.out h;rw[e]at ho;cases ho;rfl
   ·rw[H1.out]at ho;cases ho;rfl
  ·have:=HIL.out k hk;rcases h with h | h
   ·have:=HF2.out k h;omega
   ·omega
  ·have:=HB2.out;rcases h with h | h
   ·have:=HF2.out k h;omega
   ·omega
  ·rw[HB2.out,zN,HJ.out];simpa using zT w5 b2 0 _ _ (.slice a7 (j+1) c7) M7.out
  ·unfold yo;rw[zN,HJ.out,qt];exact zA hr7 ((Mod.refl (fun k=>k=b2) w5).setCell (fun _=>rfl) _) (fun g hg e=>by have:=h7 g hg;omega)
  ·rw[HB2.out,zN,HJ.out];exact h7
theorem zdM{w:World}{B:Nat}{a:Option Addr}{c:Nat}{l:List Nat}(h:kw w B a c l)(hl:l.length≤4194304) :
  Calls prog 306 #[.func (.func 259) #[] #[.pointer (some ⟨B,0,none⟩)]] w (XU w l):=by
 have HA:=za (zf6 h hl);obtain⟨n,hn⟩:=zc l.length;unfold XU at HA;rw[hn]at HA;have HN:=za hn;clear h hl hn;go_enter func306,ntmps306
 go_wp2_with (go_at_call 312;refine HA.out.mono ?_;rintro e w1 ⟨a2,c2,rfl,h1,h2,h3⟩)
 go_ret;exact⟨a2,c2,by rw[HN.out];rfl,h1,by rw[HN.out];exact h2,h3⟩
end
section
open Go.RowKit
def plN(pl:Nat→Nat)(n x:Nat):Nat→Nat:=fun k=>if k=n then x else pl k
def kn(p:Nat)(f:Nat→Bool)(pl:Nat→Nat):Array Value:=⟨lkP p :: .int .u64 (zE f 0:Nat)::(List.range 64).map fun k => .int .u64 (pl k:Nat)⟩
section
variable{p:Nat}{f g:Nat→Bool}{pl:Nat→Nat}
theorem zid:(kn p f pl)[0]? = some (lkP p):=rfl
theorem zjD:(kn p f pl)[1]? = some (.int .u64 (zE f 0:Nat)):=rfl
theorem zhl{n:Nat}(hn:n<64):(kn p f pl)[2+n]? = some (.int .u64 (pl n:Nat)):=by
 unfold kn;rw[vf,show 2+n=n+1+1 by omega,Zz,Zz,yu,jb hn]
 rfl
theorem U9{n x:Nat}:(kn p f pl).setIfInBounds (2+n) (.int .u64 (x:Nat))=kn p f (plN pl n x):=by
 unfold kn;rw[jX,show 2+n=n+1+1 by omega,jH,jH]
 congr 3
 apply vX;intro k;rw[Z5,yu,yu];by_cases hk:k<64
 ·rw[jb hk];by_cases e:n=k
  ·subst e;simp[plN,hk]
  ·rw[zf e];have e2 : ¬ k=n:=fun h=>e h.symm
   simp[plN,e2]
 ·have h1:(List.range 64)[k]? = none:=by simp;omega
  rw[h1];by_cases e:n=k
  ·subst e;simp[hk]
  ·rw[zf e];rfl
theorem QU{m:Nat}(h:m=zE g 0):(kn p f pl).setIfInBounds 1 (.int .u64 (m:Nat))=kn p g pl:=by
 unfold kn;rw[h,jX];generalize zE g 0=a;generalize zE f 0=b;generalize List.map _ _=l
 rfl
def vq(f:Nat→Bool)(n:Int):Bool:=decide (0≤n)&&decide (n<64)&&f n.toNat
theorem qK{n:Nat}(hn:n<64):vq f (n:Int)=f n:=by
 unfold vq;have h1:(0:Int)≤(n:Int):=by omega
 have h2:(n:Int)<64:=by omega
 simp[h1,h2]
theorem zkm(f:Nat→Bool){n:Nat}(hn:n<64):(zE f 0/2 ^ n) &&& 1=if f n then 1 else 0:=by
 have h:=kX f 0 n;rw[Nat.testBit_eq_decide_div_mod_eq]at h;rw[Nat.and_one_is_mod];have h2:decide (n<64)=true:=zK hn;rw[h2,Bool.true_and,Nat.mul_zero,jJ]at h;have h3:=Nat.mod_two_eq_zero_or_one (zE f 0/2 ^ n)
 cases hf:f n with
 | true=>rw[hf]at h;simpa using h
 | false =>
  rw[hf]at h;simp at h;simpa using h
def ZT(f:Nat→Bool):Nat:=((List.range 64).find? (fun n => !f n)).getD 64
theorem JB{n:Nat}(hn:n≤64)(h1 : ∀ j,j<n→f j=true)(h2:n<64→f n=false):ZT f=n:=by
 unfold ZT;by_cases e:n<64
 ·have:(List.range 64).find? (fun n => !f n)=some n:=by
   rw[List.find?_range_eq_some];exact⟨by rw[h2 e];rfl,j5.2 e,fun j hj=>by rw[h1 j hj];decide⟩
  rw[this];rfl
 ·have:(List.range 64).find? (fun n => !f n)=none:=by
   rw[kY];intro x hx;rw[h1 x (by have:=j5.1 hx;omega)];decide
  rw[this]
  show 64=n
  omega
def qL(f:Nat→Bool):List Nat:=(List.range 64).filter f
theorem zeF(f:Nat→Bool):(qL f).length≤64:=by
 have:=List.length_filter_le f (List.range 64);rw[List.length_range]at this;exact this
def Zn(f:Nat→Bool)(n:Nat):List Nat:=(List.range n).filter f
theorem zch(f:Nat→Bool)(n:Nat):Zn f (n+1)=if f n then Zn f n++[n]else Zn f n:=by
 unfold Zn;rw[List.range_succ,qY]
 cases hf:f n<;>simp[hf]
end
section
variable{w w':World}{q p:Nat}{f:Nat→Bool}{pl:Nat→Nat}
def yD(w:World)(q p:Nat)(f:Nat→Bool)(pl:Nat→Nat):Prop:=w.heap[q]? = some (.cells (kn p f pl) 41 (0,0))
theorem yD.c0(h:yD w q p f pl):w.cell? ⟨q,0,none⟩=some (lkP p):=by rw[zj w q _ _ _ (0,0) h];exact zid
theorem yD.c1(h:yD w q p f pl):w.cell? ⟨q,1,none⟩=some (.int .u64 (zE f 0:Nat)):=by rw[zj w q _ _ _ (0,0) h];exact zjD
theorem yD.c2(h:yD w q p f pl){n:Nat}(hn:n<64):w.cell? ⟨q,2+n,none⟩=some (.int .u64 (pl n:Nat)):=by rw[zj w q _ _ _ (0,0) h];exact zhl hn
theorem yD.fr(h:yD w q p f pl)(j:Nat):w.frozen? ⟨q,j,none⟩=false:=yP w q j _ _ h
theorem yD.lt(h:yD w q p f pl):q<w.heap.size:=zl h
theorem Vr(f:Nat→Bool)(n:Int)(w:World):Calls prog 42 #[.int .u64 (zE f 0:Nat),.int .i64 n] w fun e w'=>e=.returned (.bool (vq f n))∧w=w':=by
 by_cases h0:0≤n
 ·obtain⟨k,rfl⟩ : ∃ k:Nat,n=(k:Int):=⟨n.toNat,by omega⟩;by_cases h1:k<64
  ·have l1:(k:Int)<64:=by omega
   have hwl:=ZX f 0;have hq:zE f 0/2 ^ k<18446744073709551616:=kG (Zk _ _) hwl;have hand:bits .and .u64 ((zE f 0:Int)/(2:Int) ^ k) 1=((if f k then 1 else 0:Nat):Int):=by
    have:=Yw (zE f 0/2 ^ k) 1 hq (by decide);rw[zkm f h1]at this;rw[← this];simp
   rw[qK h1];generalize zE f 0=m at *;obtain⟨v,hv⟩:=zc (f k);rw[hv]at hand ⊢;clear hv hq hwl;go_enter func42,ntmps42;go_wp2
   cases v
   all_goals(go_ret;exact⟨rfl,rfl⟩)
  ·have l1 : ¬ (k:Int)<64:=by omega
   have hh:vq f (k:Int)=false:=by unfold vq;simp;omega
   rw[hh];go_enter func42,ntmps42;go_wp2;go_ret;exact⟨rfl,rfl⟩
 ·have hh:vq f n=false:=by unfold vq;simp;omega
  rw[hh];go_enter func42,ntmps42;go_wp2;go_ret;exact⟨rfl,rfl⟩
theorem Azwqb {P:Prop}(h:P:=by
 go_wp2_with (go_at_call 42;refine HHk.out.mono ?_;rintro e w' ⟨rfl,rfl⟩)
 go_ret;exact⟨by rw[HE.out];rfl,rfl⟩):P:=h
theorem zhp(f:Nat→Bool)(w:World):Calls prog 41 #[.int .u64 (zE f 0:Nat)] w fun e w'=>e=.returned (.int .i64 (ZT f:Nat))∧w=w':=by
 have HH:=za (fun n:Int=>Vr f n w);go_enter func41,ntmps41;go_upto_region 2 with fail
 go_loop [3] (fun v => ∃ k:Nat,v=.int .i64 k∧k≤64 ∧ ∀ j,j<k→f j=true) (fun v=>64-(intOf v).toNat)
 case atStart=>exact⟨0,rfl,by omega,fun i hi=>by omega⟩
 case round =>
  obtain⟨k,rfl,hk,hz⟩:=hrel;have HZ:=za hz;clear hz;have wi:IntKind.i64.wrap ((k:Int)+1)=(k:Int)+1:=zo _ (by omega);by_cases hlt:k<64
  ·cases hf:f k with
   | true =>
    have hh:vq f (k:Int)=true:=by rw[qK hlt];exact hf
    have HHk:=za (HH.out (k:Int));rw[hh]at HHk
    go_wp2_with (go_at_call 42;refine HHk.out.mono ?_;rintro e w' ⟨rfl,rfl⟩)
    go_round
    case rel=>exact⟨k+1,by first | rfl | simp,hlt,fun j hj=>(Nat.lt_or_ge j k).elim (HZ.out j) (fun c=>by have:j=k:=(by omega);subst this;exact hf)⟩
    case measure=>simp[intOf];omega
   | false =>
    have hh:vq f (k:Int)=false:=by rw[qK hlt];exact hf
    have HHk:=za (HH.out (k:Int));rw[hh]at HHk;have HE:=za (JB hk HZ.out (fun _=>hf));exact Azwqb
  ·have hh:vq f (k:Int)=false:=by unfold vq;simp;omega
   have HHk:=za (HH.out (k:Int));rw[hh]at HHk;have HE:=za (JB hk HZ.out (fun e=>absurd e hlt));exact Azwqb
theorem Az7nw {P:Prop}(h:P:=by
 go_enter func25,ntmps25;go_wp2;go_ret;exact⟨rfl,rfl⟩):P:=h
theorem Xp(h:yD w q p f pl):Calls prog 25 #[lkP q] w fun e w'=>e=.returned (.bool false)∧w=w':=by
 have c0:=h.c0;have cf:=h.fr;have cl:=h.lt;clear h;exact Az7nw
theorem Aznns {P:Prop}(h:P:=by
 go_wp2_with (go_at_call 25;refine HN.out.mono ?_;rintro e w' ⟨rfl,rfl⟩)
 go_ret;exact⟨rfl,rfl⟩):P:=h
theorem zhH(h:yD w q p f pl):Calls prog 11 #[lkP q] w fun e w'=>e=.returned (lkP p)∧w=w':=by
 have HN:=za (Xp h);have c0:=h.c0;have cf:=h.fr;have cl:=h.lt;clear h;go_enter func11,ntmps11;exact Aznns
theorem Az4p1 {P:Prop}(h:P:=by
 have HN:=za (Xp h);have HH:=za (Vr f n w);rw[hf]at HH;have c1:=h.c1;have cf:=h.fr;have cl:=h.lt;clear h hf;generalize zE f 0=m at *;go_enter func24,ntmps24
 go_wp2_with (first
   | (go_at_call 25;refine HN.out.mono ?_;rintro e w' ⟨rfl,rfl⟩)
   | (go_at_call 42;refine HH.out.mono ?_;rintro e w' ⟨rfl,rfl⟩))
 go_ret;exact⟨rfl,rfl⟩):P:=h
theorem VH(h:yD w q p f pl){n:Int}(hf:vq f n=true):Calls prog 24 #[lkP q,.int .i64 n] w fun e w'=>e=.returned (.int .i64 0)∧w=w':=by
  exact Az4p1
theorem Ug(h:yD w q p f pl){n:Int}(hf:vq f n=false):Calls prog 24 #[lkP q,.int .i64 n] w fun e w'=>e=.returned (.int .i64 9)∧w=w':=by
  exact Az4p1
theorem Azjdj {P:Prop}(h:P:=by
 go_enter func30,ntmps30
 go_wp2_with (go_at_call 24;refine HC.out.mono ?_;rintro e w' ⟨rfl,rfl⟩)
 go_ret2;exact⟨rfl,rfl⟩):P:=h
theorem zjR(h:yD w q p f pl){n:Nat}(hn:n<64)(hf:f n=true):Calls prog 30 #[lkP q,.int .i64 (n:Nat)] w fun e w'=>e=.returned (.tuple #[.int .u64 (pl n:Nat),.int .i64 0])∧w=w':=by
 have HC:=za (VH h (n:=(n:Int)) (by rw[qK hn];exact hf));have c2:=h.c2 hn;have cf:=h.fr;have cl:=h.lt;have n0:(0:Int)≤(n:Int):=by omega
 have n1:(n:Int)<64:=by omega
 clear h hf;exact Azjdj
theorem zdP(h:yD w q p f pl){n b:Nat}(hn:n<64)(hf:f n=true):Calls prog 13 #[lkP q,.int .i64 (n:Nat),.int .u64 (b:Nat)] w fun e w'=>e=.returned (.int .i64 0)∧yD w' q p f (plN pl n b)∧Mod (fun k=>k=q) w w':=by
 have HC:=za (VH h (n:=(n:Int)) (by rw[qK hn];exact hf));have c2:=h.c2 hn;have cf:=h.fr;have cl:=h.lt;have n0:(0:Int)≤(n:Int):=by omega
 have n1:(n:Int)<64:=by omega
 have e1:=zT w q (2+n) _ _ (.int .u64 (b:Nat)) h;have e2:=(Mod.refl (fun k=>k=q) w).setCell (p:=⟨q,2+n,none⟩) (fun _=>rfl) (.int .u64 (b:Nat));rw[U9]at e1;have E1:=za e1;have E2:=za e2;clear h hf e1 e2;go_enter func13,ntmps13
 go_wp2_with (go_at_call 24;refine HC.out.mono ?_;rintro e w' ⟨rfl,rfl⟩)
 go_ret;exact⟨rfl,E1.out,E2.out⟩
theorem Azujo {P:Prop}(h:P:=by
 go_wp2_with (go_at_call 24;refine HC.out.mono ?_;rintro e w' ⟨rfl,rfl⟩)
 go_ret;exact⟨rfl,rfl⟩):P:=h
theorem zeI(h:yD w q p f pl){n:Int}{b:Int}(hf:vq f n=false):Calls prog 13 #[lkP q,.int .i64 n,.int .u64 b] w fun e w'=>e=.returned (.int .i64 9)∧w=w':=by
 have HC:=za (Ug h hf);clear h hf;go_enter func13,ntmps13;exact Azujo
theorem zfT(h:yD w q p f pl){n:Int}(hf:vq f n=false):Calls prog 9 #[lkP q,.int .i64 n] w fun e w'=>e=.returned (.int .i64 9)∧w=w':=by
 have HC:=za (Ug h hf);clear h hf;go_enter func9,ntmps9;exact Azujo
end
section
variable{w w':World}{q p:Nat}{f:Nat→Bool}{pl:Nat→Nat}
theorem zbO{n:Nat}(hn:n<64):2 ^ n<18446744073709551616:=Nat.pow_lt_pow_right (a:=2) (by decide) (show n<64 by omega)
theorem ze4{n:Nat}(hn:n<64):zE f 0 ||| 2 ^ n=zE (yT f n true) 0:=by
 have:=Js (f:=f) (b:=n)
 rwa [xB hn,Nat.div_eq_of_lt hn]at this
theorem zea{n:Nat}(hn:n<64):zE f 0 &&& (18446744073709551615-2 ^ n)=zE (yT f n false) 0:=by
 have:=zbK (f:=f) (b:=n)
 rwa [xB hn,Nat.div_eq_of_lt hn]at this
theorem zjY(h:yD w q p f pl){n:Nat}(hn:n<64)(hf:f n=true):Calls prog 9 #[lkP q,.int .i64 (n:Nat)] w fun e w'=>e=.returned (.int .i64 0)∧yD w' q p (yT f n false) pl∧Mod (fun k=>k=q) w w':=by
 have HC:=za (VH h (n:=(n:Int)) (by rw[qK hn];exact hf));have c1:=h.c1;have cf:=h.fr;have cl:=h.lt;have n0:(0:Int)≤(n:Int):=by omega
 have n1:(n:Int)<64:=by omega
 have hwl:=ZX f 0;have hpl:=zbO hn;have hc2:((2 ^ n:Nat):Int)=(2:Int) ^ n:=by simp
 have hw2:=vJ (2 ^ n) hpl;rw[hc2]at hw2;have hor:=Vo (zE f 0) (2 ^ n) _ hwl hpl rfl;rw[hc2]at hor;have e1:=zT w q 1 _ _ (.int .u64 ((zE f 0 &&& (18446744073709551615-2 ^ n):Nat):Int)) h;have e2:=((Mod.refl (fun k=>k=q) w).setCell (p:=⟨q,1,none⟩) (fun _=>rfl) (.int .u64 ((zE f 0 &&& (18446744073709551615-2 ^ n):Nat):Int))).drew;rw[QU (zea hn)]at e1;have E1:=za e1;have E2:=za e2;clear h hf e1 e2 hc2 hwl hpl;generalize zE f 0=m at *;go_enter func9,ntmps9;go_upto_region 4 with(go_at_call 24;refine HC.out.mono ?_;rintro e w' ⟨rfl,rfl⟩)
 go_region
 go_wp2;go_ret;exact⟨rfl,E1.out,E2.out⟩
theorem zcK(h:yD w q p f pl){n:Nat}(hfr:ZT f=n)(hn:n<64):Calls prog 23 #[lkP q] w fun e w'=>e=.returned (.tuple #[.int .i64 (n:Nat),.int .i64 0])∧yD w' q p (yT f n true) (plN pl n 0)∧Mod (fun k=>k=q) w w':=by
  have HN:=za (Xp h);have HF:=za (zhp f w);rw[hfr]at HF;have c1:=h.c1;have cf:=h.fr;have cl:=h.lt;have n0:(0:Int)≤(n:Int):=by omega
  have n1:(n:Int)<64:=by omega
  have n2:((n:Int)==64)=false:=by simp;omega
  have hwl:=ZX f 0;have hpl:=zbO hn;have hc2:((2 ^ n:Nat):Int)=(2:Int) ^ n:=by simp
  have hw2:=vJ (2 ^ n) hpl;rw[hc2]at hw2;have hor:=Xh (zE f 0) (2 ^ n) hwl hpl;rw[hc2]at hor;have e1:=zT w q 1 _ _ (.int .u64 ((zE f 0 ||| 2 ^ n:Nat):Int)) h;have e2:=((Mod.refl (fun k=>k=q) w).setCell (p:=⟨q,1,none⟩) (fun _=>rfl) (.int .u64 ((zE f 0 ||| 2 ^ n:Nat):Int))).drew;rw[QU (ze4 hn)]at e1;have e3:yD ((w.setCell ⟨q,1,none⟩ (.int .u64 ((zE f 0 ||| 2 ^ n:Nat):Int))).drew) q p (yT f n true) pl:=e1;have E1:=za e3;have E2:=za e2;clear h e1 e2 e3 hc2 hwl hpl hfr;generalize zE f 0=m at *;go_enter func23,ntmps23;go_upto_region 6 with(first
    | (go_at_call 25;refine HN.out.mono ?_;rintro e w' ⟨rfl,rfl⟩)
    | (go_at_call 41;refine HF.out.mono ?_;rintro e w' ⟨rfl,rfl⟩))
  go_region
  have hw:=E1.out;generalize(w.setCell ⟨q,1,none⟩ (.int .u64 ((m ||| 2 ^ n:Nat):Int))).drew=W at *;have d2:=hw.c2 hn;have df:=hw.fr;have dl:=hw.lt;have e1:=zT W q (2+n) _ _ (.int .u64 ((0:Nat):Int)) hw;have e2:=E2.out.setCell (p:=⟨q,2+n,none⟩) (fun _=>rfl) (.int .u64 ((0:Nat):Int));rw[U9]at e1;have E3:=za e1;have E4:=za e2;clear hw e1 e2 c1 cf cl;go_wp2;go_ret2;exact⟨rfl,E3.out,E4.out⟩
theorem zlJ(h:yD w q p f pl)(hfr:ZT f=64):Calls prog 23 #[lkP q] w fun e w'=>e=.returned (.tuple #[.int .i64 0,.int .i64 7])∧w=w':=by
  have HN:=za (Xp h);have HF:=za (zhp f w);rw[hfr]at HF;have c1:=h.c1;have cf:=h.fr;have cl:=h.lt;clear h hfr;generalize zE f 0=m at *;go_enter func23,ntmps23
  go_wp2_with (first
    | (go_at_call 25;refine HN.out.mono ?_;rintro e w' ⟨rfl,rfl⟩)
    | (go_at_call 41;refine HF.out.mono ?_;rintro e w' ⟨rfl,rfl⟩))
  go_ret2;exact⟨rfl,rfl⟩
end
end
section
open Go.RowKit Go.Shelf
attribute [local go_sem] Oper.semAt_some
abbrev J8(n:Nat):Array Value:=#[.int .i64 (n:Nat)]
def vI(l:List Nat):List Value:=l.map fun n => .int .i64 (n:Nat)
theorem zcJ(l:List Nat) : ∀ v∈vI l,v.oneCell'=true:=fun v hv=>by
 unfold vI at hv;obtain⟨n,_,rfl⟩:=zD.1 hv
 rfl
def zcV(J:List Nat→World→Prop)(B:Nat)(f:Nat→Bool)(k:Value)(wr:World):Prop :=
 ∃ n:Nat,n≤64∧k=.int .i64 (n:Nat)∧J (Zn f n) wr∧wr.heap[B]? = some (.cells #[.int .u64 (zE f 0:Nat)] 38 (0,0))
theorem zil{w:World}{B:Nat}{f:Nat→Bool}(h:w.heap[B]? = some (.cells #[.int .u64 (zE f 0:Nat)] 38 (0,0))) :
  jf prog 44 #[.pointer (some ⟨B,0,none⟩)] J8 (fun k=>k=B) (fun pre x _=>x<64∧pre=Zn f x) (fun xs=>xs=qL f) w:=by
 intro l J Jx W hW hJ hJx hY h0;have hB:=hW.heap (fun h=>h) h;have HB:=za hB;have HY:=za hY;have HJ:=za hJ;clear hB hY hJ hJx h hW;refine callsIn_of_wp func44 rfl trivial ?_ rfl;simp only[ntmps44,List.size_toArray,List.length_cons,List.length_nil,Nat.reduceAdd,Nat.reduceSub,Array.replicate_succ,Array.replicate_zero,List.push_toArray,List.append_toArray,List.nil_append,List.cons_append];gi_wp2
 gi_loopw [3,4] (fun i k wr=>zcV J B f k wr) (fun _ k _=>64-(intOf k).toNat)
 case atStart=>exact⟨0,by omega,rfl,h0,HB.out⟩
 case round =>
  obtain⟨n,hn,rfl,hJs,hb⟩:=hrel;have wi:IntKind.i64.wrap ((n:Int)+1)=(n:Int)+1:=zo _ (by omega);by_cases hlt:n<64
  ·have hlt':(n:Int)<64:=by omega
   have c0:wr.cell? ⟨B,0,none⟩=some (.int .u64 (zE f 0:Nat)):=zj wr B 0 _ _ _ hb;have HBW:=za hb;have HHas:=za (Vr f (n:Int) wr);rw[qK hlt]at HHas
   cases hf:f n with
   | false =>
    rw[hf]at HHas;have HJS:=za hJs;have HSu:=za (zch f n);rw[hf]at HSu;clear hJs hb
    gi_wp2_with (gi_at_call 42;refine(yl.2 HHas.out).mono ?_;rintro e w1 ⟨rfl,rfl⟩)
    go_roundw
    case rel =>
     refine⟨n+1,hlt,by first | rfl | simp,?_,HBW.out⟩;rw[HSu.out];exact HJS.out
    case measure=>simp[intOf];omega
   | true =>
    rw[hf]at HHas;have HSu:=za (zch f n);rw[hf]at HSu;have HPR:=za (HY.out (Zn f n) n wr hJs ⟨hlt,rfl⟩);clear hJs hb
    gi_wp2_with (gi_at_call 42;refine(yl.2 HHas.out).mono ?_;rintro e w1 ⟨rfl,rfl⟩;obtain⟨fn,tmps,assign,body,hy,hR⟩:=HPR.out;dsimp only[J8]at hy;have hRR:=za hR;clear hR)
    refine hRR.out.mono ?_;rintro e W' (⟨rfl,hJ',hk⟩ | ⟨rfl,hJx'⟩)
    ·have HJ':=za hJ';have HK:=za hk;clear hJ' hk;gi_wp2;go_roundw
     case rel =>
      refine⟨n+1,hlt,by first | rfl | simp,?_,(HK.out.2 B rfl (zl HBW.out)).trans HBW.out⟩;rw[HSu.out];exact HJ'.out
     case measure=>simp[intOf];omega
    ·gi_wp2;exact Azzwy
  ·obtain rfl:n=64:=by omega
   have HJS:=za hJs;clear hJs hb;gi_wp2
   go_end0
   exact⟨⟨_,rfl⟩,.inl ⟨_,rfl,HJS.out⟩⟩
theorem zgu(f:Nat→Bool)(w:World):Calls prog 27 #[.int .u64 (zE f 0:Nat)] w fun e w' => ∃ B,e=.returned (.func (.func 44) #[] #[.pointer (some ⟨B,0,none⟩)])∧w'.heap[B]? = some (.cells #[.int .u64 (zE f 0:Nat)] 38 (0,0))∧zb w w':=by
 have hz:=za (zi (w:=w) (o := .cells #[.int .u64 (zE f 0:Nat)] 38 (0,0)) rfl);have hp:=za (show zb w (w.alloc (.cells #[.int .u64 (zE f 0:Nat)] 38))from(Mod.refl _ w).alloc _);generalize zE f 0=m at *;go_enter func27,ntmps27;go_wp2;go_ret;exact⟨_,rfl,hz.out,hp.out⟩
theorem zhN:(prog.info? 3).map (fun i=>(i.zero,i.size,i.bytes))=some (some (.int .i64 0),1,8):=by kernel_rfl
theorem zjz(a b:List Nat):vI (a++b)=vI a++vI b:=by simp[vI]
structure SqI(w3:World)(c2:Nat)(pre:List Nat)(W:World):Prop where
 md:Mod (fun k=>k=c2) w3 W
 row : ∃ a c,W.heap[c2]? = some (.cells #[.slice a pre.length c] 34 (0,0))∧W.ownsRow 0 3 1 (.slice a pre.length c) pre.length (vI pre) ∧ ∀ g,(Value.slice a pre.length c).ownBlock=some g→w3.heap.size≤g
theorem SqI.quiet{w3 A B:World}{c2 N:Nat}{pre:List Nat}(h:SqI w3 c2 pre A)(hN:w3.heap.size≤N)(hq:zv N A B):SqI w3 c2 pre B:=by
 obtain⟨a,c,h1,h2,h3⟩:=h.row;exact⟨hq.mod h.md hN,a,c,hq.cells h1,hq.owns h2,h3⟩
def Kr(w:World)(l:List Nat)(e:Ending)(w':World):Prop := ∃ a c,e=.returned (.slice a l.length c)∧zn w' (.slice a l.length c) 1 (vI l)∧zb w w'
theorem zcX{w:World}{B:Nat}{f:Nat→Bool}(h:w.heap[B]? = some (.cells #[.int .u64 (zE f 0:Nat)] 38 (0,0))) :
  Calls prog 43 #[.slice none 0 0,.func (.func 44) #[] #[.pointer (some ⟨B,0,none⟩)]] w (Kr w (qL f)):=by
 have hal:zb w (w.alloc (.cells #[.slice none 0 0] 34)):=(Mod.refl _ w).alloc _;have hz:=zi (w:=w) (o := .cells #[.slice none 0 0] 34 (0,0)) rfl;have hB:=hal.heap (fun h=>h) h;have hBl:B<w.heap.size:=zl h;obtain⟨i0,hi,iz0,iz1,iz2⟩:=xy zhN;have HB:=za hB;have HZ:=za hz;have HAL:=za hal;have HBL:=za hBl;clear h hal hz hB hBl
 (refine(yl (n:=0)).1 (callsIn_of_wp_marks func43 rfl trivial (vW.2 ?_) rfl);simp only[ntmps43,List.size_toArray,List.length_cons,List.length_nil,Nat.reduceAdd,Nat.reduceSub,Array.replicate_succ,Array.replicate_zero,List.push_toArray,List.append_toArray,List.nil_append,List.cons_append])
 go_wp2;generalize w.alloc (.cells #[.slice none 0 0] 34)=w3 at *;obtain⟨c2,hc2⟩:=zc w.heap.size;rw[hc2]at HZ HBL ⊢;have HC:=za hc2;clear hc2;have hItlt : ∀ k,k=B→k<w3.heap.size:=fun k e=>by subst e;exact zl HB.out
 have HNB:Hid (c2≠B):=za (by have:=HBL.out;omega);refine vW.1 (ZC (gf:=44) (lb:=#[.pointer (some ⟨B,0,none⟩)]) rfl (enters_of func44 (by kernel_rfl) rfl) (It:=fun k=>k=B) (zil HB.out) hItlt (fun _=>rfl)
  (fun pre W=>SqI w3 c2 pre W∧w3.heap.size≤W.heap.size) (fun _ _ _=>False) ?hI ?hIx ⟨⟨Mod.refl _ _,none,0,HZ.out,vD _ _ _ _,fun g hg=>by cases hg⟩,zH _⟩ ?round ?done ?stop)
 case hI=>exact fun pre A B ⟨h,hz⟩ hq=>⟨h.quiet (zH _) hq,zJ hz (Mod.size hq)⟩
 case hIx=>exact fun _ _ _ _ h _=>h
 case stop=>exact fun _ _ _ _ _ h _=>h.elim
 case done =>
  rintro lb xs W hlb rfl ⟨hI,hWs⟩ hK;obtain⟨a2,k2,r1,r2,r3⟩:=hI.row;have hmd:=hI.md;have R2:=za r2;have HK:=za hK;have HLB:=za hlb;have HMD:=za hmd;have HWS:=za hWs;clear hI r2 r3 hmd hK hItlt hlb hWs;generalize qL f=l at *;obtain⟨r1_0,r1_f,r1_l,H_r1⟩:=cr1 r1;clear r1;go_wp2;have hq:zv w3.heap.size W _:=zv.putObj (.deferred none) HLB.out HK.out rfl;refine jZ (v := .slice a2 l.length k2) HK.out (by simp[results,results43,go_sem]) ⟨a2,k2,rfl,zn.of_owns (hq.owns R2.out) (zcJ _),?_⟩;have m1:zb w W:=Mod.trans' HAL.out HMD.out (fun _ _ e=>e) (fun i hi e=>by have:=HC.out;omega);have m2:Mod (fun k=>k=lb) W (W.putObj lb (.deferred none)):=⟨rfl,rfl,rfl,by simp,fun k _ hn=>World.putObj_heap_other (fun e=>hn e)⟩;exact Mod.trans' m1 m2 (fun _ _ e=>e) (fun i hi e=>by have:=HLB.out;have:=HAL.out.size;omega)
 case round =>
  rintro lb pre x W K ⟨hI,hWs⟩ ⟨hx,hpre⟩ hK;have hpl:pre.length<4194304:=by
   have:=zeF (f:=f);have h9:pre.length≤x:=by
    rw[hpre];have:=List.length_filter_le f (List.range x);rw[List.length_range]at this;exact this
   omega
  have HCI:=za hI;have HK:=za hK;clear hI hK hItlt hpre;gi_wp2;refine HK.out _ _ (Mod.refl _ _) (fun l' W2 hl2 hr2 hq2 => ?_);have hI2:=HCI.out.quiet (zH _) hq2;obtain⟨a2,k2,q1,q2,q3⟩:=hI2.row;have HI2:=za hI2;have HF2:=za q3;have HW2:Hid (w3.heap.size≤W2.heap.size):=za (zJ hWs (Mod.size hq2));have hc2l:c2<w3.heap.size:=zl HZ.out;have HCL:=za hc2l;obtain⟨j,hj⟩:=zc pre.length;rw[hj]at q1 HF2 hpl;have hrr:W2.ownsRow 0 3 1 (.slice a2 j k2) j (vI pre):=by rw[← hj];exact q2
  have HRR:=za hrr;have HJ:=za hj;have Q1:=za q1;clear hI2 q2 q3 HK HCI hrr hj hc2l hWs;obtain⟨q1_0,q1_f,q1_l,H_q1⟩:=cr1 q1;clear q1
  gi_wp2_with (gi_at_builtin;refine zao _ rfl _ _ 34 rfl 3 i0 (.int .i64 0) 1 8 underlying34 hi iz0 iz1 iz2 rfl (by decide) (.slice a2 j k2) j _ rfl (zA HRR.out ((Mod.refl (fun _=>False) W2).alloc _) (fun _ _ h=>h)) _ [.int .i64 x] 1 rfl (zn.of_block 1 1 1 (zi rfl) (by rfl) (by simp[Value.oneCell'])) rfl (by unfold maxLen;omega) (by omega) ?_;intro a7 c7 w5 hr7 hg7 hb7;have M7:=za (Mod.heap (Mod.of_grown (S:=fun k=>(Value.slice a2 j k2).ownBlock=some k) hg7 (fun k e _=>e)) (fun e=>by have:=HF2.out _ e;have:=HCL.out;omega) (zL Q1.out));have m7:=zj w5 _ 0 _ _ _ M7.out;have fr7:=(fun j=>yP w5 _ j _ _ M7.out);have ml7:=zl M7.out)
  have hM7:Mod (fun k=>(Value.slice a2 j k2).ownBlock=some k∨k=c2) W2 (w5.setCell ⟨c2,0,none⟩ (.slice a7 (j+1) c7)) :=
   (((Mod.refl _ W2).alloc (.cells #[.int .i64 x] 3)).then (Mod.of_grown (S:=fun k=>(Value.slice a2 j k2).ownBlock=some k) hg7 (fun k e _=>e)) (fun _ _ h => .inl h)).setCell (fun _ => .inr rfl) _
  have h7 : ∀ g,(Value.slice a7 (j+1) c7).ownBlock=some g→w3.heap.size≤g:=fun g hg=>by
   rcases hb7 with e | e
   ·exact HF2.out g (e ▸ hg)
   ·rw[e]at hg;have hg2:(W2.alloc (.cells #[.int .i64 x] 3)).heap.size=g:=by injection hg
    have:=HW2.out;simp at hg2;omega
  refine⟨yY.of_mod hM7 (fun k _ h o ho => ?_),yJ.of_mod hM7 (fun k hk h => ?_),⟨⟨Mod.trans' HI2.out.md hM7 (fun _ _ h=>h) (fun k hk h => ?_),a7,c7,?_,?_,?_⟩,zJ HW2.out hM7.size⟩⟩
  ·rcases h with h | rfl
   ·obtain⟨cur,e⟩:=ym HRR.out h;rw[e]at ho;cases ho;rfl
   ·rw[Q1.out]at ho;cases ho;rfl
  ·subst hk;rcases h with h | h
   ·have:=HF2.out _ h;have:=HBL.out;have:=HCL.out;omega
   ·exact HNB.out h.symm
  ·rcases h with h | h
   ·have:=HF2.out k h;omega
   ·exact h
  ·rw[zN,HJ.out];simpa using zT w5 c2 0 _ _ (.slice a7 (j+1) c7) M7.out
  ·rw[zN,HJ.out,zjz];exact zA hr7 ((Mod.refl (fun k=>k=c2) w5).setCell (fun _=>rfl) _) (fun g hg e=>by have:=h7 g hg;have:=HCL.out;omega)
  ·rw[zN,HJ.out];exact h7
theorem zju{w:World}{B:Nat}{f:Nat→Bool}(h:w.heap[B]? = some (.cells #[.int .u64 (zE f 0:Nat)] 38 (0,0))) :
  Calls prog 26 #[.func (.func 44) #[] #[.pointer (some ⟨B,0,none⟩)]] w (Kr w (qL f)):=by
 have HS:=za (zcX h);clear h;go_enter func26,ntmps26
 go_wp2_with (go_at_call 43;refine HS.out.mono ?_;rintro e w1 ⟨a,c,rfl,hr,hp⟩)
 go_ret;exact⟨a,c,rfl,hr,hp⟩
theorem zfX{w:World}{q p:Nat}{f:Nat→Bool}{pl:Nat→Nat}(h:yD w q p f pl):Calls prog 10 #[lkP q] w (Kr w (qL f)):=by
  have HN:=za (Xp h);have HA:=za (zgu f w);have c1:=h.c1;have cf:=h.fr;have cl:=h.lt;have HCo:=za (fun(Y:World) (B:Nat) (hB:Y.heap[B]? = some (.cells #[.int .u64 (zE f 0:Nat)] 38 (0,0)))=>zju hB);clear h;generalize zE f 0=m at *;go_enter func10,ntmps10
  go_wp2_with (first
    | (go_at_call 25;refine HN.out.mono ?_;rintro e w' ⟨rfl,rfl⟩)
    | (go_at_call 27;refine HA.out.mono ?_;rintro e w1 ⟨B,rfl,hB,hp1⟩;have HC1:=za (HCo.out _ _ hB))
    | (go_at_call 26;refine HC1.out.mono ?_;rintro e w2 ⟨a,c,rfl,hr,hp2⟩))
  go_ret;exact⟨a,c,rfl,hr,hp1.trans hp2⟩
end
section
open Go.RowKit
section
variable{w w':World}{D:Nat→Prop}{p:Nat}{Ls:List (List Nat)}
def ye(D D':Nat→Prop)(w:World):Prop := ∀ k,D' k→D k∨w.heap.size≤k
theorem ye.refl(D:Nat→Prop)(w:World):ye D D w:=fun _ h => .inl h
theorem ziN(h:yR w D p Ls){s b:Nat}{l:List Nat}(hs:s<4194304)(hl:Ls[b]? = some l)(hf : ¬ inL Ls s) :
    Calls prog 249 #[lkP p,.int .u32 s,.int .i64 b] w fun e w'=>e=.returned (.int .i64 0)∧(∃ D',yR w' D' p (Ls.set b (l++[s]))∧ye D D' w)∧Mod D w w':=by
  have hb:b<256:=by have:=(zC.1 hl).1;rw[h.len]at this;exact this
  have HCk:=za (Vu h hs (b:=(b:Int)) (by omega) (by omega));have HW:=za h;obtain⟨q,many,N,Dl,h1,h2,h3,h4⟩:=h;have HRo:=za (zfb h1 h2 h3 hs);have HB:=za h1;have HDD:=za h4;have HL:=za hl;have HF:=za hf;have H3:=za h3;have HNB:=za (Xe h1 h2);have hpq:p≠q:=fun e=>Xe h1 h2 (e ▸ h2.self)
  have hpl:p<w.heap.size:=zl h1;clear h1 h2 h3 h4 hl hf;have b0:(0:Int)≤(b:Int):=by omega
  go_enter func249,ntmps249;go_upto_region 5 with(first
    | (go_at_call 281;refine HCk.out.mono ?_;rintro e w' ⟨rfl,rfl⟩)
    | (go_at_call 284;refine HRo.out.mono ?_;rintro e w1 ⟨rfl,N',Dl',hl1,hsN,hm1,hg1⟩))
  have hbx1:=hm1.heap HNB.out HB.out;have hnb1:=Xe hbx1 hl1;have HBk:=za (U5 hl1 hsN HL.out HF.out);have HM1:=za hm1;have HG1:=za hg1;have HBX1:=za hbx1;have HNB1:=za hnb1;obtain⟨c0,c5,_,_⟩:=jS hbx1;clear hl1 hm1 hg1 hbx1 hnb1 c5;go_upto_region 8 with(go_at_call 232;refine HBk.out.mono ?_;rintro e w2 ⟨rfl,hl2,hm2⟩)
  have hbx2:=hm2.heap HNB1.out HBX1.out;have HSe:=za (zgC hbx2 hb);have HL2:=za hl2;have HM2:=za hm2;clear hl2 hm2 hbx2 c0;go_upto_region 9 with(go_at_call 285;refine HSe.out.mono ?_;rintro e w3 ⟨rfl,hbx3,hm3⟩)
  obtain⟨c0,c5,g5,hlt3⟩:=jS hbx3;have g55:=g5 5;have HBX3:=za hbx3;have HM3:=za hm3;clear hbx3 hm3 g5;obtain⟨m2,hm2⟩:=zc (IntKind.i64.wrap (many+1));have hend:=zaW HBX3.out m2;have hmd:=(Mod.refl (fun k=>k=p) w3).setCell (p:=⟨p,5,none⟩) (fun _=>rfl) (.int .i64 m2);have HEnd:=za hend;have HMd:=za hmd;clear hend hmd;go_wp2;go_ret;have hne:neB (Ls.set b (l++[s]))=yT (neB Ls) b true:=by
    rw[V5 (by rw[H3.out];exact hb)]
    congr 1
    simp
  refine⟨rfl,⟨fun k=>k=p∨Dl' k,⟨q,m2,N',Dl',?_,(HL2.out.frame HM3.out (fun k hk e=>HNB1.out (e ▸ hk))).frame HMd.out (fun k hk e=>HNB1.out (e ▸ hk)),by rw[xp];exact H3.out,fun k=>vg⟩,fun k hk => ?_⟩,?_⟩
  · rw[hne];exact HEnd.out
  · rcases hk with rfl | hk
    · exact .inl ((HDD.out k).2 (.inl rfl))
    · rcases HG1.out k hk with e | e
      · exact .inl ((HDD.out k).2 (.inr e))
      · exact .inr e
  · refine(HM1.out.mono (fun k _ hk=>(HDD.out k).2 (.inr hk))).then ((HM2.out.mono (fun k _ hk=>Or.inr hk):Mod (fun k=>k=p∨Dl' k) w1 w2).trans ((HM3.out.trans HMd.out).mono (fun k _ hk=>Or.inl hk))) (fun k hk e => ?_)
    rcases e with rfl | e
    · exact(HDD.out k).2 (.inl rfl)
    · rcases HG1.out k e with e2 | e2
      · exact(HDD.out k).2 (.inr e2)
      · omega
theorem zf1(h:yR w D p Ls){s:Nat}(hs:s<4194304){b:Nat}{l:List Nat}(hl:Ls[b]? = some l)(hm:s∈l) :
    Calls prog 263 #[lkP p,.int .u32 s] w fun e w'=>e=.returned (.tuple #[.int .i64 b,.int .i64 0])∧w=w':=by
  have HCk:=za (Vu h hs (b:=0) (by omega) (by omega));obtain⟨q,many,N,Dl,h1,h2,h3,h4⟩:=h;have HOf:Hid (Calls prog 267 #[lkP q,.int .u32 s] w fun e w'=>e=.returned (.tuple #[.int .i64 b,.int .i64 0])∧w=w'):=za (by
    refine(zbT h2 (n:=s) (by omega)).mono ?_;rintro e w' ⟨hp,rfl⟩;refine⟨?_,rfl⟩;rcases hp with⟨k,l',e1,e2,rfl⟩ | ⟨hn,_⟩
    · obtain⟨gF,gL,cF,cL,F,m1,m2⟩:=h2
      have:=(m1.ok.own k l' e1 s e2).2;have h9:=(m1.ok.own b l hl s hm).2;rw[show k=b by omega]
    · exact absurd ⟨b,l,hl,hm⟩ hn)
  obtain⟨c0,_,_,_⟩:=jS h1;clear h1 h2 h3 h4 hl hm;go_enter func263,ntmps263
  go_wp2_with (first
    | (go_at_call 281;refine HCk.out.mono ?_;rintro e w' ⟨rfl,rfl⟩)
    | (go_at_call 267;refine HOf.out.mono ?_;rintro e w' ⟨rfl,rfl⟩))
  go_ret2;exact⟨rfl,rfl⟩
theorem JS(h:yR w D p Ls){s b:Nat}{l:List Nat}(hs:s<4194304)(hl:Ls[b]? = some l)(hm:s∈l) :
    Calls prog 218 #[lkP p,.int .u32 s] w fun e w'=>e=.returned (.tuple #[.int .i64 b,.int .i64 0])∧yR w' D p (Ls.set b (l.erase s))∧Mod D w w':=by
  have hb:b<256:=by have:=(zC.1 hl).1;rw[h.len]at this;exact this
  have HBu:=za (zf1 h hs hl hm);obtain⟨q,many,N,Dl,h1,h2,h3,h4⟩:=h;have HRe:=za (zbV h2 hl hm);have HNB:=za (Xe h1 h2);have HB:=za h1;have HDD:=za h4;have H3:=za h3;have HNE0:Hid (neB Ls b=true):=za (by unfold neB;rw[hl];cases l with | nil=>cases hm | cons x l=>rfl);have hbl:b<Ls.length:=by rw[h3];exact hb
  have hl9:(Ls.set b (l.erase s))[b]? = some (l.erase s):=yj hbl;have HL9:=za hl9;obtain⟨c0,c5,_,_⟩:=jS h1;clear h1 h2 h3 h4 hl hm hl9;have b0:(0:Int)≤(b:Int):=by omega
  go_enter func218,ntmps218;go_upto_region 5 with(first
    | (go_at_call 263;refine HBu.out.mono ?_;rintro e w' ⟨rfl,rfl⟩)
    | (go_at_call 264;refine HRe.out.mono ?_;rintro e w1 ⟨rfl,hl1,hm1⟩))
  have hbx1:=hm1.heap HNB.out HB.out;obtain⟨m2,hmm⟩:=zc (IntKind.i64.wrap (many-1));have hend:=zaW hbx1 m2;have hmd:=(Mod.refl (fun k=>k=p) w1).setCell (p:=⟨p,5,none⟩) (fun _=>rfl) (.int .i64 m2);have hl2:=hl1.frame hmd (fun k hk e=>HNB.out (e ▸ hk));have hmt:Mod (fun k=>k=p∨Dl k) w (w1.setCell ⟨p,5,none⟩ (.int .i64 m2)):=(hm1.mono (fun _ _ h=>Or.inr h)).trans (hmd.mono (fun _ _ h=>Or.inl h));have HLe:=za (fun W (hW:w1.setCell ⟨p,5,none⟩ (.int .i64 m2)=W)=>(hW ▸ zb6 hl2 HL9.out:Calls prog 265 #[lkP q,.int .i64 b] W fun e w'=>e=.returned (.int .i64 (l.erase s).length)∧W=w'));obtain⟨d0,d5,g5,hlt1⟩:=jS hbx1;have g55:=g5 5;have HL2:=za hl2;have HMt:=za hmt;have HEnd:=za hend;clear hl1 hm1 hl2 hmt hend hmd g5 hbx1 c0 c5;go_upto_region 6 with fail
  generalize hW3:w1.setCell ⟨p,5,none⟩ (.int .i64 m2)=W3 at *;have HLe3:=za (HLe.out W3 rfl);have hb3:=HEnd.out;have HFin:Hid (∀ X:World,X.heap[p]? = some (.cells (whC q (neB (Ls.set b (l.erase s))) m2) 347 (0,0))→yf X Dl q N (Ls.set b (l.erase s))→yR X D p (Ls.set b (l.erase s))):=za (fun X g1 g2=>⟨q,m2,N,Dl,g1,g2,by rw[xp];exact H3.out,HDD.out⟩);have hne:=V5 (Ls:=Ls) hbl (l.erase s);have HNE:=za hne;have HMD:Hid (Mod D w W3):=za (HMt.out.mono (fun k _ hk=>(HDD.out k).2 hk));have HCl:=za (zdz hb3 hb);obtain⟨d0,d5,_,_⟩:=jS hb3;clear hne hW3 HLe hb3 HMt;obtain⟨l',hl'⟩ : ∃ l',l.erase s=l':=⟨_,rfl⟩;rw[hl']at HLe3 HFin HNE HL2;have HLE:=za hl';clear hl'
  cases l' with
  | nil =>
    have HLe4:Hid (Calls prog 265 #[lkP q,.int .i64 b] W3 fun e w'=>e=.returned (.int .i64 0)∧W3=w'):=HLe3;clear HLe3
    go_wp2_with (first
      | (go_at_call 265;refine HLe4.out.mono ?_;rintro e w' ⟨rfl,rfl⟩)
      | (go_at_call 266;refine HCl.out.mono ?_;rintro e w5 ⟨rfl,q1,q2⟩))
    go_ret2;refine⟨rfl,by rw[HLE.out];exact HFin.out _ (by rw[HNE.out];exact q1) (HL2.out.frame q2 (fun k hk e=>HNB.out (e ▸ hk))),HMD.out.trans (q2.mono (fun k _ hk=>by rw[hk];exact(HDD.out p).2 (.inl rfl)))⟩
  | cons x l2 =>
    obtain⟨n,hn⟩:=zc ((x::l2).length);have hn0:n≠0:=by rw[← hn];simp
    rw[hn]at HLe3;have e0:((n:Int)==0)=false:=by simp;omega
    have HN:=za hn;clear hn hn0
    go_wp2_with (go_at_call 265;refine HLe3.out.mono ?_;rintro e w' ⟨rfl,rfl⟩)
    go_ret2;exact⟨rfl,by rw[HLE.out];exact HFin.out _ (by rw[HNE.out,zf0 (by rw[HNE0.out];rfl)];exact HEnd.out) HL2.out,HMD.out⟩
end
end
section
open Go.RowKit Go.Shelf
def xc(w:World)(D:Nat→Prop)(p:Nat)(xs:List Nat):Prop :=
 ∃ q N Dl,w.heap[p]? = some (.cells #[lkP q] 290 (0,0))∧yf w Dl q N [xs] ∧ ∀ k,D k↔(k=p∨Dl k)
section
variable{w w':World}{D S:Nat→Prop}{p:Nat}{xs:List Nat}
theorem xc.frame(h:xc w D p xs)(hm:Mod S w w')(hd : ∀ k,D k → ¬ S k):xc w' D p xs:=by
 obtain⟨q,N,Dl,h1,h2,h3⟩:=h;exact⟨q,N,Dl,hm.heap (hd p ((h3 p).2 (.inl rfl))) h1,h2.frame hm (fun k hk=>hd k ((h3 k).2 (.inr hk))),h3⟩
theorem xc.pure(h:xc w D p xs)(hm:zb w w'):xc w' D p xs:=h.frame hm (fun _ _ h=>h)
theorem xc.lt(h:xc w D p xs){k:Nat}(hk:D k):k<w.heap.size:=by
 obtain⟨q,N,Dl,h1,h2,h3⟩:=h;rcases(h3 k).1 hk with rfl | e
 ·exact zl h1
 ·exact h2.lt e
theorem xc.self(h:xc w D p xs):D p:=by obtain⟨q,N,Dl,h1,h2,h3⟩:=h;exact(h3 p).2 (.inl rfl)
theorem VA{q:Nat}(h:w.heap[p]? = some (.cells #[lkP q] 290 (0,0))){Dl:Nat→Prop}{q' N:Nat}{Ls:List (List Nat)}(hl:yf w Dl q' N Ls) : ¬ Dl p:=fun hd=>by
 rcases hl.types hd h with e | e | e<;>exact absurd e (by decide)
theorem yf.slots{Dl:Nat→Prop}{q N:Nat}(h:yf w Dl q N [xs]):xs.Nodup∧(∀ x∈xs,x<N)∧N≤4194304:=by
 have hN:=h.lenH.2.1;obtain⟨gF,gL,cF,cL,F,h1,h2⟩:=h;refine⟨h1.ok.nodup 0 xs rfl,fun x hx=>(h1.ok.own 0 xs rfl x hx).1,hN⟩
theorem xc.law(h:xc w D p xs):xs.Nodup∧(∀ x∈xs,x<4194304)∧xs.length≤4194304:=by
 obtain⟨q,N,Dl,h1,h2,h3⟩:=h;obtain⟨k1,k2,k3⟩:=h2.slots;exact⟨k1,fun x hx=>by have:=k2 x hx;omega,zJ (qz k1 k2) k3⟩
theorem KU{n:Nat}:inL [xs] n↔n∈xs:=by
 constructor
 ·rintro⟨k,l,hl,hm⟩
  cases k with
  | zero=>cases hl;exact hm
  | succ k=>cases hl
 ·exact fun h=>⟨0,xs,rfl,h⟩
theorem zkg(w:World):Calls prog 123 #[] w fun e w' => ∃ p D,e=.returned (lkP p)∧xc w' D p []∧zb w w' ∧ ∀ k,D k→w.heap.size≤k:=by
 have HN:=za (UN w (N:=8) (H:=1) (by omega) (by omega) (by omega) (by omega));go_enter func123,ntmps123
 go_wp2_with (go_at_call 180;refine HN.out.mono ?_;rintro e w1 ⟨q,Dl,rfl,hl,hp,hf⟩)
 have ha:zb w1 (w1.alloc (.cells #[lkP q] 290)):=(Mod.refl _ w1).alloc _;have hlt:=fun k (hk:Dl k)=>hl.lt hk
 have hE:xc (w1.alloc (.cells #[lkP q] 290)) (fun k=>k=w1.heap.size∨Dl k) w1.heap.size []:=⟨q,8,Dl,zi rfl,hl.pure ha,fun _=>vg⟩;have hpp:=hp.trans ha;have hsz:=hp.size;go_ret;refine⟨w1.heap.size,_,rfl,hE,hpp,fun k hk => ?_⟩;rcases hk with rfl | e
 ·omega
 ·exact hf k e
theorem QV{q:Nat}(hb:w.heap[p]? = some (.cells #[lkP q] 290 (0,0))){s:Nat}(h32:s≤4294967295):Calls prog 209 #[lkP p,.int .u32 s] w fun e w'=>e=.returned (.int .i64 (if s<4194304 then 0 else 2))∧w=w':=by
 obtain⟨hb_0,hb_f,hb_l,H_hb⟩:=cr1 hb;clear hb;by_cases h:s<4194304
 ·rw[zh h];have d:decide ((4194304:Int)≤(s:Int))=false:=zO (by omega);have dn:decide (4194304≤s)=false:=zO (by omega);go_enter func209,ntmps209;go_wp2;go_ret;exact⟨rfl,rfl⟩
 ·rw[zf h];have d:decide ((4194304:Int)≤(s:Int))=true:=zK (by omega);have dn:decide (4194304≤s)=true:=zK (by omega);go_enter func209,ntmps209;go_wp2;go_ret;exact⟨rfl,rfl⟩
theorem KW{q:Nat}(hb:w.heap[p]? = some (.cells #[lkP q] 290 (0,0))):Calls prog 209 #[lkP p,.int .u32 0] w fun e w'=>e=.returned (.int .i64 0)∧w=w':=QV hb (s:=0) (by omega)
theorem UR{q:Nat}(hb:w.heap[p]? = some (.cells #[lkP q] 290 (0,0))){s:Nat}(hs:s<4194304):Calls prog 209 #[lkP p,.int .u32 s] w fun e w'=>e=.returned (.int .i64 0)∧w=w':=by
 have:=QV hb (s:=s) (by omega);rw[zh hs]at this;exact this
theorem J0(h:xc w D p xs){s:Nat}(hs:s<4194304):Calls prog 220 #[lkP p,.int .u32 s] w fun e w'=>e=.returned (.bool (decide (s∈xs)))∧w=w':=by
  obtain⟨q,N,Dl,hb,hl,hd⟩:=h;have HC:=za (UR hb hs);have HO:=za (zbT hl (n:=s) (by omega));clear hl hd;obtain⟨hb_0,hb_f,hb_l,H_hb⟩:=cr1 hb;clear hb;by_cases h:s∈xs
  · have e0:decide (s∈xs)=true:=zK h
    rw[e0];have HI:=za h;clear h e0;go_enter func220,ntmps220
    go_wp2_with (first
      | (go_at_call 209;refine HC.out.mono ?_;rintro e w' ⟨rfl,rfl⟩)
      | (go_at_call 267;refine HO.out.mono ?_;rintro e w' ⟨⟨k,l,hl,hm,rfl⟩ | ⟨hn,_⟩,rfl⟩;rotate_left 1;exact absurd (KU.2 HI.out) hn))
    go_ret;exact⟨rfl,rfl⟩
  · have e0:decide (s∈xs)=false:=zO h
    rw[e0];have HI:=za h;clear h e0;go_enter func220,ntmps220
    go_wp2_with (first
      | (go_at_call 209;refine HC.out.mono ?_;rintro e w' ⟨rfl,rfl⟩)
      | (go_at_call 267;refine HO.out.mono ?_;rintro e w' ⟨⟨k,l,hl,hm,rfl⟩ | ⟨hn,er,hne,rfl⟩,rfl⟩;exact absurd (KU.1 ⟨k,l,hl,hm⟩) HI.out;have he0:(er==0)=false:=(by simpa using hne)))
    go_ret;exact⟨rfl,rfl⟩
theorem zgw(h:xc w D p xs):Calls prog 223 #[lkP p] w fun e w'=>e=.returned (.int .i64 xs.length)∧w=w':=by
  obtain⟨q,N,Dl,hb,hl,hd⟩:=h;have HC:=za (KW hb);have HL:=za (zb6 hl (k:=0) rfl);clear hl hd;obtain⟨hb_0,hb_f,hb_l,H_hb⟩:=cr1 hb;clear hb;go_enter func223,ntmps223
  go_wp2_with (first
    | (go_at_call 209;refine HC.out.mono ?_;rintro e w' ⟨rfl,rfl⟩)
    | (go_at_call 265;refine HL.out.mono ?_;rintro e w' ⟨rfl,rfl⟩))
  go_ret;exact⟨rfl,rfl⟩
theorem zaS(h:xc w D p xs){s:Nat}(hs:s∈xs):Calls prog 221 #[lkP p,.int .u32 s] w fun e w'=>e=.returned (.int .i64 0)∧xc w' D p (xs.erase s)∧Mod D w w':=by
  have hs4:=h.law.2.1 s hs;have HH:=za (J0 h hs4);rw[zK hs]at HH;obtain⟨q,N,Dl,hb,hl,hd⟩:=h;have HC:=za (UR hb hs4);have HR:=za (zbV hl (k:=0) rfl hs);have HN:=za (VA hb hl);have HD:=za hd;have HB:=za hb;clear hl hd hs4 hs;obtain⟨hb_0,hb_f,hb_l,H_hb⟩:=cr1 hb;clear hb;go_enter func221,ntmps221
  go_wp2_with (first
    | (go_at_call 209;refine HC.out.mono ?_;rintro e w' ⟨rfl,rfl⟩)
    | (go_at_call 220;refine HH.out.mono ?_;rintro e w' ⟨rfl,rfl⟩)
    | (go_at_call 264;refine HR.out.mono ?_;rintro e w1 ⟨rfl,hl1,hm1⟩))
  go_ret;exact⟨rfl,⟨q,N,Dl,hm1.heap HN.out HB.out,hl1,HD.out⟩,hm1.mono (fun k _ hk=>(HD.out k).2 (.inr hk))⟩
end
end
section
open Go.RowKit
theorem set_self{Ls:List (List Nat)}{b:Nat}{l:List Nat}(h:Ls[b]? = some l):Ls.set b l=Ls:=by
 refine vX (fun j => ?_);by_cases e:b=j
 ·subst e;rw[yj (zC.1 h).1,h]
 ·rw[yq e]
section
variable{w w':World}{D:Nat→Prop}{p:Nat}{Ls:List (List Nat)}
theorem yR.small(h:yR w D p Ls){b:Nat}{l:List Nat}(hl:Ls[b]? = some l):l.length≤4194304∧(∀ s∈l,s<4194304)∧b<256∧l.Nodup:=by
 have hb:b<256:=by have:=(zC.1 hl).1;rw[h.len]at this;exact this
 obtain⟨q,many,N,Dl,h1,⟨gF,gL,cF,cL,F,m1,m2⟩,h3,h4⟩:=h;have:=m1.nm;exact⟨zJ (m1.ok.short hl) this,fun s hs=>by have:=(m1.ok.own b l hl s hs).1;omega,hb,m1.ok.nodup b l hl⟩
theorem zeB(h:yR w D p Ls){b:Nat}{l:List Nat}(hl:Ls[b]? = some l) :
    Calls prog 283 #[lkP p,.int .i64 b] w fun e w' => ∃ a c,e=.returned (.tuple #[.slice a l.length c,.int .i64 0])∧yo w' a c l∧xh w (.slice a l.length c)∧zb w w':=by
  obtain⟨hll,_,hb,_⟩:=h.small hl;have HCk:=za (Vu h (s:=0) (by omega) (b:=(b:Int)) (by omega) (by omega));obtain⟨q,many,N,Dl,h1,h2,h3,h4⟩:=h;have HA:=za (zfV h2 hl hll);have HC:=za (fun(W:World) B a c (hi:kw W B a c l)=>zdM hi hll);obtain⟨n,hn⟩:=zc l.length;unfold XU at HC;unfold Us at HA;rw[hn]at HC;obtain⟨c0,_,_,_⟩:=jS h1;have HN:=za hn;clear h1 h2 h3 h4 hl hn hll;have b0:(0:Int)≤(b:Int):=by omega
  go_enter func283,ntmps283
  go_wp2_with (first
    | (go_at_call 281;refine HCk.out.mono ?_;rintro e w' ⟨rfl,rfl⟩)
    | (go_at_call 211;refine HA.out.mono ?_;rintro e w1 ⟨B,a,c,rfl,hi,hp1⟩;have HI1:=za hi;have HP1:=za hp1;clear hi hp1)
    | (go_at_call 306;refine(HC.out _ _ _ _ HI1.out).mono ?_;rintro e w2 ⟨a2,c2,rfl,q1,q2,q3⟩))
  go_ret2;exact⟨a2,c2,by rw[HN.out];rfl,q1,fun g hg=>by rw[HN.out]at hg;have:=q2 g hg;have:=HP1.out.size;omega,HP1.out.trans q3⟩
def Vh(f:Nat→Bool):Value:=match ug f 256 with
 | some b => .tuple #[.int .i64 (b:Nat),.int .i64 0]
 | none => .tuple #[.int .i64 0,.int .i64 9]
theorem Az5lt {P:Prop}(h:P:=by
 clear HNx;go_enter func247,ntmps247
 go_wp2_with (first
   | (go_at_call 281;refine HCk.out.mono ?_;rintro e w' ⟨rfl,rfl⟩)
   | (go_at_call 282;refine HNx2.out.mono ?_;rintro e w' ⟨rfl,rfl⟩))
 go_ret2;exact⟨rfl,rfl⟩):P:=h
theorem zdB(h:yR w D p Ls)(hT:xt w):Calls prog 247 #[lkP p,.int .i64 0] w fun e w'=>e=.returned (Vh (neB Ls))∧w=w':=by
  have HCk:=za (Vu h (s:=0) (by omega) (b:=0) (by omega) (by omega));obtain⟨q,many,N,Dl,h1,h2,h3,h4⟩:=h;have HNx:=za (zi8 h1 hT);clear h1 h2 h3 h4 hT;unfold VD at HNx;unfold Vh
  cases hf:ug (neB Ls) 256 with
  | none =>
    rw[hf]at HNx;clear hf;have HNx2:Hid (Calls prog 282 #[mkP p,.int .i64 0] w fun e w'=>e=.returned (.tuple #[.int .i64 0,.bool false])∧w=w'):=HNx;exact Az5lt
  | some b =>
    rw[hf]at HNx;clear hf;have HNx2:Hid (Calls prog 282 #[mkP p,.int .i64 0] w fun e w'=>e=.returned (.tuple #[.int .i64 (b:Nat),.bool true])∧w=w'):=HNx;exact Az5lt
theorem zkt(h:yR w D p Ls){b:Nat}{l:List Nat}(hl:Ls[b]? = some l) :
  Calls prog 248 #[lkP p,.int .i64 b] w fun e w' => ∃ a c,e=.returned (.tuple #[.slice a l.length c,.int .i64 0])∧yo w' a c l∧xh w (.slice a l.length c)∧yR w' D p (Ls.set b [])∧Mod D w w':=by
 obtain⟨hll,hsm,hb,_⟩:=h.small hl;have hbl:b<Ls.length:=by rw[h.len];exact hb
 have HLi:=za (zeB h hl);have HW:=za h;have HSM:=za hsm;have HL:=za hl;have HBL:=za hbl;obtain⟨n,hn⟩:=zc l.length;rw[hn]at HLi hll;have HN:=za hn;clear h hl hsm hn hbl;have b0:(0:Int)≤(b:Int):=by omega
 have wn:IntKind.i64.wrap (n:Int)=n:=zo _ (by omega);go_enter func248,ntmps248;go_upto_region 3 with(go_at_call 283;refine HLi.out.mono ?_;rintro e w1 ⟨a,c,rfl,hr,hf,hp⟩)
 have HW1:=za (HW.out.pure hp);have HND:Hid (∀ g,(Value.slice a n c).ownBlock=some g → ¬ D g):=za (fun g hg e=>by have:=hf g hg;have:=HW.out.lt e;omega);have HFr:=za hf;have HR:=za hr;have HP:=za hp;clear hr hf hp;go_loopw [18] (fun v wr => ∃ j,v=.int .i64 (j:Nat)∧j≤n∧yR wr D p (Ls.set b (l.drop j))∧yo wr a c l∧Mod D w wr) (fun v _=>n-(intOf v).toNat)
 case atStart =>
  refine⟨0,rfl,yk _,?_,HR.out,Mod.of_pure HP.out⟩;rw[List.drop_zero,set_self HL.out];exact HW1.out
 case round =>
  obtain⟨j,rfl,hj,hw,hr,hm⟩:=hrel;have HWr:=za hw;have HRr:=za hr;have HMr:=za hm;by_cases hlt:j<n
  ·have hlt':(j:Int)<(n:Int):=by omega
   have j0:(0:Int)≤(j:Int):=by omega
   have wj:IntKind.i64.wrap ((j:Int)+1)=(j:Int)+1:=zo _ (by omega);obtain⟨y,hy⟩ : ∃ y,l[j]? = some y:=⟨_,zQ (by rw[HN.out];exact hlt)⟩;have hdr:l.drop j=y::l.drop (j+1):=by
    have hjl:j<l.length:=by rw[HN.out];exact hlt
    rw[ja hjl];rw[zQ hjl]at hy;injection hy with hy
    rw[hy]
   obtain⟨ad,had,z0⟩:=VQ (qm hr) hy;have hRe:=JS hw (s:=y) (b:=b) (l:=l.drop j) (HSM.out y (yh hy)) (yj HBL.out) (by rw[hdr];exact yt);rw[List.set_set,hdr,List.erase_cons_head]at hRe;have HRe:=za hRe;subst had;clear hy hw hr hm hdr hRe
   go_wp2_with (go_at_call 218;refine HRe.out.mono ?_;rintro e w5 ⟨rfl,q1,q2⟩)
   go_roundw
   case rel=>exact⟨j+1,by go_num,hlt,q1,zA HRr.out q2 (by rw[HN.out];exact HND.out),HMr.out.trans q2⟩
   case measure=>simp[intOf];omega
  ·have e:n=j:=by omega
   subst e;have HWe:Hid (yR wr D p (Ls.set b [])):=za (by have:=hw;rw[ZK (by rw[HN.out];exact zH _)]at this;exact this);clear hw hr hm hj hlt;go_wp2;go_ret2;exact⟨a,c,by rw[HN.out];rfl,HRr.out,by rw[HN.out];exact HFr.out,HWe.out,HMr.out⟩
end
end
section
open Go.RowKit Go.Shelf
section
variable{w w':World}{D S:Nat→Prop}{p:Nat}{xs:List Nat}
theorem ziY{N:Nat}(hN:1≤N)(hN2:N≤4194304)(w:World):Calls prog 277 #[.int .i64 N] w fun e w' => ∃ g,e=.returned (.slice (some ⟨g,0,none⟩) N N)∧zn w' (.slice (some ⟨g,0,none⟩) N N) 1 (zW (List.range N))∧zb w w':=by
 obtain⟨i0,hi,iz0,iz1,iz2⟩:=xy jK;have hmk : ∀ W:World,(Instr.makeSlice 172 (.int .i64 (N:Int)) (.int .i64 (N:Int))).run prog W=.ok (.slice (some ⟨W.heap.size,0,none⟩) N N) (W.alloc (.cells (zW (xZ N 0)).toArray 103)):=fun W=>by
  exact Azqx8
 clear hi iz0 iz1 iz2;go_enter func277,ntmps277;go_upto_region 3 with fail
 have hal:zb w (w.alloc (.cells (zW (xZ N 0)).toArray 103)):=(Mod.refl _ w).alloc _;have hr0:=zi (w:=w) (o := .cells (zW (xZ N 0)).toArray 103 (0,0)) rfl;have HAL:=za hal;have HR0:=za hr0;clear hal hr0 hmk;generalize w.alloc (.cells (zW (xZ N 0)).toArray 103)=W1 at *;obtain⟨g,hg⟩:=zc w.heap.size;rw[hg]at HR0 ⊢;have HG:=za hg;clear hg;go_loopw [9] (fun v wr => ∃ i,v=.int .i64 (i:Nat)∧i≤N∧zb w wr∧wr.heap[g]? = some (.cells (zW (xZ N i)).toArray 103 (0,0))) (fun v _=>N-(intOf v).toNat)
 case atStart=>exact⟨0,rfl,yk _,HAL.out,HR0.out⟩
 case round =>
  clear HAL HR0;obtain⟨i,rfl,hi,hpu,hrw⟩:=hrel;have HPU:=za hpu;have HRW:=za hrw;clear hpu hrw;by_cases hlt2:i<N
  ·have hlt':(i:Int)<(N:Int):=by omega
   exact Azkt7
  ·have e:N=i:=by omega
   subst e;have hrd:zn wr (.slice (some ⟨g,0,none⟩) N N) 1 (zW (List.range N)):=by
    exact Az8wo
   have HRD:=za hrd;have hge:(N:Int)≤(N:Int):=Int.le_refl _;clear hrd;go_wp2;go_ret;exact⟨g,rfl,HRD.out,HPU.out⟩
theorem zeN{q N:Nat}{Dl:Nat→Prop}(hb:w.heap[p]? = some (.cells #[lkP q] 290 (0,0)))(hl:yf w Dl q N [xs]){s:Nat}(hs:s<4194304) :
  Calls prog 231 #[lkP p,.int .u32 s] w fun e w'=>e=.returned (.tuple #[]) ∧ ∃ N' Dl',yf w' Dl' q N' [xs]∧s<N'∧Mod Dl w w' ∧ ∀ k,Dl' k→Dl k∨w.heap.size≤k:=by
 obtain⟨l4,l5,l6⟩:=hl.lenH;have HNo:=za (zcv hl);have HL:=za hl;have HNP:=za (VA hb hl);clear hl l4;have wn:IntKind.i64.wrap (s:Int)=(s:Int):=zo _ (by omega);obtain⟨hb_0,hb_f,hb_l,H_hb⟩:=cr1 hb;clear hb;by_cases c:s<N
 ·have d1:decide ((N:Int)≤(s:Int))=false:=zO (by omega);have d1n:decide (N≤s)=false:=zO (by omega);go_enter func231,ntmps231
  go_wp2_with (go_at_call 275;refine HNo.out.mono ?_;rintro e w' ⟨rfl,rfl⟩)
  go_end0
  exact⟨rfl,N,Dl,HL.out,c,Mod.refl _ _,fun k hk => .inl hk⟩
 ·have d1:decide ((N:Int)≤(s:Int))=true:=zK (by omega);have d1n:decide (N≤s)=true:=zK (by omega);have w2:IntKind.i64.wrap (2*(N:Int))=2*(N:Int):=zo _ (by omega);have w3:IntKind.i64.wrap ((s:Int)+1)=(s:Int)+1:=zo _ (by omega);have HSa:=za (fun W=>ziY l6 l5 W);go_enter func231,ntmps231;go_upto_region 2 with(go_at_call 275;refine HNo.out.mono ?_;rintro e w' ⟨rfl,rfl⟩)
  have hren : ∀(wr:World) (g:Nat) (M:Int),zb w wr→zn wr (.slice (some ⟨g,0,none⟩) N N) 1 (zW (List.range N))→(N:Int)≤M→M≤4194304→(s:Int)<M→Calls prog 276 #[lkP q,.slice (some ⟨g,0,none⟩) N N,.int .i64 M] wr fun e w'=>e=.returned (.int .i64 0) ∧ ∃ N' Dl',yf w' Dl' q N' [xs]∧s<N'∧Mod Dl w w' ∧ ∀ k,Dl' k→Dl k∨w.heap.size≤k:=fun wr g M hpu hrd h1 h2 h3=>by
   obtain⟨M,rfl⟩:=Int.eq_ofNat_of_zero_le (show 0≤M by omega);refine(Q8 (HL.out.pure hpu) (by simp) (some ⟨g,0,none⟩) N hrd (M:=M) (by omega) (by omega)).mono ?_;rintro e w' ⟨he,⟨D',g1,g2⟩,g3⟩;have hq:=HL.out.self;refine⟨he,M,D',g1,by omega,(Mod.of_pure hpu).trans (g3.mono (fun k _ hk=>by rw[hk];exact hq)),fun k hk => ?_⟩;rcases g2 k hk with e | e
   ·exact .inl (by rw[e];exact hq)
   ·exact .inr (zJ hpu.size e)
  have HRen:=za hren;clear hren;obtain⟨m1,hm1⟩ : ∃ m1:Int,(if 2*(N:Int)<(s:Int)+1 then(s:Int)+1 else 2*(N:Int))=m1:=⟨_,rfl⟩;have hm2:(N:Int)≤m1∧(s:Int)<m1:=by split at hm1<;>omega
  obtain⟨M,hM⟩ : ∃ M:Int,(if m1<4194304 then m1 else(4194304:Int))=M:=⟨_,rfl⟩;have hM1:(N:Int)≤M∧M≤4194304∧(s:Int)<M:=by split at hM<;>omega
  have HM:=za hM1;have HM0:=za hM;have HM2:=za hm1;clear hM1 hM hm2 hm1;refine rHd (S:=fun u=>u.cell? ⟨p,0,none⟩=some (lkP q)) (by exact hb_0) (fun h_ => ?_);refine hTk 0 ?_;refine hTk 1 ?_;refine hTk 2 ?_;refine hLd 3 ?_;refine hTk 4 ?_;refine hTk 6 ?_;refine hTk 7 ?_;refine hTk 8 ?_;refine hTk 9 ?_;refine hTk 10 ?_;refine hTk 11 ?_;rw[HM2.out];refine hTk 12 ?_;rw[HM0.out]
  (refine hSt 5 (fun K hK => ?_);go_simp;refine(HSa.out _).mono ?_;rintro e w1 ⟨g,rfl,hrd,hp1⟩;refine hK.out _ _ ?_ (fun h_ => ?_);(· exact hp1.cell (fun h=>h) hb_0);clear hK K;refine clA ?_)
  (refine hSt 13 (fun K hK => ?_);go_simp;refine(HRen.out _ _ _ (Mod.of_drew hp1) hrd HM.out.1 HM.out.2.1 HM.out.2.2).mono ?_;rintro e w2 ⟨rfl,N',Dl',q1,q2,q3,q4⟩;refine hK.out _ _ ?_ (fun h_ => ?_);(· exact q3.cell HNP.out hb_0);clear hK K;refine clA ?_)
  refine hDn ?_;clear h_;go_wp2
  go_end0
  exact⟨rfl,N',Dl',q1,q2,q3,q4⟩
theorem zaq(h:xc w D p xs){s:Nat}(hs:s<4194304)(hn:s∉xs) :
    Calls prog 179 #[lkP p,.int .u32 s] w fun e w'=>e=.returned (.int .i64 0)∧(∃ D',xc w' D' p (xs++[s]) ∧ ∀ k,D' k→D k∨w.heap.size≤k)∧Mod D w w':=by
  obtain⟨q,N,Dl,hb,hl,hd⟩:=h;have HC:=za (UR hb hs);have HRo:=za (zeN hb hl hs);have HN:=za (VA hb hl);have HD:=za hd;have HB:=za hb;have HNI:Hid (¬ inL [xs] s):=fun h=>hn (KU.1 h)
  clear hl hd hs hn;go_enter func179,ntmps179;go_upto_region 5 with(first
    | (go_at_call 209;refine HC.out.mono ?_;rintro e w' ⟨rfl,rfl⟩)
    | (go_at_call 231;refine HRo.out.mono ?_;rintro e w1 ⟨rfl,N',Dl',hl1,hs1,hm1,hg1⟩))
  have hb1:=hm1.heap HN.out HB.out;have HBa:=za (U5 hl1 (k:=0) hs1 rfl HNI.out);have HN1:=za (VA hb1 hl1);have HM1:=za hm1;have HG1:=za hg1;clear hl1 hs1 hm1 hg1 hb;obtain⟨hb1_0,hb1_f,hb1_l,H_hb1⟩:=cr1 hb1;clear hb1
  go_wp2_with (go_at_call 232;refine HBa.out.mono ?_;rintro e w2 ⟨rfl,hl2,hm2⟩)
  go_ret;refine⟨rfl,⟨fun k=>k=p∨Dl' k,⟨q,N',Dl',hm2.heap HN1.out H_hb1.out,hl2,fun _=>vg⟩,fun k hk => ?_⟩,?_⟩
  · rcases hk with rfl | e
    · exact .inl ((HD.out _).2 (.inl rfl))
    · rcases HG1.out k e with e | e
      · exact .inl ((HD.out _).2 (.inr e))
      · exact .inr e
  · refine Mod.trans' HM1.out hm2 (fun i _ hi=>(HD.out i).2 (.inr hi)) (fun i hi hk => ?_)
    rcases HG1.out i hk with e | e
    · exact(HD.out i).2 (.inr e)
    · omega
theorem zjV{N:Nat}{Ls:List (List Nat)}{gF gL cF cL:Nat}{F:List Nd}(h:yZ w p gF gL cF cL N Ls F){n:Nat}(hn:n<N):Calls prog 299 #[lkP p,.int .u32 n] w fun e w'=>e=.returned (.tuple #[.int .u32 n,.int .i64 0])∧w=w':=by
 have hb:=h.box;have d1:decide ((N:Int)≤(n:Int))=false:=zO (by omega);have d1n:decide (N≤n)=false:=zO (by omega);have hnm:=h.nm;have wn:IntKind.i64.wrap (n:Int)=(n:Int):=zo _ (by omega);clear h;generalize F.length=fl at *;generalize Ls.length=ll at *;obtain⟨hb_0,hb_1,hb_2,hb_f,hb_l,H_hb⟩:=cr3 hb;clear hb;go_enter func299,ntmps299;go_wp2;go_ret2;exact⟨rfl,rfl⟩
theorem zh7{Dl:Nat→Prop}{q N:Nat}{x:Nat}{l:List Nat}(h:yf w Dl q N [x::l]):Calls prog 269 #[lkP q,.int .i64 0] w fun e w'=>e=.returned (.tuple #[.int .u32 x,.int .i64 0])∧zb w w':=by
 obtain⟨gF,gL,cF,cL,F,h,h2⟩:=h;have HLi:=za (X8 h (k:=0) (by simp));have HRi:=za (fun(W:World) (hW:zb w W)=>Jb (h.pure hW) (k:=0) (by omega));have HRe:=za (fun(W:World) (hW:zb w W)=>zjV (h.pure hW) (n:=x) (h.ok.own 0 _ rfl x (by simp)).1);have hNF:N+0<F.length:=h.ok.hd_lt (by simp);obtain⟨c0,c1,c2⟩:=h.at_ (i:=N+0) hNF;rw[(h.ok.ring 0 _ rfl).at_ (i:=0) (x:=N+0) (y:=x) rfl rfl]at c1;have hb:=h.box;obtain⟨FL,hFL⟩:=zc F.length;rw[hFL]at hb hNF;simp only[Nat.add_zero]at hNF c1;have dr:decide (N<FL)=true:=zK hNF;have hN4:=h.nm;clear h h2 c0 c2;obtain⟨hb_0,hb_1,hb_2,hb_f,hb_l,H_hb⟩:=cr3 hb;clear hb;go_enter func269,ntmps269;go_upto_region 4 with(go_at_call 296;refine HLi.out.mono ?_;rintro e w' ⟨rfl,rfl⟩)
 refine rHd (S:=fun u=>u=w.drew) rfl (fun h_ => ?_);refine hTk 0 ?_;refine hTk 1 ?_;refine hTk 2 ?_;refine hTk 3 ?_;refine hTk 5 ?_;refine hTk 6 ?_;refine hLd 4 ?_
 (refine hSt 7 (fun K hK => ?_);go_simp;refine zm (HRi.out _ ((Mod.refl _ w).drew)) ?_;rintro e w1 ⟨rfl,rfl⟩;refine hK.out _ _ ?_ (fun h_ => ?_);(· rfl);clear hK K;refine clA ?_)
 refine hTk 8 ?_;refine hTk 9 ?_;refine hLd 10 ?_
 (refine hSt 11 (fun K hK => ?_);go_simp;refine zm (HRe.out _ ((Mod.refl _ w).drew)) ?_;rintro e w2 ⟨rfl,rfl⟩;refine hK.out _ _ ?_ (fun h_ => ?_);(· rfl);clear hK K;refine clA ?_)
 refine hTk 12 ?_;refine hTk 13 ?_;refine hTk 14 ?_;refine hTk 15 ?_;refine hDn ?_;clear h_;go_wp2;go_ret2;exact⟨rfl,(Mod.refl _ w).drew⟩
theorem zgB{q N:Nat}{Dl:Nat→Prop}{x:Nat}{l:List Nat}(hb:w.heap[p]? = some (.cells #[lkP q] 290 (0,0)))(hl:yf w Dl q N [x::l]):Calls prog 268 #[lkP p,.func (.func 269) #[] #[]] w fun e w'=>e=.returned (.tuple #[.int .u32 x,.int .i64 0])∧zb w w':=by
  have HC:=za (KW hb);have HF:=za (zh7 hl);clear hl;obtain⟨hb_0,hb_f,hb_l,H_hb⟩:=cr1 hb;clear hb;go_enter func268,ntmps268
  go_wp2_with (first
    | (go_at_call 209;refine HC.out.mono ?_;rintro e w' ⟨rfl,rfl⟩)
    | (go_at_call 269;refine HF.out.mono ?_;rintro e w' ⟨rfl,hp⟩))
  go_ret2;exact⟨rfl,hp⟩
theorem zfS{x:Nat}{l:List Nat}(h:xc w D p (x::l)):Calls prog 224 #[lkP p] w fun e w'=>e=.returned (.tuple #[.int .u32 x,.int .i64 0])∧zb w w':=by
 obtain⟨q,N,Dl,hb,hl,hd⟩:=h;have HE:=za (zgB hb hl);clear hl hd hb;go_enter func224,ntmps224
 go_wp2_with (go_at_call 268;refine HE.out.mono ?_;rintro e w' ⟨rfl,hp⟩)
 go_ret2;exact⟨rfl,hp⟩
def Je(w:World)(l:List Nat)(e:Ending)(w':World):Prop :=
 ∃ B a c,e=.returned (.func (.func 259) #[] #[.pointer (some ⟨B,0,none⟩)])∧kw w' B a c l∧zb w w'∧w.heap.size≤B∧xh w (.slice a l.length c)
theorem zi5{q N:Nat}{Ls:List (List Nat)}(h:yf w D q N Ls){k:Nat}{l:List Nat}(hl:Ls[k]? = some l)(hll:l.length≤4194304):Calls prog 211 #[lkP q,.int .i64 k] w (Je w l):=by
  have HA:=za (Ku h hl);obtain⟨n,hn⟩:=zc l.length;rw[hn]at HA hll;have HN:=za hn;clear h hl hn;obtain⟨i0,hi,iz0,iz1,iz2⟩:=xy jK;go_enter func211,ntmps211;go_upto_region 2 with(first
    | (go_at_call 258;refine HA.out.mono ?_;rintro e w1 ⟨a,c,rfl,hrow,hfr,hp1⟩;have hrd:=qm hrow;rw[HN.out]at hrd;have HRD:=za hrd;have HP1:=za hp1;clear hrow hfr hp1 hrd)
    | (at_builtin;refine uE _ rfl _ _ 172 rfl 103 i0 _ 1 4 underlying172 hi iz0 iz1 iz2 rfl (by decide) (.slice none 0 0) 0 [] rfl (vD _ _ _ _) _ (zW l) n rfl HRD.out (by rw[jG,HN.out];omega) (by unfold maxLen;omega) (by omega) ?_;intro a7 c7 w5 hr7 hg7 hb7))
  have hp5:zb w1 w5:=Mod.of_grown hg7 (fun k e _=>by cases e);have hr:=hr7;rw[jJ,Yh]at hr;have hal:zb w5 (w5.alloc (.cells #[.slice a7 n c7] 172)):=(Mod.refl _ w5).alloc _;have hbx:=zi (w:=w5) (o := .cells #[.slice a7 n c7] 172 (0,0)) rfl;have hs1:=HP1.out.size;have hs5:=hp5.size;have hf7:xh w (.slice a7 n c7):=fun g hg=>by
    rw[jJ]at hb7;rcases hb7 with e | e
    · rw[e]at hg;cases hg
    · rw[e]at hg;cases hg;exact hs1
  have HE:Hid (Je w l (.returned (.func (.func 259) #[] #[.pointer (some ⟨w5.heap.size,0,none⟩)])) (w5.alloc (.cells #[.slice a7 n c7] 172))):=za
    ⟨w5.heap.size,a7,c7,rfl,⟨by rw[HN.out];exact hbx,by unfold yo;rw[HN.out];exact zA hr hal (fun _ _ h=>h)⟩,(HP1.out.trans hp5).trans hal,by omega,by rw[HN.out];exact hf7⟩
  clear hr hr7 hg7 hb7 hp5 hal hbx hs1 hs5 hf7;go_wp2;go_ret;exact HE.out
theorem zeY(h:xc w D p xs):Calls prog 157 #[lkP p] w (Je w xs):=by
  have hlen:=h.law.2.2;obtain⟨q,N,Dl,hb,hl,hd⟩:=h;have HC:=za (KW hb);have HA:=za (zi5 hl (k:=0) rfl hlen);clear hl hd hlen;obtain⟨hb_0,hb_f,hb_l,H_hb⟩:=cr1 hb;clear hb;go_enter func157,ntmps157
  go_wp2_with (first
    | (go_at_call 209;refine HC.out.mono ?_;rintro e w' ⟨rfl,rfl⟩)
    | (go_at_call 211;refine HA.out.mono ?_;rintro e w1 ⟨B,a,c,rfl,h1,h2,h3,h4⟩))
  go_ret;exact⟨B,a,c,rfl,h1,h2,h3,h4⟩
end
end
section
open Go.RowKit
@[go_sem] theorem zkQ (w : World) (r : Option Nat) : (binOp .eql 124 (.map r) (.map none)).run prog w=.ok (.bool r.isNone) w := run_eql_map_nil w _ _ _ r underlying124
def Z9(now:Nat)(ws:List Nat)(bm bb:Nat):List Value := .int .u64 now::(ws.map lkP++[.map (some bm),.map (some bb)])
structure uX(w:World)(p now:Nat)(ws:List Nat)(bm bb:Nat):Prop where
 box:w.heap[p]? = some (.cells (Z9 now ws bm bb).toArray 210 (0,0))
 len:ws.length=8
 now:now<18446744073709551616
section
variable{w w':World}{p now bm bb:Nat}{ws:List Nat}
theorem uX.mod{S:Nat→Prop}(h:uX w p now ws bm bb)(hm:Mod S w w')(hp : ¬ S p):uX w' p now ws bm bb:=⟨hm.heap hp h.box,h.len,h.now⟩
theorem uX.cells(h:uX w p now ws bm bb):w.cell? ⟨p,0,none⟩=some (.int .u64 now)∧w.cell? ⟨p,9,none⟩=some (.map (some bm))∧w.cell? ⟨p,10,none⟩=some (.map (some bb))∧(∀ i,w.frozen? ⟨p,i,none⟩=false)∧p<w.heap.size:=by
 have g:=fun j=>zj w p j _ _ (0,0) h.box
 have hl:=h.len;refine⟨by rw[g,vf];rfl,?_,?_,fun i=>yP w p i _ _ h.box,zl h.box⟩
 ·rw[g,vf];unfold Z9;rw[Zz,kK (by simp;omega)];simp[hl]
 ·rw[g,vf];unfold Z9;rw[Zz,kK (by simp;omega)];simp[hl]
theorem uX.level(h:uX w p now ws bm bb){l q:Nat}(hq:ws[l]? = some q):w.cell? ⟨p,1+l,none⟩=some (lkP q):=by
 rw[zj w p (1+l) _ _ (0,0) h.box,vf];unfold Z9;rw[show 1+l=l+1 by omega,Zz,uc (by have:=(zC.1 hq).1;simpa using this),yu,hq]
 rfl
theorem YB(h:uX w p now ws bm bb){s:Nat}(hs:s<4194304):Calls prog 122 #[lkP p,.int .u32 s] w fun e w'=>e=.returned (.int .i64 0)∧w=w':=by
 obtain⟨c0,c9,c10,_,_⟩:=h.cells;clear h;have d1:decide ((4194304:Int)≤(s:Int))=false:=zO (by omega);have d1n:decide (4194304≤s)=false:=zO (by omega);go_enter func122,ntmps122;go_wp2;go_ret;exact⟨rfl,rfl⟩
theorem zgZ(h:uX w p now ws bm bb){s:Nat}(hs:4194304≤s)(h32:s≤4294967295):Calls prog 122 #[lkP p,.int .u32 s] w fun e w'=>e=.returned (.int .i64 2)∧w=w':=by
 obtain⟨c0,c9,c10,_,_⟩:=h.cells;clear h;have d1:decide ((4194304:Int)≤(s:Int))=true:=zK (by omega);have d1n:decide (4194304≤s)=true:=zK hs;go_enter func122,ntmps122;go_wp2;go_ret;exact⟨rfl,rfl⟩
def qg(s:Nat):Int:=if s<4194304 then 0 else 2
theorem Ke(h:uX w p now ws bm bb){s:Nat}(h32:s≤4294967295):Calls prog 122 #[lkP p,.int .u32 s] w fun e w'=>e=.returned (.int .i64 (qg s))∧w=w':=by
 unfold qg;by_cases hs:s<4194304
 ·rw[zh hs];exact YB h hs
 ·rw[zf hs];exact zgZ h (by omega) h32
theorem KI(h:uX w p now ws bm bb){dl:Nat}(hd:dl<18446744073709551616)(hne:dl≠now) :
  Calls prog 198 #[lkP p,.int .u64 dl] w fun e w'=>e=.returned (.tuple #[.int .i64 (lvl now dl:Nat),.int .i64 (bkt now dl:Nat)])∧zb w w':=by
 obtain⟨c0,_,_,_,_⟩:=h.cells;have hn:=h.now;obtain⟨b1,b2,b3⟩:=zjg hn hd hne;have hx:dl ^^^ now<18446744073709551616:=qy (n:=64) hd hn;have HLn:=za (zgF _ hx w);have hxor:=Yp dl now hd hn;have hl8:=(uK hn hd).1;have hbk:bkt now dl=dl/256 ^ lvl now dl%256:=rfl;have HBK:=za hbk;clear h hbk hx;generalize yL (dl ^^^ now)=bl at *;generalize dl ^^^ now=x at *;obtain⟨lv,hlv⟩:=zc (lvl now dl);obtain⟨bk,hbk2⟩:=zc (bkt now dl);rw[hlv]at b3 hl8 HBK;rw[hbk2]at HBK;have w1:IntKind.i64.wrap ((bl:Int)-1)=(bl:Int)-1:=zo _ (by omega);have e8:((bl:Int)-1)/8=(lv:Int):=by omega
 have w2:wrap64 (((bl:Int)-1)/8)=(lv:Int):=by rw[e8];exact jg _ (by omega)
 have b0:(0:Int)≤(bl:Int)-1:=by omega
 have HLV:=za hlv;have HB2:=za hbk2;clear hlv hbk2 hne;go_enter func198,ntmps198;go_upto_region 2 with(go_at_call 246;refine HLn.out.mono ?_;rintro e w' ⟨rfl,rfl⟩)
 have w3:IntKind.i64.wrap (8*(lv:Int))=8*(lv:Int):=zo _ (by omega);have l0:(0:Int)≤(lv:Int):=by omega
 have l1:(lv:Int)<8:=by omega
 have hand:bits .and .u64 ((dl:Int)/(2:Int) ^ (8*lv)) 255=(bk:Int):=by
  have hq:dl/2 ^ (8*lv)<18446744073709551616:=kG (Zk _ _) hd;have:=Yw (dl/2 ^ (8*lv)) 255 hq (by decide);rw[show(255:Nat)=2 ^ 8-1 from rfl,Vm]at this;rw[HBK.out,show(256:Nat) ^ lv=2 ^ (8*lv) by rw[Nat.pow_mul],← this];simp
 have hbk8:bk<256:=by rw[HBK.out];exact xY _ (by decide)
 have wb:wrap64 (bk:Int)=(bk:Int):=jg _ (by omega);have hend:Ending.returned (.tuple #[.int .i64 (((bl:Int)-1)/8),.int .i64 (bk:Int)])=.returned (.tuple #[.int .i64 (lvl now dl:Nat),.int .i64 (bkt now dl:Nat)]):=by rw[e8,HLV.out,HB2.out]
 have HEnd:=za hend;clear hend wb HBK hxor
 go_region
 go_wp2;go_ret2;exact⟨HEnd.out,(Mod.refl _ _).drew⟩
end
structure yi(w:World)(D:Nat→Prop)(p now:Nat)(ws:List Nat)(bm bb:Nat)(Ds:Nat→Nat→Prop)(Dm Db:DataW Unit)(M:List Td)(Lss:List (List (List Nat))):Prop where
 box:uX w p now ws bm bb
 what:yI w bm M Dm
 births:xw w bb M Db
 len:Lss.length=8
 lev : ∀(l q:Nat) (Ls:List (List Nat)),ws[l]? = some q→Lss[l]? = some Ls→yR w (Ds l) q Ls
 apart : ∀ l l' k,l<8→l'<8→l≠l'→Ds l k → ¬ Ds l' k
 own : ∀ l k,l<8→Ds l k→k≠p∧k≠bm∧k≠bb
 ne:bm≠bb∧bm≠p∧bb≠p
 dd : ∀ k,D k↔(k=p∨k=bm∨k=bb ∨ ∃ l,l<8∧Ds l k)
section
variable{w w':World}{D:Nat→Prop}{p now:Nat}{ws:List Nat}{bm bb:Nat}{Ds:Nat→Nat→Prop}{Dm Db:DataW Unit}{M:List Td}{Lss:List (List (List Nat))}
theorem yi.frame{S:Nat→Prop}(h:yi w D p now ws bm bb Ds Dm Db M Lss)(hm:Mod S w w')(hd : ∀ k,D k → ¬ S k):yi w' D p now ws bm bb Ds Dm Db M Lss :=
 ⟨h.box.mod hm (hd p ((h.dd p).2 (.inl rfl))),h.what.mod hm (hd bm ((h.dd bm).2 (.inr (.inl rfl)))),h.births.mod hm (hd bb ((h.dd bb).2 (.inr (.inr (.inl rfl))))),h.len,
  fun l q Ls hq hl=>(h.lev l q Ls hq hl).frame hm (fun k hk=>hd k ((h.dd k).2 (.inr (.inr (.inr ⟨l,by have:=(zC.1 hl).1;rw[h.len]at this;exact this,hk⟩))))),h.apart,h.own,h.ne,h.dd⟩
theorem yi.pure(h:yi w D p now ws bm bb Ds Dm Db M Lss)(hm:zb w w'):yi w' D p now ws bm bb Ds Dm Db M Lss:=h.frame hm (fun _ _ h=>h)
theorem yi.lt(h:yi w D p now ws bm bb Ds Dm Db M Lss){k:Nat}(hk:D k):k<w.heap.size:=by
 rcases(h.dd k).1 hk with rfl | rfl | rfl | ⟨l,hl,hk⟩
 ·exact zl h.box.box
 ·exact h.what.own.lt
 ·exact h.births.own.lt
 ·obtain⟨q,hq⟩ : ∃ q,ws[l]? = some q:=⟨_,zQ (by rw[h.box.len];exact hl)⟩;obtain⟨Ls,hL⟩ : ∃ Ls,Lss[l]? = some Ls:=⟨_,zQ (by rw[h.len];exact hl)⟩;exact(h.lev l q Ls hq hL).lt hk
theorem za1(h:yi w D p now ws bm bb Ds Dm Db M Lss){x:Td}{M':List Td}(hx:x∈M)(hs:x.slot≤4294967295)(hb:x.birth≤18446744073709551615)(hM : ∀ y,y∈M'↔y∈M∧y.slot≠x.slot)(hM2 : ∀ y,y∈M'↔y∈M∧y.birth≠x.birth)(hl:M'.length+1=M.length) :
  Calls prog 201 #[lkP p,tdV x] w fun e w'=>e=.returned (.tuple #[])∧(∃ Dm' Db',yi w' D p now ws bm bb Ds Dm' Db' M' Lss)∧Mod (fun k=>k=bm∨k=bb) w w':=by
 have hal:zb w (w.alloc (.cells #[.int .u32 x.slot,.int .u64 x.dl,.int .u64 x.birth] 169)):=(Mod.refl _ w).alloc _;have h3:=zi (w:=w) (o := .cells #[.int .u32 x.slot,.int .u64 x.dl,.int .u64 x.birth] 169 (0,0)) rfl;have HC:=za (h.pure hal);have n1:bm≠w.heap.size:=fun e=>by have:=h.what.own.lt;omega
 have n2:bb≠w.heap.size:=fun e=>by have:=h.births.own.lt;omega
 have HX:=za hx;have HM:=za hM;have HM2:=za hM2;have HAL:=za hal;obtain⟨ne1,ne2,ne3⟩:=h.ne;clear h hx hM hM2 hal;unfold tdV;go_enter func201,ntmps201;go_upto_region 1 with fail
 generalize w.alloc (.cells #[.int .u32 x.slot,.int .u64 x.dl,.int .u64 x.birth] 169)=W1 at *;generalize w.heap.size=b3 at *;obtain⟨c0,c9,c10,_,_⟩:=HC.out.box.cells;have H3:=za h3;obtain⟨h3_0,h3_1,h3_2,h3_f,h3_l,H_h3⟩:=cr3 h3;clear h3
 go_still_tail 6,(by kernel_rfl)
 go_upto_region 2 with(at_delete;refine ZZ _ rfl _ _ 124 103 rfl 169 xU underlying124 uZ bm M.length Dm rfl HC.out.what.own.drew (.int .u32 x.slot) (kS x.slot) rfl (uo hs) ?_;intro w2 ho2 ht2;go_frame)
 have hm2:Mod (fun k=>k=bm) W1 w2:=Mod.of_drew (Mod.of_grown ht2.grown (fun k e _=>by cases e;rfl));have hbx2:=HC.out.box.mod hm2 (fun e=>ne2 e.symm);have hbi2:=HC.out.births.mod hm2 (fun e=>ne1 e.symm);have h32:=hm2.heap (fun e=>n1 e.symm) H3.out;have hT2:=HC.out.what.del HX.out HM.out hl ho2;have HM2':=za hm2;have HT2:=za hT2;have HBI2:=za hbi2;clear h3_0 h3_1 h3_2 h3_f h3_l;clear H_h3 c0 c9 c10 ho2 ht2 hm2 hbi2 hT2;obtain⟨c0,c9,c10,_,_⟩:=hbx2.cells;clear hbx2;obtain⟨h32_0,h32_1,h32_2,h32_f,h32_l,H_h32⟩:=cr3 h32;clear h32
 go_still_tail 6,(by kernel_rfl)
 go_wp2_with (at_delete;refine ZZ _ rfl _ _ 208 27 rfl 316 uS underlying208 unitElem bb M.length Db rfl HBI2.out.own.drew (.int .u64 x.birth) (kB x.birth) rfl (qE hb) ?_;intro w3 ho3 ht3;go_frame)
 have hm3:Mod (fun k=>k=bb) w2 w3:=Mod.of_drew (Mod.of_grown ht3.grown (fun k e _=>by cases e;rfl));have hB3:=HBI2.out.del HX.out HM2.out hl ho3;have hmm:Mod (fun k=>k=bm∨k=bb) W1 w3:=(HM2'.out.mono (fun _ _ h=>Or.inl h)).trans (hm3.mono (fun _ _ h=>Or.inr h))
 go_end0
 refine⟨rfl,⟨_,_,HC.out.box.mod hmm (fun e=>by rcases e with e | e;exact ne2 e.symm;exact ne3 e.symm),HT2.out.mod hm3 (fun e=>ne1 e),hB3,HC.out.len,fun l q Ls hq hL=>(HC.out.lev l q Ls hq hL).frame hmm (fun k hk e => ?_),HC.out.apart,HC.out.own,HC.out.ne,HC.out.dd⟩,(HAL.out.mono (fun _ _ h=>h.elim)).trans hmm⟩;have hl8:l<8:=by have:=(zC.1 hL).1;rw[HC.out.len]at this;exact this
 obtain⟨_,o2,o3⟩:=HC.out.own l k hl8 hk;rcases e with e | e
 ·exact o2 e
 ·exact o3 e
end
section
variable{w w':World}{D:Nat→Prop}{p now:Nat}{ws:List Nat}{bm bb:Nat}{Ds:Nat→Nat→Prop}{Dm Db:DataW Unit}{M:List Td}{Lss:List (List (List Nat))}
def kt{α:Type}(f:Nat→α)(l:Nat)(v:α):Nat→α:=fun k=>if k=l then v else f k
theorem yi.level(h:yi w D p now ws bm bb Ds Dm Db M Lss){l q:Nat}{Ls':List (List Nat)}{D':Nat→Prop}(hl:l<8)(hq:ws[l]? = some q)(hw:yR w' D' q Ls')(hg:ye (Ds l) D' w)(hm:Mod (Ds l) w w') :
  ∃ D2,yi w' D2 p now ws bm bb (kt Ds l D') Dm Db M (Lss.set l Ls')∧ye D D2 w:=by
 have hlt : ∀ k,D k→k<w.heap.size:=fun k hk=>h.lt hk
 have inD : ∀ {l' k:Nat},l'<8→Ds l' k→D k:=fun hl' hk=>(h.dd _).2 (.inr (.inr (.inr ⟨_,hl',hk⟩)))
 have o:=fun k=>h.own l k hl
 refine⟨fun k=>k=p∨k=bm∨k=bb ∨ ∃ l',l'<8∧kt Ds l D' l' k,⟨h.box.mod hm (fun e=>(o p e).1 rfl),h.what.mod hm (fun e=>(o bm e).2.1 rfl),h.births.mod hm (fun e=>(o bb e).2.2 rfl),by rw[xp];exact h.len,fun l2 q2 Ls2 hq2 hl2 => ?_,fun l2 l3 k h2 h3 hne hk => ?_,fun l2 k h2 hk => ?_,h.ne,fun k=>vg⟩,fun k hk => ?_⟩
 ·unfold kt;by_cases e:l2=l
  ·subst e;rw[zh rfl];rw[yj (by rw[h.len];exact hl)]at hl2
   cases hl2
   rw[hq]at hq2
   cases hq2
   exact hw
  ·rw[zf e];rw[yq (fun c=>e c.symm)]at hl2;have hl8:l2<8:=by have:=(zC.1 hl2).1;rw[h.len]at this;exact this
   exact(h.lev l2 q2 Ls2 hq2 hl2).frame hm (fun k hk hk2=>h.apart l2 l k hl8 hl e hk hk2)
 ·unfold kt at hk ⊢;by_cases e:l2=l
  ·rw[zh e]at hk;have e3:l3≠l:=fun c=>hne (by rw[e,c])
   rw[zf e3];intro hk3;rcases hg k hk with c | c
   ·exact h.apart l l3 k hl h3 (fun c=>e3 c.symm) c hk3
   ·have:=hlt k (inD h3 hk3);omega
  ·rw[zf e]at hk;by_cases e3:l3=l
   ·rw[zh e3];intro hk3;rcases hg k hk3 with c | c
    ·exact h.apart l2 l k h2 hl e hk c
    ·have:=hlt k (inD h2 hk);omega
   ·rw[zf e3];exact h.apart l2 l3 k h2 h3 hne hk
 ·unfold kt at hk;by_cases e:l2=l
  ·rw[zh e]at hk;rcases hg k hk with c | c
   ·exact o k c
   ·have a1:=hlt p ((h.dd p).2 (.inl rfl));have a2:=hlt bm ((h.dd bm).2 (.inr (.inl rfl)));have a3:=hlt bb ((h.dd bb).2 (.inr (.inr (.inl rfl))));omega
  ·rw[zf e]at hk;exact h.own l2 k h2 hk
 ·rcases hk with e | e | e | ⟨l2,h2,hk⟩
  ·exact .inl ((h.dd k).2 (.inl e))
  ·exact .inl ((h.dd k).2 (.inr (.inl e)))
  ·exact .inl ((h.dd k).2 (.inr (.inr (.inl e))))
  ·unfold kt at hk;by_cases e:l2=l
   ·rw[zh e]at hk;rcases hg k hk with c | c
    ·exact .inl (inD hl c)
    ·exact .inr c
   ·rw[zf e]at hk;exact .inl (inD h2 hk)
end
section
variable{w w':World}{D:Nat→Prop}{p now:Nat}{ws:List Nat}{bm bb:Nat}{Ds:Nat→Nat→Prop}{Dm Db:DataW Unit}{M:List Td}{Lss:List (List (List Nat))}
def X4(M:List Td)(x:Td)(M':List Td):Prop:=(∀ y∈M,y.slot≠x.slot)∧(∀ y∈M,y.birth≠x.birth)∧M'=x::M∨x∈M∧(∀ y∈M,y.slot=x.slot→y=x)∧M'=M
theorem yI.putC{b:Nat}{x:Td}{M':List Td}(h:yI w b M Dm)(hc:X4 M x M')(ho:w'.ownsMap prog 103 uZ b (M.length+1) (Dm.put (kS x.slot) (tdD x))):yI w' b M' (Dm.put (kS x.slot) (tdD x)):=by
 rcases hc with⟨h1,_,rfl⟩ | ⟨h1,h2,rfl⟩
 ·exact h.put h1 ho
 ·exact h.again h1 h2 ho
theorem xw.putC{b:Nat}{x:Td}{M':List Td}(h:xw w b M Db)(hc:X4 M x M')(ho:w'.ownsMap prog 27 unitElem b (M.length+1) (Db.put (kB x.birth) (.agg []))):xw w' b M' (Db.put (kB x.birth) (.agg [])):=by
 rcases hc with⟨_,h1,rfl⟩ | ⟨h1,h2,rfl⟩
 ·exact h.put h1 ho
 ·exact h.again h1 ho
theorem Azur6 {P:Prop}(h:P:=by
 rcases hk with rfl | rfl
 ·exact(HC0.out.dd k).2 (.inr (.inl rfl))
 ·exact(HC0.out.dd k).2 (.inr (.inr (.inl rfl)))):P:=h
theorem zcx(h:yi w D p now ws bm bb Ds Dm Db M Lss){x:Td}{M':List Td}(hs:x.slot<4194304)(hd:x.dl<18446744073709551616)(hb:x.birth≤18446744073709551615)(hne:x.dl≠now)(hMl:M.length<maxLen){Ls:List (List Nat)}{L:List Nat}
  (hL:Lss[lvl now x.dl]? = some Ls) (hK:Ls[bkt now x.dl]? = some L) (hf : ¬ inL Ls x.slot) (hc:X4 M x M') :
  Calls prog 200 #[lkP p,tdV x] w fun e w'=>e=.returned (.tuple #[])∧(∃ D' Ds' Dm' Db',yi w' D' p now ws bm bb Ds' Dm' Db' M' (Lss.set (lvl now x.dl) (Ls.set (bkt now x.dl) (L++[x.slot])))∧ye D D' w)∧Mod D w w':=by
 have hal:zb w (w.alloc (.cells #[.int .u32 x.slot,.int .u64 x.dl,.int .u64 x.birth] 169)):=(Mod.refl _ w).alloc _;have h3:=zi (w:=w) (o := .cells #[.int .u32 x.slot,.int .u64 x.dl,.int .u64 x.birth] 169 (0,0)) rfl;have hl8:lvl now x.dl<8:=(uK h.box.now hd).1;have hbk:bkt now x.dl<256:=Yt;obtain⟨q,hq⟩ : ∃ q,ws[lvl now x.dl]? = some q:=⟨_,zQ (by rw[h.box.len];exact hl8)⟩;have HPl:=za (KI (h.pure hal).box hd hne);obtain⟨lv,hlv⟩:=zc (lvl now x.dl);obtain⟨bk,hbk2⟩:=zc (bkt now x.dl);rw[hlv]at hl8 hq hL HPl ⊢;rw[hbk2]at hbk hK HPl ⊢;have nD : ∀ k,D k→k≠w.heap.size:=fun k hk e=>by have:=h.lt hk;omega
 have HC0:=za h;have HC:=za (h.pure hal);have HND:=za nD;have HAL:=za hal;have HL:=za hL;have HK:=za hK;have HF:=za hf;have HCa:=za hc;have HQ:=za hq;clear h hal nD hL hK hf hc hq hlv hbk2 hne;obtain⟨ne1,ne2,ne3⟩:=HC0.out.ne;unfold tdV;go_enter func200,ntmps200;go_upto_region 1 with fail
 generalize w.alloc (.cells #[.int .u32 x.slot,.int .u64 x.dl,.int .u64 x.birth] 169)=W1 at *;obtain⟨b3,hb3⟩:=zc w.heap.size;rw[hb3]at h3 HND ⊢;have HB3:=za hb3;have H3:=za h3;clear hb3;obtain⟨h3_0,h3_1,h3_2,h3_f,h3_l,H_h3⟩:=cr3 h3;clear h3;go_upto_region 2 with(go_at_call 198;refine HPl.out.mono ?_;rintro e w2 ⟨rfl,hp2⟩)
 have h32:=hp2.heap (fun h=>h) H3.out;have HC2:=za (HC.out.pure hp2);have hcl:=HC2.out.box.level HQ.out;obtain⟨c0,c9,c10,_,_⟩:=HC2.out.box.cells;have H32:=za h32;have HP2:=za hp2;clear h3_0 h3_1 h3_2 h3_f h3_l;clear H_h3 HC hp2 HPl;obtain⟨h32_0,h32_1,h32_2,h32_f,h32_l,H_h32⟩:=cr3 h32;clear h32;have dl8:decide (lv<8)=true:=zK hl8;have l0:(0:Int)≤(lv:Int):=by omega
 have l1:(lv:Int)<8:=by omega
 have HPu:=za (ziN ((HC2.out.lev lv q Ls HQ.out HL.out).pure ((Mod.refl _ w2).drew:zb w2 w2.drew)) hs HK.out HF.out)
 go_still_tail 9,(by kernel_rfl)
 go_upto_region 3 with(go_at_call 249;refine HPu.out.mono ?_;rintro e w3 ⟨rfl,⟨D3,hw3,hg3⟩,hm3⟩)
 have hm3':Mod (Ds lv) w2 w3:=Mod.of_drew hm3;have inD : ∀ k,Ds lv k→D k:=fun k hk=>(HC0.out.dd k).2 (.inr (.inr (.inr ⟨lv,hl8,hk⟩)))
 have hg3':ye (Ds lv) D3 w2:=hg3;obtain⟨D4,hC3,hg4⟩:=HC2.out.level hl8 HQ.out hw3 hg3' hm3';have h33:=hm3'.heap (fun e=>HND.out b3 (inD b3 e) rfl) H32.out;have HC3:=za hC3;have HG4:=za hg4;have HM3:=za (hm3'.mono (fun k _ hk=>inD k hk):Mod D w2 w3);have H33:=za h33;clear h32_0 h32_1 h32_2 h32_f h32_l;clear H_h32 hw3 hg3 hm3 hm3' inD hg3' hC3 hg4 HPu c0 c9 c10 hcl dl8;obtain⟨c0,c9,c10,_,_⟩:=HC3.out.box.cells;have nb1:bm≠b3:=fun e=>HND.out bm ((HC0.out.dd bm).2 (.inr (.inl rfl))) e
 have nb2:bb≠b3:=fun e=>HND.out bb ((HC0.out.dd bb).2 (.inr (.inr (.inl rfl)))) e
 obtain⟨h33_0,h33_1,h33_2,h33_f,h33_l,H_h33⟩:=cr3 h33;clear h33
 go_still_tail 7,(by kernel_rfl)
 go_upto_region 4 with(at_mapUpdate;refine YV _ rfl _ _ _ 124 rfl 103 169 xU underlying124 uZ bm M.length Dm rfl HC3.out.what.own.drew hMl (.int .u32 x.slot) (tdV x) (kS x.slot) rfl rfl (uo (by omega)) (tdD x) [] (Yu x) ?_;intro w4 ho4 hg4;go_frame)
 have hm4:Mod (fun k=>k=bm) w3 w4:=Mod.of_drew (Mod.of_grown hg4 (fun k e _=>by cases e;rfl));have hbx4:=HC3.out.box.mod hm4 (fun e=>ne2 e.symm);have hT4:=HC3.out.what.putC HCa.out ho4;have hB4:=HC3.out.births.mod hm4 (fun e=>ne1 e.symm);have h34:=hm4.heap (fun e=>nb1 e.symm) H33.out;have HM4:=za hm4;have HT4:=za hT4;have HB4:=za hB4;clear h33_0 h33_1 h33_2 h33_f h33_l;clear H_h33 hm4 hT4 hB4 ho4 hg4 c0 c9 c10;obtain⟨c0,c9,c10,_,_⟩:=hbx4.cells;clear hbx4;obtain⟨h34_0,h34_1,h34_2,h34_f,h34_l,H_h34⟩:=cr3 h34;clear h34
 go_still_tail 7,(by kernel_rfl)
 go_wp2_with (at_mapUpdate;refine YV _ rfl _ _ _ 208 rfl 27 316 uS underlying208 unitElem bb M.length Db rfl HB4.out.own.drew hMl (.int .u64 x.birth) (.agg #[]) (kB x.birth) rfl rfl (qE hb) (.agg []) [] unitElem_mk ?_;intro w5 ho5 hg5;go_frame)
 have hm5:Mod (fun k=>k=bb) w4 w5:=Mod.of_drew (Mod.of_grown hg5 (fun k e _=>by cases e;rfl));have hB5:=HB4.out.putC HCa.out ho5;have hmm:Mod (fun k=>k=bm∨k=bb) w3 w5:=(HM4.out.mono (fun _ _ h=>Or.inl h)).trans (hm5.mono (fun _ _ h=>Or.inr h));have hsz:w.heap.size≤w2.heap.size:=(HAL.out.trans HP2.out).size
 go_end0
 refine⟨rfl,⟨D4,_,_,_,⟨HC3.out.box.mod hmm (fun e=>by rcases e with e | e;exact ne2 e.symm;exact ne3 e.symm),HT4.out.mod hm5 (fun e=>ne1 e),hB5,HC3.out.len,fun l q Ls hq hL=>(HC3.out.lev l q Ls hq hL).frame hmm (fun k hk e => ?_),HC3.out.apart,HC3.out.own,HC3.out.ne,HC3.out.dd⟩,fun k hk => ?_⟩,?_⟩
 ·have hl9:l<8:=by have:=(zC.1 hL).1;rw[HC3.out.len]at this;exact this
  obtain⟨_,o2,o3⟩:=HC3.out.own l k hl9 hk;rcases e with e | e
  ·exact o2 e
  ·exact o3 e
 ·rcases HG4.out k hk with e | e
  ·exact .inl e
  ·exact .inr (zJ hsz e)
 ·refine((HAL.out.trans HP2.out).mono (fun _ _ h=>h.elim):Mod D w w2).trans (HM3.out.trans (hmm.mono (fun k _ hk => ?_)));exact Azur6
end
section
variable{w w':World}{D:Nat→Prop}{p now:Nat}{ws:List Nat}{bm bb:Nat}{Ds:Nat→Nat→Prop}{Dm Db:DataW Unit}{M:List Td}{Lss:List (List (List Nat))}
abbrev zTd:Td:=⟨0,0,0⟩
def getTd(M:List Td)(s:Nat):Td × Int:=if s<4194304 then(match M.find? (fun x=>x.slot==s)with | some x=>(x,0) | none=>(zTd,9))else(zTd,2)
theorem XQ{s:Nat}{x:Td}(hs:s<4194304)(hx:M.find? (fun x=>x.slot==s)=some x):getTd M s=(x,0):=by unfold getTd;rw[zh hs,hx]
theorem YL{s:Nat}(hs:s<4194304)(hx:M.find? (fun x=>x.slot==s)=none):getTd M s=(zTd,9):=by unfold getTd;rw[zh hs,hx]
theorem Ut{s:Nat}(hs : ¬ s<4194304):getTd M s=(zTd,2):=by unfold getTd;rw[zf hs]
theorem KK(h:yi w D p now ws bm bb Ds Dm Db M Lss){s:Nat}(h32:s≤4294967295) :
  Calls prog 217 #[lkP p,.int .u32 s] w fun e w'=>e=.returned (.tuple #[tdV (getTd M s).1,.int .i64 (getTd M s).2])∧zb w w':=by
 have hal:zb w (w.alloc (.cells #[.int .u32 0,.int .u64 0,.int .u64 0] 169)):=(Mod.refl _ w).alloc _;have h4:=zi (w:=w) (o := .cells #[.int .u32 0,.int .u64 0,.int .u64 0] 169 (0,0)) rfl;have HC:=za (h.pure hal);have HCk:=za (Ke (h.pure hal).box h32);obtain⟨c0,c9,c10,_,_⟩:=(h.pure hal).box.cells;have HAL:=za hal;clear hal;by_cases hs:s<4194304
 ·have hse:qg s=0:=by unfold qg;rw[zh hs]
  rw[hse]at HCk
  cases hf:M.find? (fun x=>x.slot==s)with
  | some x =>
   have hxM:=qk hf;have hxs:x.slot=s:=by have:=Y9 hf;simpa using this
   subst hxs;have hlk:=HC.out.what.look hxM (by omega);rw[XQ hs hf];unfold tdV at hlk ⊢;clear h hf hxM hse;go_enter func217,ntmps217;go_upto_region 1 with fail
   generalize w.alloc (.cells #[.int .u32 0,.int .u64 0,.int .u64 0] 169)=W1 at *;obtain⟨b4,hb4⟩:=zc w.heap.size;rw[hb4]at h4 ⊢;have hb4':w.heap.size≤b4:=by omega
   clear hb4;obtain⟨h4_0,h4_1,h4_2,h4_f,h4_l,H_h4⟩:=cr3 h4;clear h4
   go_wp2_with (go_at_call 122;refine HCk.out.mono ?_;rintro e w' ⟨rfl,rfl⟩)
   have hpp:=HAL.out;refine zM (v := .tuple #[.agg #[.int .u32 x.slot,.int .u64 x.dl,.int .u64 x.birth],.int .i64 0]) (by simp[results,results217,go_sem,h4_0,h4_1,h4_2,h4_l]) rfl ⟨rfl,?_⟩;exact yW
  | none =>
   have hnx : ∀ x∈M,x.slot≠s:=fun x hx e=>by have:=kY.1 hf x hx;simp[e]at this
   have hlk:=HC.out.what.look_no (s:=s) (by omega) hnx;rw[YL hs hf];unfold tdV at hlk ⊢;clear h hf hnx hse;go_enter func217,ntmps217;go_upto_region 1 with fail
   generalize w.alloc (.cells #[.int .u32 0,.int .u64 0,.int .u64 0] 169)=W1 at *;obtain⟨b4,hb4⟩:=zc w.heap.size;rw[hb4]at h4 ⊢;have hb4':w.heap.size≤b4:=by omega
   clear hb4;obtain⟨h4_0,h4_1,h4_2,h4_f,h4_l,H_h4⟩:=cr3 h4;clear h4
   go_wp2_with (go_at_call 122;refine HCk.out.mono ?_;rintro e w' ⟨rfl,rfl⟩)
   have hpp:=HAL.out;refine zM (v := .tuple #[.agg #[.int .u32 0,.int .u64 0,.int .u64 0],.int .i64 9]) (by simp[results,results217,go_sem,h4_0,h4_1,h4_2,h4_l]) rfl ⟨rfl,?_⟩;exact yW
 ·have hse:qg s=2:=by unfold qg;rw[zf hs]
  rw[hse]at HCk;rw[Ut hs];unfold tdV;clear h hse;go_enter func217,ntmps217;go_upto_region 1 with fail
  generalize w.alloc (.cells #[.int .u32 0,.int .u64 0,.int .u64 0] 169)=W1 at *;obtain⟨b4,hb4⟩:=zc w.heap.size;rw[hb4]at h4 ⊢;have hb4':w.heap.size≤b4:=by omega
  clear hb4;obtain⟨h4_0,h4_1,h4_2,h4_f,h4_l,H_h4⟩:=cr3 h4;clear h4
  go_wp2_with (go_at_call 122;refine HCk.out.mono ?_;rintro e w' ⟨rfl,rfl⟩)
  have hpp:=HAL.out;refine zM (v := .tuple #[.agg #[.int .u32 0,.int .u64 0,.int .u64 0],.int .i64 2]) (by simp[results,results217,go_sem,h4_0,h4_1,h4_2,h4_l]) rfl ⟨rfl,?_⟩;exact yW
end
section
variable{w w':World}{D:Nat→Prop}{p now:Nat}{ws:List Nat}{bm bb:Nat}{Ds:Nat→Nat→Prop}{Dm Db:DataW Unit}{M:List Td}{Lss:List (List (List Nat))}
theorem zhV(h:yi w D p now ws bm bb Ds Dm Db M Lss){x:Td}{M':List Td}(hg:M.find? (fun y=>y.slot==x.slot)=some x)(hs:x.slot<4194304)(hd:x.dl<18446744073709551616)(hb:x.birth≤18446744073709551615)(hne:x.dl≠now){Ls:List (List Nat)}{L:List Nat}
  (hL:Lss[lvl now x.dl]? = some Ls) (hK:Ls[bkt now x.dl]? = some L) (hf:x.slot∈L) (hM : ∀ y,y∈M'↔y∈M∧y.slot≠x.slot) (hM2 : ∀ y,y∈M'↔y∈M∧y.birth≠x.birth) (hl:M'.length+1=M.length) :
  Calls prog 166 #[lkP p,.int .u32 x.slot] w fun e w'=>e=.returned (.tuple #[tdV x,.int .i64 0])∧(∃ D' Ds' Dm' Db',yi w' D' p now ws bm bb Ds' Dm' Db' M' (Lss.set (lvl now x.dl) (Ls.set (bkt now x.dl) (L.erase x.slot)))∧ye D D' w)∧Mod D w w':=by
 have hal:zb w (w.alloc (.cells #[.int .u32 0,.int .u64 0,.int .u64 0] 169)):=(Mod.refl _ w).alloc _;have h4:=zi (w:=w) (o := .cells #[.int .u32 0,.int .u64 0,.int .u64 0] 169 (0,0)) rfl;have hl8:lvl now x.dl<8:=(uK h.box.now hd).1;obtain⟨q,hq⟩ : ∃ q,ws[lvl now x.dl]? = some q:=⟨_,zQ (by rw[h.box.len];exact hl8)⟩;have hget:=KK (h.pure hal) (s:=x.slot) (by omega);rw[XQ hs hg]at hget;have HGe:=za hget;have HPl:=za (fun(W:World) (hW:zb (w.alloc (.cells #[.int .u32 0,.int .u64 0,.int .u64 0] 169)) W)=>KI ((h.pure hal).pure hW).box hd hne);obtain⟨lv,hlv⟩:=zc (lvl now x.dl);obtain⟨bk,hbk2⟩:=zc (bkt now x.dl);rw[hlv]at hl8 hq hL HPl ⊢;rw[hbk2]at hK HPl ⊢;have nD : ∀ k,D k→k<w.heap.size:=fun k hk=>h.lt hk
 have HC0:=za h;have HC:=za (h.pure hal);have HND:=za nD;have HAL:=za hal;have HXM:=za (qk hg);have HL:=za hL;have HK:=za hK;have HF:=za hf;have HQ:=za hq;have HM:=za hM;have HM2:=za hM2;clear h hal nD hL hK hf hq hlv hbk2 hne hg hM hM2 hget;unfold tdV at HGe ⊢;dsimp only at HGe;go_enter func166,ntmps166;go_upto_region 1 with fail
 generalize w.alloc (.cells #[.int .u32 0,.int .u64 0,.int .u64 0] 169)=W1 at *;obtain⟨b4,hb4⟩:=zc w.heap.size;rw[hb4]at h4 HND ⊢;have HB4:=za hb4;have H4:=za h4;clear hb4 h4;go_upto_region 2 with(go_at_call 217;refine HGe.out.mono ?_;rintro e w2 ⟨rfl,hp2⟩)
 have hal2:zb w2 (w2.alloc (.cells #[.int .u32 x.slot,.int .u64 x.dl,.int .u64 x.birth] 169)):=(Mod.refl _ w2).alloc _;have h6:=zi (w:=w2) (o := .cells #[.int .u32 x.slot,.int .u64 x.dl,.int .u64 x.birth] 169 (0,0)) rfl;have hp3:=hp2.trans hal2;have hb46:b4<w2.heap.size:=hp2.lt (zl H4.out);have HP3:=za hp3;have HC3:=za (HC.out.pure hp3);have HPl3:=za (HPl.out _ hp3);clear hal2 hp2 hp3 HPl HGe;generalize w2.alloc (.cells #[.int .u32 x.slot,.int .u64 x.dl,.int .u64 x.birth] 169)=W3 at *;generalize w2.heap.size=b6 at *;have H6:=za h6;obtain⟨h6_0,h6_1,h6_2,h6_f,h6_l,H_h6⟩:=cr3 h6;clear h6;go_upto_region 4 with(go_at_call 198;refine HPl3.out.mono ?_;rintro e w4 ⟨rfl,hp4⟩)
 have h64:=hp4.heap (fun h=>h) H6.out;have HC4:=za (HC3.out.pure hp4);have hcl:=HC4.out.box.level HQ.out;have HP4:=za (HP3.out.trans hp4);clear h6_0 h6_1 h6_2 h6_f h6_l;clear H_h6 HPl3 hp4 HC3;have dl8:decide (lv<8)=true:=zK hl8;have l0:(0:Int)≤(lv:Int):=by omega
 have l1:(lv:Int)<8:=by omega
 have HRe:=za (JS (HC4.out.lev lv q Ls HQ.out HL.out) hs HK.out HF.out);obtain⟨c0,c9,c10,_,_⟩:=HC4.out.box.cells;have H64:=za h64;clear h64;go_upto_region 5 with(go_at_call 218;refine HRe.out.mono ?_;rintro e w5 ⟨rfl,hw5,hm5⟩)
 obtain⟨D4,hC5,hg5⟩:=HC4.out.level hl8 HQ.out hw5 (ye.refl _ _) hm5;have inD : ∀ k,Ds lv k→D k:=fun k hk=>(HC0.out.dd k).2 (.inr (.inr (.inr ⟨lv,hl8,hk⟩)))
 have hb46':b4<b6:=hb46;have h65:=hm5.heap (fun e=>by have:=HND.out b6 (inD b6 e);omega) H64.out;have hmD:Mod D w4 w5:=hm5.mono (fun k _ hk=>inD k hk);have h45:=hmD.heap (fun e=>by have:=HND.out b4 e;omega) (HP4.out.heap (fun h=>h) H4.out);have hfo:=za1 hC5 HXM.out (by omega) hb HM.out HM2.out hl;unfold tdV at hfo;have HFo:=za hfo;have HG5:=za hg5;have HMD:=za hmD;have H65:=za h65;have H45:=za h45;have hnm : ∀ k,(k=bm∨k=bb)→D k:=fun k hk=>by
  exact Azur6
 have HNM:=za hnm;clear hC5 hg5 inD hm5 hw5 hmD hfo h45 hnm HRe c0 c9 c10 hcl;obtain⟨h65_0,h65_1,h65_2,h65_f,h65_l,H_h65⟩:=cr3 h65;clear h65;go_upto_region 6 with(go_at_call 201;refine HFo.out.mono ?_;rintro e w6 ⟨rfl,⟨Dm',Db',hC6⟩,hm6⟩)
 have h66:=hm6.heap (fun e=>by have:=HND.out b6 (HNM.out b6 e);omega) H65.out;have h46:=hm6.heap (fun e=>by have:=HND.out b4 (HNM.out b4 e);omega) H45.out;have HC6:=za hC6;have HM6:=za hm6;have H46:=za h46;have hsz:w.heap.size≤w4.heap.size:=(HAL.out.trans HP4.out).size;have HSZ:=za hsz;clear h65_0 h65_1 h65_2 h65_f h65_l;clear H_h65 hC6 hm6 hsz;obtain⟨h66_0,h66_1,h66_2,h66_f,h66_l,H_h66⟩:=cr3 h66;clear h66;obtain⟨h46_0,h46_1,h46_2,h46_f,h46_l,H_h46⟩:=cr3 h46;clear h46;go_wp2;have hmf:Mod (fun k=>k=b4) w6 (((w6.setCell ⟨b4,0,none⟩ (.int .u32 x.slot)).setCell ⟨b4,1,none⟩ (.int .u64 x.dl)).setCell ⟨b4,2,none⟩ (.int .u64 x.birth)) :=
  (((Mod.refl (fun k=>k=b4) w6).setCell (p:=⟨b4,0,none⟩) (fun _=>rfl) _).setCell (p:=⟨b4,1,none⟩) (fun _=>rfl) _).setCell (p:=⟨b4,2,none⟩) (fun _=>rfl) _
 have hD4 : ∀ k,D4 k→k≠b4:=fun k hk e=>by
  subst e;rcases HG5.out k hk with c | c
  ·have:=HND.out k c;omega
  ·have:=HP4.out.size;have:=zl H4.out;omega
 have hB4:b4=w.heap.size:=HB4.out.symm;refine zM (v := .tuple #[.agg #[.int .u32 x.slot,.int .u64 x.dl,.int .u64 x.birth],.int .i64 0]) (by simp[results,results166,go_sem,h46_0,h46_1,h46_2,h46_l]) rfl ⟨rfl,⟨D4,_,_,_,HC6.out.frame hmf (fun k hk e=>hD4 k hk e),fun k hk => ?_⟩,?_⟩
 ·rcases HG5.out k hk with c | c
  ·exact .inl c
  ·exact .inr (zJ HSZ.out c)
 ·exact(((HAL.out.trans HP4.out).mono (fun _ _ h=>h.elim):Mod D w w4).trans (HMD.out.trans (HM6.out.mono (fun k _ hk=>HNM.out k hk)))).then hmf (fun k hk e=>by exfalso;omega)
end
section
variable{w w':World}{D:Nat→Prop}{p now:Nat}{ws:List Nat}{bm bb:Nat}{Ds:Nat→Nat→Prop}{Dm Db:DataW Unit}{M:List Td}{Lss:List (List (List Nat))}
theorem zdQ(h:yi w D p now ws bm bb Ds Dm Db M Lss){s:Nat}(h32:s≤4294967295){er:Int}(he:getTd M s=(zTd,er))(h0:er≠0) :
  Calls prog 166 #[lkP p,.int .u32 s] w fun e w'=>e=.returned (.tuple #[tdV zTd,.int .i64 er])∧zb w w':=by
 have hal:zb w (w.alloc (.cells #[.int .u32 0,.int .u64 0,.int .u64 0] 169)):=(Mod.refl _ w).alloc _;have h4:=zi (w:=w) (o := .cells #[.int .u32 0,.int .u64 0,.int .u64 0] 169 (0,0)) rfl;have hget:=KK (h.pure hal) (s:=s) h32;rw[he]at hget;have HGe:=za hget;have HAL:=za hal;have e0:(er==0)=false:=by simpa using h0
 clear h hal hget he h0;unfold tdV at HGe ⊢;dsimp only at HGe;go_enter func166,ntmps166;go_upto_region 1 with fail
 generalize w.alloc (.cells #[.int .u32 0,.int .u64 0,.int .u64 0] 169)=W1 at *;obtain⟨b4,hb4⟩:=zc w.heap.size;rw[hb4]at h4 ⊢;have hb4':w.heap.size≤b4:=by omega
 have H4:=za h4;clear hb4 h4;go_upto_region 2 with(go_at_call 217;refine HGe.out.mono ?_;rintro e w2 ⟨rfl,hp2⟩)
 have hal2:zb w2 (w2.alloc (.cells #[.int .u32 0,.int .u64 0,.int .u64 0] 169)):=(Mod.refl _ w2).alloc _;have h6:=zi (w:=w2) (o := .cells #[.int .u32 0,.int .u64 0,.int .u64 0] 169 (0,0)) rfl;have h42:=(hp2.trans hal2).heap (fun h=>h) H4.out;have HPP:=za (HAL.out.trans (hp2.trans hal2));clear hal2 hp2 HGe;generalize w2.alloc (.cells #[.int .u32 0,.int .u64 0,.int .u64 0] 169)=W3 at *;generalize w2.heap.size=b6 at *;obtain⟨h6_0,h6_1,h6_2,h6_f,h6_l,H_h6⟩:=cr3 h6;clear h6;obtain⟨h42_0,h42_1,h42_2,h42_f,h42_l,H_h42⟩:=cr3 h42;clear h42;go_wp2;have hpp:=HPP.out;refine zM (v := .tuple #[.agg #[.int .u32 0,.int .u64 0,.int .u64 0],.int .i64 er]) (by simp[results,results166,go_sem,h42_0,h42_1,h42_2,h42_l]) rfl ⟨rfl,?_⟩;exact yW
theorem zhn(h:yi w D p now ws bm bb Ds Dm Db M Lss):Calls prog 67 #[lkP p] w fun e w'=>e=.returned (.int .u64 now)∧w=w':=by
 have HCk:=za (YB h.box (s:=0) (by omega));obtain⟨c0,c9,c10,_,_⟩:=h.box.cells;clear h;go_enter func67,ntmps67
 go_wp2_with (go_at_call 122;refine HCk.out.mono ?_;rintro e w' ⟨rfl,rfl⟩)
 go_ret;exact⟨rfl,rfl⟩
end
end
section
open Go.RowKit Go.Maps
structure Wt where
 slot:Nat
 cost:Nat
def cD(c:Nat):DataW Unit := .lit (.int .i64 c)
def kU(v:Value):Option (DataW Unit × List MemPlace):=match v with
 | .int .i64 a=>if 0≤a then some (.lit (.int .i64 a),[])else none
 | _=>none
theorem Xt(s:Nat):kU (.int .i64 s)=some (.lit (.int .i64 s),[]):=by
 unfold kU;simp
theorem U3{v:Value}{z:DataW Unit × List MemPlace}(h:kU v=some z) : ∃ s:Nat,v=.int .i64 s∧z=(.lit (.int .i64 s),[]):=by
 unfold kU at h;exact Azp2p
theorem V9{a b:Nat}(h:(DataW.lit (.int .i64 a):DataW Unit)=.lit (.int .i64 b)):a=b:=by
 injection h with h;injection h with _ h;exact ZA.1 h
structure xm(w:World)(b:Nat)(M:List Wt)(D:DataW Unit):Prop where
 own:w.ownsMap prog 103 kU b M.length D
 at_ : ∀ x∈M,∀ zd,D.atKey (kS x.slot) zd=cD x.cost
 has : ∀ s,Maps.has D (kS s)=true → ∃ x∈M,x.slot=s
 size:Maps.size D=M.length
section
variable{w w':World}{b:Nat}{M:List Wt}{D:DataW Unit}{S:Nat→Prop}
theorem xm.mod(h:xm w b M D)(hm:Mod S w w')(hb : ¬ S b):xm w' b M D:=⟨Xq h.own hm hb,h.at_,h.has,h.size⟩
theorem xm.new(w:World):xm (w.alloc (.map #[] 0)) w.heap.size [] (.map []):=⟨YM _ _ _ _,(fun _ h=>by cases h),(fun s h=>by cases h),rfl⟩
theorem xm.perm{M':List Wt}(h:xm w b M D)(hp:M.Perm M'):xm w b M' D :=
 ⟨by rw[← hp.length_eq];exact h.own,fun x hx=>h.at_ x (hp.mem_iff.2 hx),fun s hs=>by obtain⟨x,hx,e⟩:=h.has s hs;exact⟨x,hp.mem_iff.1 hx,e⟩,by rw[← hp.length_eq];exact h.size⟩
theorem xm.has_mem(h:xm w b M D){x:Wt}(hx:x∈M):Maps.has D (kS x.slot)=true:=Maps.has_true_of_atKey (h.at_ x hx)
theorem xm.not_has(h:xm w b M D){s:Nat}(hs : ∀ x∈M,x.slot≠s):Maps.has D (kS s)=false:=by
 exact Az5du
theorem Jd(w:World):(zeroValue 3).run prog w=.ok (.int .i64 (0:Nat)) w:=by kernel_rfl
theorem xm.look(h:xm w b M D){x:Wt}(hx:x∈M)(hs:x.slot≤4294967295):(Instr.lookup 196 (.map (some b)) (.int .u32 x.slot) true).run prog w=.ok (.tuple #[.int .i64 x.cost,.bool true]) w:=by
 obtain⟨v,ps,hrun,hv⟩:=h.own.look_ok xU underlying196 (Jd w) (Xt _) (uo hs);rw[h.at_ x hx]at hv;obtain⟨y,rfl,e⟩:=U3 hv;have:=V9 (congrArg Prod.fst e);subst this;rw[hrun,h.has_mem hx]
theorem xm.look_no(h:xm w b M D){s:Nat}(hs:s≤4294967295)(hn : ∀ x∈M,x.slot≠s):(Instr.lookup 196 (.map (some b)) (.int .u32 s) true).run prog w=.ok (.tuple #[.int .i64 0,.bool false]) w:=by
 obtain⟨v,ps,hrun,hv⟩:=h.own.look_ok xU underlying196 (Jd w) (Xt _) (uo hs);have h0:=h.not_has hn;rw[Maps.atKey_of_not_has h0]at hv;obtain⟨y,rfl,e⟩:=U3 hv;have:=V9 (congrArg Prod.fst e);subst this;rw[hrun,h0]
 rfl
theorem xm.look1(h:xm w b M D){x:Wt}(hx:x∈M)(hs:x.slot≤4294967295):(Instr.lookup 196 (.map (some b)) (.int .u32 x.slot) false).run prog w=.ok (.int .i64 x.cost) w:=by
 obtain⟨v,ps,hrun,hv⟩:=h.own.lookup xU underlying196 (Jd w) (Xt _) (uo hs);rw[h.at_ x hx]at hv;obtain⟨y,rfl,e⟩:=U3 hv;have:=V9 (congrArg Prod.fst e);subst this;exact hrun
theorem xm.put{x:Wt}(h:xm w b M D)(hn : ∀ y∈M,y.slot≠x.slot)(ho:w'.ownsMap prog 103 kU b (M.length+1) (D.put (kS x.slot) (cD x.cost))):xm w' b (x::M) (D.put (kS x.slot) (cD x.cost)):=by
 exact Azqp6
theorem xm.del{x:Wt}{M':List Wt}(h:xm w b M D)(hx:x∈M)(hM : ∀ y,y∈M'↔y∈M∧y.slot≠x.slot)(hl:M'.length+1=M.length){n:Nat}(ho:w'.ownsMap prog 103 kU b n (D.del (kS x.slot))):xm w' b M' (D.del (kS x.slot)):=by
 exact Azyvm
end
def zw(A:List Wt):List Nat:=A.map Wt.slot
def zq(A:List Wt):Nat:=(A.map Wt.cost).sum
structure SgL(A B:List Wt):Prop where
 nd:(zw (A++B)).Nodup
 rng : ∀ x∈A++B,x.slot<4194304∧x.cost≤1099511627776
theorem vB(A B:List Wt):zq (A++B)=zq A+zq B:=by unfold zq;simp
theorem uQ(x:Wt)(B:List Wt):zq (x::B)=x.cost+zq B:=by unfold zq;simp
theorem jF:zq []=0:=rfl
theorem YZ(A B:List Wt):zw (A++B)=zw A++zw B:=by unfold zw;simp
theorem zcI{A B:List Wt}(h:A.Perm B):zq A=zq B:=(h.map Wt.cost).sum_nat
theorem YY{A:List Wt}(h : ∀ x∈A,x.cost≤1099511627776):zq A≤A.length*1099511627776:=by
 induction A with
 | nil=>exact yk _
 | cons a A ih =>
  have h1:=h a yt;have h2:=ih (fun x hx=>h x (yv _ hx));rw[uQ,jV];omega
theorem SgL.len{A B:List Wt}(h:SgL A B):(A++B).length≤4194304:=by
 have:=qz h.nd (N:=4194304) (fun a ha=>by obtain⟨x,hx,rfl⟩:=zD.1 ha;exact(h.rng x hx).1);unfold zw at this;rw[yB]at this;exact this
theorem SgL.sums{A B:List Wt}(h:SgL A B):zq A+zq B≤4611686018427387904:=by
 have h1:=YY (A:=A++B) (fun x hx=>(h.rng x hx).2);have h2:=h.len;rw[vB]at h1;have:(A++B).length*1099511627776≤4194304*1099511627776:=YN _ h2;omega
def zt(A:List Wt)(s:Nat):List Wt:=A.filter (fun x=>decide (x.slot≠s))
theorem ZD{A:List Wt}{s:Nat}(h : ∀ x∈A,x.slot≠s):zt A s=A:=by
 unfold zt;exact kV.2 (fun x hx=>by simpa using h x hx)
theorem jr{A:List Wt}{s:Nat}{y:Wt}:y∈zt A s↔y∈A∧y.slot≠s:=by unfold zt;simp
theorem jP(A B:List Wt)(s:Nat):zt (A++B) s=zt A s++zt B s:=by unfold zt;simp
theorem JA{A:List Wt}(h:(zw A).Nodup)(s:Nat):zw (zt A s)=(zw A).erase s:=by
 rw[h.erase_eq_filter];unfold zw zt;rw[List.filter_map]
 congr 1
 apply Xu;intro x _;by_cases e:x.slot=s<;>simp[bne,e]
theorem zb0{A:List Wt}(h:(zw A).Nodup){x:Wt}(hx:x∈A):A.Perm (x::zt A x.slot):=by
 induction A with
 | nil=>cases hx
 | cons a A ih =>
  have h':a.slot∉zw A∧(zw A).Nodup:=yX.1 h;rcases yp.1 hx with rfl | hx
  ·have e:zt (x::A) x.slot=A:=by
    unfold zt;rw[List.filter_cons_of_neg (by simp)];exact ZD (fun y hy e=>h'.1 (zD.2 ⟨y,hy,e⟩))
   rw[e]
  ·have hne:a.slot≠x.slot:=fun e=>h'.1 (zD.2 ⟨x,hx,e.symm⟩)
   have e:zt (a::A) x.slot=a::zt A x.slot:=by
    unfold zt;rw[List.filter_cons_of_pos (by simpa using hne)]
   rw[e];exact((ih h'.2 hx).cons a).trans (List.Perm.swap x a _)
theorem QO{A:List Wt}(h:(zw A).Nodup){x:Wt}(hx:x∈A):zq A=x.cost+zq (zt A x.slot):=by
 rw[zcI (zb0 h hx),uQ]
theorem Qm{A:List Wt}(h:(zw A).Nodup){x:Wt}(hx:x∈A):A.length=(zt A x.slot).length+1:=by
 rw[(zb0 h hx).length_eq,jV]
@[go_sem] theorem zlp (w : World) (r : Option Nat) : (binOp .eql 196 (.map r) (.map none)).run prog w=.ok (.bool r.isNone) w := run_eql_map_nil w _ _ _ r underlying196
structure yG(w:World)(D:Nat→Prop)(o l0 l1 bm:Nat)(lim:Int)(D0 D1:Nat→Prop)(Dm:DataW Unit)(A B:List Wt):Prop where
 box:w.heap[o]? = some (.cells #[lkP l0,lkP l1,.int .i64 (zq A:Nat),.int .i64 (zq B:Nat),.map (some bm),.int .i64 lim] 198 (0,0))
 q0:xc w D0 l0 (zw A)
 q1:xc w D1 l1 (zw B)
 costs:xm w bm (A++B) Dm
 ne:o≠bm ∧ ¬ D0 o ∧ ¬ D1 o ∧ ¬ D0 bm ∧ ¬ D1 bm ∧ ∀ k,D0 k → ¬ D1 k
 law:SgL A B
 dd : ∀ k,D k↔(k=o∨k=bm∨D0 k∨D1 k)
def y3(w:World)(D:Nat→Prop)(o:Nat)(lim:Int)(A B:List Wt):Prop := ∃ l0 l1 bm D0 D1 Dm,yG w D o l0 l1 bm lim D0 D1 Dm A B
section
variable{w w':World}{D S:Nat→Prop}{o l0 l1 bm:Nat}{lim:Int}{D0 D1:Nat→Prop}{Dm:DataW Unit}{A B:List Wt}
theorem yG.frame(h:yG w D o l0 l1 bm lim D0 D1 Dm A B)(hm:Mod S w w')(hd : ∀ k,D k → ¬ S k):yG w' D o l0 l1 bm lim D0 D1 Dm A B :=
 ⟨hm.heap (hd o ((h.dd o).2 (.inl rfl))) h.box,h.q0.frame hm (fun k hk=>hd k ((h.dd k).2 (.inr (.inr (.inl hk))))),h.q1.frame hm (fun k hk=>hd k ((h.dd k).2 (.inr (.inr (.inr hk))))),h.costs.mod hm (hd bm ((h.dd bm).2 (.inr (.inl rfl)))),h.ne,h.law,h.dd⟩
theorem yG.pure(h:yG w D o l0 l1 bm lim D0 D1 Dm A B)(hm:zb w w'):yG w' D o l0 l1 bm lim D0 D1 Dm A B:=h.frame hm (fun _ _ h=>h)
theorem yG.lt(h:yG w D o l0 l1 bm lim D0 D1 Dm A B){k:Nat}(hk:D k):k<w.heap.size:=by
 rcases(h.dd k).1 hk with rfl | rfl | e | e
 ·exact zl h.box
 ·exact h.costs.own.lt
 ·exact h.q0.lt e
 ·exact h.q1.lt e
theorem y3.frame(h:y3 w D o lim A B)(hm:Mod S w w')(hd : ∀ k,D k → ¬ S k):y3 w' D o lim A B:=by
 obtain⟨l0,l1,bm,D0,D1,Dm,h⟩:=h;exact⟨l0,l1,bm,D0,D1,Dm,h.frame hm hd⟩
theorem y3.pure(h:y3 w D o lim A B)(hm:zb w w'):y3 w' D o lim A B:=h.frame hm (fun _ _ h=>h)
theorem y3.lt(h:y3 w D o lim A B){k:Nat}(hk:D k):k<w.heap.size:=by
 obtain⟨l0,l1,bm,D0,D1,Dm,h⟩:=h;exact h.lt hk
theorem y3.self(h:y3 w D o lim A B):D o:=by
 obtain⟨l0,l1,bm,D0,D1,Dm,h⟩:=h;exact(h.dd o).2 (.inl rfl)
theorem y3.law(h:y3 w D o lim A B):SgL A B:=by
 obtain⟨l0,l1,bm,D0,D1,Dm,h⟩:=h;exact h.law
theorem UH(h:yG w D o l0 l1 bm lim D0 D1 Dm A B){s:Nat}(hs:s<4194304){c:Nat}(hc:c≤1099511627776):Calls prog 117 #[lkP o,.int .u32 s,.int .i64 c] w fun e w'=>e=.returned (.int .i64 0)∧w=w':=by
 have hb:=h.box;have h1 : ¬ ((c:Int)<0):=by omega
 have h2 : ¬ (1099511627776:Int)<(c:Int):=by omega
 have d:decide ((4194304:Int)≤(s:Int))=false:=zO (by omega);have dn:decide (4194304≤s)=false:=zO (by omega);clear h;generalize zq A=sa at *;generalize zq B=sb at *;obtain⟨hb_0,hb_1,hb_2,hb_3,hb_4,hb_5,hb_f,hb_l,H_hb⟩:=cr6 hb;clear hb;go_enter func117,ntmps117;go_wp2;go_ret;exact⟨rfl,rfl⟩
theorem U8(h:yG w D o l0 l1 bm lim D0 D1 Dm A B){s:Nat}(hs:s<4194304):Calls prog 117 #[lkP o,.int .u32 s,.int .i64 0] w fun e w'=>e=.returned (.int .i64 0)∧w=w':=UH h hs (c:=0) (by omega)
def gOf(B:List Wt)(s:Nat):Nat:=if s∈zw B then 1 else 0
theorem Azclw {P:Prop}(h:P:=by
 go_wp2_with (go_at_call 220;refine HH.out.mono ?_;rintro e w' ⟨rfl,rfl⟩)
 go_ret;exact⟨rfl,rfl⟩):P:=h
theorem Ji(h:yG w D o l0 l1 bm lim D0 D1 Dm A B){s:Nat}(hs:s<4194304):Calls prog 168 #[lkP o,.int .u32 s] w fun e w'=>e=.returned (.int .i64 (gOf B s:Nat))∧w=w':=by
 have hb:=h.box;have HH:=za (J0 h.q1 hs);clear h;generalize zq A=sa at *;generalize zq B=sb at *;unfold gOf;obtain⟨hb_0,hb_1,hb_2,hb_3,hb_4,hb_5,hb_f,hb_l,H_hb⟩:=cr6 hb;clear hb;by_cases c:s∈zw B
 ·rw[zh c];rw[zK c]at HH;go_enter func168,ntmps168;exact Azclw
 ·rw[zf c];rw[zO c]at HH;go_enter func168,ntmps168;exact Azclw
theorem U4(h:y3 w D o lim A B){x:Wt}(hx:x∈A++B):Calls prog 108 #[lkP o,.int .u32 x.slot] w fun e w'=>e=.returned (.tuple #[.int .i64 (gOf B x.slot:Nat),.int .i64 x.cost,.int .i64 0])∧w=w':=by
  obtain⟨l0,l1,bm,D0,D1,Dm,h⟩:=h;have hs:=(h.law.rng x hx).1;have HC:=za (U8 h hs);have HO:=za (Ji h hs);have hlk:=fun W (hW:zb w W)=>((h.pure hW).costs).look hx (by omega)
  have hlw:=hlk w (Mod.refl _ w);have hlw2:=hlk w.drew (Mod.refl _ w).drew;have hb:=h.box;clear h hx hlk;obtain⟨s,c⟩:=x;dsimp only at *;generalize zq A=sa at *;generalize zq B=sb at *;generalize gOf B s=g at *;obtain⟨hb_0,hb_1,hb_2,hb_3,hb_4,hb_5,hb_f,hb_l,H_hb⟩:=cr6 hb;clear hb;go_enter func108,ntmps108
  go_wp2_with (first
    | (go_at_call 117;refine HC.out.mono ?_;rintro e w' ⟨rfl,rfl⟩)
    | (go_at_call 168;refine HO.out.mono ?_;rintro e w' ⟨rfl,rfl⟩))
  refine zM (v := .tuple #[.int .i64 g,.int .i64 c,.int .i64 0]) (by simp[results,results108,go_sem]) rfl ⟨rfl,rfl⟩
theorem Ja(h:yG w D o l0 l1 bm lim D0 D1 Dm A B){x:Wt}(hs:x.slot<4194304)(hc:x.cost≤1099511627776)(hn:x.slot∉zw (A++B)) :
  Calls prog 118 #[lkP o,.int .i64 0,.int .u32 x.slot,.int .i64 x.cost] w fun e w'=>e=.returned (.tuple #[])∧(∃ D' D0' Dm',yG w' D' o l0 l1 bm lim D0' D1 Dm' (A++[x]) B∧vA D D' w)∧Mod D w w':=by
 have HA:=za (zaq h.q0 hs (fun e=>hn (by rw[YZ];exact xE _ e)));have HH:=za h;have hb:=h.box;have hsum:=h.law.sums;have hlen:=h.law.len;obtain⟨ne1,ne2,ne3,ne4,ne5,ne6⟩:=h.ne;have HN:=za hn;have ob:o<w.heap.size:=zl h.box;have bb:bm<w.heap.size:=h.costs.own.lt;clear h hn;obtain⟨s,c⟩:=x;dsimp only at *;obtain⟨sa,hsa⟩:=zc (zq A);obtain⟨sb,hsb⟩:=zc (zq B);rw[hsa,hsb]at hb hsum;have HSA:=za hsa;have HSB:=za hsb;clear hsa hsb;have ws:IntKind.i64.wrap ((sa:Int)+(c:Int))=(sa:Int)+(c:Int):=zo _ (by omega);obtain⟨hb_0,hb_1,hb_2,hb_3,hb_4,hb_5,hb_f,hb_l,H_hb⟩:=cr6 hb;clear hb;go_enter func118,ntmps118;go_upto_region 1 with(go_at_call 179;refine HA.out.mono ?_;rintro e w1 ⟨rfl,⟨D',hq,hg⟩,hm⟩)
 have hb1:=hm.heap ne2 H_hb.out;have hcm:=HH.out.costs.mod hm ne4;have HM1:=za hm;have HQ1:=za hq;have HG1:=za hg;have HB1:=za hb1;have HC1:=za hcm;have sz1:w.heap.size≤w1.heap.size:=hm.size;clear hb_0 hb_1 hb_2 hb_3 hb_4 hb_5 hb_f hb_l;clear H_hb hm hq hg hcm;obtain⟨hb1_0,hb1_1,hb1_2,hb1_3,hb1_4,hb1_5,hb1_f,hb1_l,H_hb1⟩:=cr6 hb1;clear hb1
 go_still_tail 11,(by kernel_rfl)
 go_upto_region 2 with fail
 obtain⟨Y,hY⟩:=zc ((w1.setCell ⟨o,2,none⟩ (.int .i64 ((sa:Int)+(c:Int)))).drew);have hb2:(w1.setCell ⟨o,2,none⟩ (.int .i64 ((sa:Int)+(c:Int)))).drew.heap[o]? = _:=zT w1 o 2 _ _ (.int .i64 ((sa:Int)+(c:Int))) HB1.out;have hm2:Mod (fun k=>k=o) w1 (w1.setCell ⟨o,2,none⟩ (.int .i64 ((sa:Int)+(c:Int)))).drew:=((Mod.refl (fun k=>k=o) w1).setCell (p:=⟨o,2,none⟩) (fun _=>rfl) _).drew;rw[hY]at hb2 hm2 ⊢;have HC2:=za (HC1.out.mod hm2 (fun e=>ne1 e.symm));have HM2:=za hm2;have HB2:=za hb2;clear hb1_0 hb1_1 hb1_2 hb1_3 hb1_4 hb1_5 hb1_f hb1_l;clear H_hb1 hY hm2;simp only[List.setIfInBounds_toArray,List.set_cons_succ,List.set_cons_zero,Array.setIfInBounds]at hb2;obtain⟨hb2_0,hb2_1,hb2_2,hb2_3,hb2_4,hb2_5,hb2_f,hb2_l,H_hb2⟩:=cr6 hb2;clear hb2;have hMl:(A++B).length<maxLen:=by unfold maxLen;omega
 go_wp2_with (at_mapUpdate;refine YV _ rfl _ _ _ 196 rfl 103 3 xU underlying196 kU bm (A++B).length Dm rfl HC2.out.own hMl (.int .u32 s) (.int .i64 c) (kS s) rfl rfl (uo (by omega)) (cD c) [] (Xt c) ?_;intro w4 ho4 hg4;go_frame)
 have hm4:Mod (fun k=>k=bm) Y w4:=Mod.of_grown hg4 (fun k e _=>by cases e;rfl);have hnn : ∀ y∈A++B,y.slot≠s:=fun y hy e=>HN.out (zD.2 ⟨y,hy,e⟩)
 have hT4:=HC2.out.put (x:=⟨s,c⟩) hnn ho4;have hbx4:=hm4.heap (fun e=>ne1 e) HB2.out;have hall:Mod (fun k=>k=o∨k=bm) w1 w4:=Mod.trans' HM2.out hm4 (fun i _ h => .inl h) (fun i _ h => .inr h);have gD : ∀ k,D' k→D0 k∨w.heap.size≤k:=HG1.out;have hDlt : ∀ k,D1 k→k<w.heap.size:=fun k hk=>HH.out.q1.lt hk
 have nD'o : ¬ D' o:=fun hk=>by rcases gD o hk with e | e;exact ne2 e;omega
 have nD'b : ¬ D' bm:=fun hk=>by rcases gD bm hk with e | e;exact ne4 e;omega
 go_end0
 refine⟨rfl,⟨fun k=>k=o∨k=bm∨D' k∨D1 k,D',_,⟨?_,?_,?_,hT4.perm ?_,?_,?_,fun _=>vg⟩,fun k hk => ?_⟩,?_⟩
 ·rw[hbx4];have e1:=HSA.out;have e2:=HSB.out;simp[vB,vB,uQ,jF,e1,e2]
 ·have e3:zw (A++[⟨s,c⟩])=zw A++[s]:=by simp[zw]
  rw[e3];exact HQ1.out.frame hall (fun k hk h=>by rcases h with e | e;exact nD'o (e ▸ hk);exact nD'b (e ▸ hk))
 ·exact(HH.out.q1.frame HM1.out (fun k hk h=>ne6 k h hk)).frame hall (fun k hk h=>by rcases h with e | e;exact ne3 (e ▸ hk);exact ne5 (e ▸ hk))
 ·simpa using(List.perm_middle (a:=(⟨s,c⟩:Wt)) (l₁:=A) (l₂:=B)).symm
 ·exact⟨ne1,nD'o,ne3,nD'b,ne5,fun k hk h1=>by rcases gD k hk with e | e;exact ne6 k e h1;have:=hDlt k h1;omega⟩
 ·refine⟨?_,fun y hy => ?_⟩
  ·have hnd:=HH.out.law.nd;have hp:(zw ((A++[(⟨s,c⟩:Wt)])++B)).Perm (s::zw (A++B)):=by
    unfold zw;exact(List.Perm.map Wt.slot (show(((A++[(⟨s,c⟩:Wt)])++B)).Perm ((⟨s,c⟩:Wt)::(A++B))from by simpa using(List.perm_middle (a:=(⟨s,c⟩:Wt)) (l₁:=A) (l₂:=B))))
   exact hp.nodup_iff.2 (yX.2 ⟨HN.out,hnd⟩)
  ·have hy':y=⟨s,c⟩∨y∈A++B:=by simp at hy ⊢;rcases hy with h | h | h;exact .inr (.inl h);exact .inl h;exact .inr (.inr h)
   rcases hy' with rfl | hy'
   ·exact⟨hs,hc⟩
   ·exact HH.out.law.rng y hy'
 ·rcases hk with e | e | e
  ·exact .inl ((HH.out.dd k).2 (.inl e))
  ·exact .inl ((HH.out.dd k).2 (.inr (.inl e)))
  ·rcases e with e | e
   ·rcases gD k e with e | e
    ·exact .inl ((HH.out.dd k).2 (.inr (.inr (.inl e))))
    ·exact .inr e
   ·exact .inl ((HH.out.dd k).2 (.inr (.inr (.inr e))))
 ·refine Mod.trans' HM1.out hall (fun i _ hi=>(HH.out.dd i).2 (.inr (.inr (.inl hi)))) (fun i _ hi=>(HH.out.dd i).2 (by rcases hi with e | e;exact .inl e;exact .inr (.inl e)))
theorem zjj(h:yG w D o l0 l1 bm lim D0 D1 Dm A B){x:Wt}(hs:x.slot<4194304)(hc:x.cost≤1099511627776)(hn:x.slot∉zw (A++B)) :
  Calls prog 118 #[lkP o,.int .i64 1,.int .u32 x.slot,.int .i64 x.cost] w fun e w'=>e=.returned (.tuple #[])∧(∃ D' D1' Dm',yG w' D' o l0 l1 bm lim D0 D1' Dm' A (B++[x])∧vA D D' w)∧Mod D w w':=by
 have HA:=za (zaq h.q1 hs (fun e=>hn (by rw[YZ];exact xA _ e)));have HH:=za h;have hb:=h.box;have hsum:=h.law.sums;have hlen:=h.law.len;obtain⟨ne1,ne2,ne3,ne4,ne5,ne6⟩:=h.ne;have HN:=za hn;have ob:o<w.heap.size:=zl h.box;have bb:bm<w.heap.size:=h.costs.own.lt;clear h hn;obtain⟨s,c⟩:=x;dsimp only at *;obtain⟨sa,hsa⟩:=zc (zq A);obtain⟨sb,hsb⟩:=zc (zq B);rw[hsa,hsb]at hb hsum;have HSA:=za hsa;have HSB:=za hsb;clear hsa hsb;have ws:IntKind.i64.wrap ((sb:Int)+(c:Int))=(sb:Int)+(c:Int):=zo _ (by omega);obtain⟨hb_0,hb_1,hb_2,hb_3,hb_4,hb_5,hb_f,hb_l,H_hb⟩:=cr6 hb;clear hb;go_enter func118,ntmps118;go_upto_region 1 with(go_at_call 179;refine HA.out.mono ?_;rintro e w1 ⟨rfl,⟨D',hq,hg⟩,hm⟩)
 have hb1:=hm.heap ne3 H_hb.out;have hcm:=HH.out.costs.mod hm ne5;have HM1:=za hm;have HQ1:=za hq;have HG1:=za hg;have HB1:=za hb1;have HC1:=za hcm;have sz1:w.heap.size≤w1.heap.size:=hm.size;clear hb_0 hb_1 hb_2 hb_3 hb_4 hb_5 hb_f hb_l;clear H_hb hm hq hg hcm;obtain⟨hb1_0,hb1_1,hb1_2,hb1_3,hb1_4,hb1_5,hb1_f,hb1_l,H_hb1⟩:=cr6 hb1;clear hb1
 go_still_tail 11,(by kernel_rfl)
 go_upto_region 2 with fail
 obtain⟨Y,hY⟩:=zc ((w1.setCell ⟨o,3,none⟩ (.int .i64 ((sb:Int)+(c:Int)))).drew);have hb2:(w1.setCell ⟨o,3,none⟩ (.int .i64 ((sb:Int)+(c:Int)))).drew.heap[o]? = _:=zT w1 o 3 _ _ (.int .i64 ((sb:Int)+(c:Int))) HB1.out;have hm2:Mod (fun k=>k=o) w1 (w1.setCell ⟨o,3,none⟩ (.int .i64 ((sb:Int)+(c:Int)))).drew:=((Mod.refl (fun k=>k=o) w1).setCell (p:=⟨o,3,none⟩) (fun _=>rfl) _).drew;rw[hY]at hb2 hm2 ⊢;have HC2:=za (HC1.out.mod hm2 (fun e=>ne1 e.symm));have HM2:=za hm2;have HB2:=za hb2;clear hb1_0 hb1_1 hb1_2 hb1_3 hb1_4 hb1_5 hb1_f hb1_l;clear H_hb1 hY hm2;simp only[List.setIfInBounds_toArray,List.set_cons_succ,List.set_cons_zero,Array.setIfInBounds]at hb2;obtain⟨hb2_0,hb2_1,hb2_2,hb2_3,hb2_4,hb2_5,hb2_f,hb2_l,H_hb2⟩:=cr6 hb2;clear hb2;have hMl:(A++B).length<maxLen:=by unfold maxLen;omega
 go_wp2_with (at_mapUpdate;refine YV _ rfl _ _ _ 196 rfl 103 3 xU underlying196 kU bm (A++B).length Dm rfl HC2.out.own hMl (.int .u32 s) (.int .i64 c) (kS s) rfl rfl (uo (by omega)) (cD c) [] (Xt c) ?_;intro w4 ho4 hg4;go_frame)
 have hm4:Mod (fun k=>k=bm) Y w4:=Mod.of_grown hg4 (fun k e _=>by cases e;rfl);have hnn : ∀ y∈A++B,y.slot≠s:=fun y hy e=>HN.out (zD.2 ⟨y,hy,e⟩)
 have hT4:=HC2.out.put (x:=⟨s,c⟩) hnn ho4;have hbx4:=hm4.heap (fun e=>ne1 e) HB2.out;have hall:Mod (fun k=>k=o∨k=bm) w1 w4:=Mod.trans' HM2.out hm4 (fun i _ h => .inl h) (fun i _ h => .inr h);have gD : ∀ k,D' k→D1 k∨w.heap.size≤k:=HG1.out;have hDlt : ∀ k,D0 k→k<w.heap.size:=fun k hk=>HH.out.q0.lt hk
 have nD'o : ¬ D' o:=fun hk=>by rcases gD o hk with e | e;exact ne3 e;omega
 have nD'b : ¬ D' bm:=fun hk=>by rcases gD bm hk with e | e;exact ne5 e;omega
 go_end0
 refine⟨rfl,⟨fun k=>k=o∨k=bm∨D0 k∨D' k,D',_,⟨?_,?_,?_,hT4.perm ?_,?_,?_,fun _=>vg⟩,fun k hk => ?_⟩,?_⟩
 ·rw[hbx4];have e1:=HSA.out;have e2:=HSB.out;simp[vB,vB,uQ,jF,e1,e2]
 ·exact(HH.out.q0.frame HM1.out (fun k hk h=>ne6 k hk h)).frame hall (fun k hk h=>by rcases h with e | e;exact ne2 (e ▸ hk);exact ne4 (e ▸ hk))
 ·have e3:zw (B++[⟨s,c⟩])=zw B++[s]:=by simp[zw]
  rw[e3];exact HQ1.out.frame hall (fun k hk h=>by rcases h with e | e;exact nD'o (e ▸ hk);exact nD'b (e ▸ hk))
 ·rw[← vr];exact(Kl _ _).symm
 ·exact⟨ne1,ne2,nD'o,ne4,nD'b,fun k hk h1=>by rcases gD k h1 with e | e;exact ne6 k hk e;have:=hDlt k hk;omega⟩
 ·refine⟨?_,fun y hy => ?_⟩
  ·have hnd:=HH.out.law.nd;have hp:(zw (A++(B++[(⟨s,c⟩:Wt)]))).Perm (s::zw (A++B)):=by
    unfold zw;exact(List.Perm.map Wt.slot (show((A++(B++[(⟨s,c⟩:Wt)]))).Perm ((⟨s,c⟩:Wt)::(A++B))from by rw[← vr];exact Kl _ _))
   exact hp.nodup_iff.2 (yX.2 ⟨HN.out,hnd⟩)
  ·have hy':y=⟨s,c⟩∨y∈A++B:=by simp at hy ⊢;rcases hy with h | h | h;exact .inr (.inl h);exact .inr (.inr h);exact .inl h
   rcases hy' with rfl | hy'
   ·exact⟨hs,hc⟩
   ·exact HH.out.law.rng y hy'
 ·rcases hk with e | e | e
  ·exact .inl ((HH.out.dd k).2 (.inl e))
  ·exact .inl ((HH.out.dd k).2 (.inr (.inl e)))
  ·rcases e with e | e
   ·exact .inl ((HH.out.dd k).2 (.inr (.inr (.inl e))))
   ·rcases gD k e with e | e
    ·exact .inl ((HH.out.dd k).2 (.inr (.inr (.inr e))))
    ·exact .inr e
 ·refine Mod.trans' HM1.out hall (fun i _ hi=>(HH.out.dd i).2 (.inr (.inr (.inr hi)))) (fun i _ hi=>(HH.out.dd i).2 (by rcases hi with e | e;exact .inl e;exact .inr (.inl e)))
end
end
section
open Go.RowKit
def atE(now s dl:Nat):Int:=if s<4194304 then(if dl=18446744073709551615 then 2 else if dl≤now then 3 else 0)else 2
section
variable{w w':World}{p now bm bb:Nat}{ws:List Nat}
theorem Az9cn {P:Prop}(h:P:=by
 go_enter func219,ntmps219
 go_wp2_with (go_at_call 122;refine HCk.out.mono ?_;rintro e w' ⟨rfl,rfl⟩)
 go_ret;exact⟨rfl,rfl⟩):P:=h
theorem Kw(h:uX w p now ws bm bb){s dl:Nat}(h32:s≤4294967295)(hd:dl≤18446744073709551615):Calls prog 219 #[lkP p,.int .u32 s,.int .u64 dl] w fun e w'=>e=.returned (.int .i64 (atE now s dl))∧w=w':=by
 have HCk:=za (Ke h h32);obtain⟨c0,_,_,_,_⟩:=h.cells;clear h;unfold qg at HCk;unfold atE;by_cases hs:s<4194304
 ·rw[zh hs]at HCk ⊢;by_cases hn:dl=18446744073709551615
  ·rw[zh hn];have e1:((dl:Int)==18446744073709551615)=true:=by simp;omega
   clear hn;exact Az9cn
  ·rw[zf hn];have e1:((dl:Int)==18446744073709551615)=false:=by simp;omega
   clear hn;by_cases hl:dl≤now
   ·rw[zh hl];have d1:decide ((dl:Int)≤(now:Int))=true:=zK (by omega);have d2:decide (dl≤now)=true:=zK hl;exact Az9cn
   ·rw[zf hl];have d1:decide ((dl:Int)≤(now:Int))=false:=zO (by omega);have d2:decide (dl≤now)=false:=zO hl;exact Az9cn
 ·rw[zf hs]at HCk ⊢;exact Az9cn
end
section
variable{w w':World}{D:Nat→Prop}{p now:Nat}{ws:List Nat}{bm bb:Nat}{Ds:Nat→Nat→Prop}{Dm Db:DataW Unit}{M:List Td}{Lss:List (List (List Nat))}
theorem Azpue {P:Prop}(h:P:=by
 go_region
 all_goals
   (try go_wp2)
   try go_meet
   first
     | exact⟨rfl,hpx⟩
     | exact⟨rfl,hpx.drew⟩
     | exact⟨rfl,hpx.alloc _⟩
     | exact⟨rfl,(hpx.alloc _).drew⟩):P:=h
theorem Azhsu {P:Prop}(h:P:=by
 go_region
 all_goals
   (try go_wp2)
   go_meet
   first
     | exact⟨rfl,(Mod.refl _ _).alloc _⟩
     | exact⟨rfl,((Mod.refl _ _).alloc _).drew⟩):P:=h
theorem zh4(h:yi w D p now ws bm bb Ds Dm Db M Lss){x:Td}(hs:x.slot<4194304)(hd:x.dl<18446744073709551615)(hb:x.birth≤18446744073709551615)(hb0:x.birth≠0)(hn:now<x.dl)(hMl:M.length<maxLen){Ls:List (List Nat)}{L:List Nat}
    (hL:Lss[lvl now x.dl]? = some Ls) (hK:Ls[bkt now x.dl]? = some L) (hf : ¬ inL Ls x.slot) (h1 : ∀ y∈M,y.slot≠x.slot) (h2 : ∀ y∈M,y.birth≠x.birth) :
    Calls prog 167 #[lkP p,tdV x] w fun e w'=>e=.returned (.int .i64 0)∧(∃ D' Ds' Dm' Db',yi w' D' p now ws bm bb Ds' Dm' Db' (x::M) (Lss.set (lvl now x.dl) (Ls.set (bkt now x.dl) (L++[x.slot])))∧ye D D' w)∧Mod D w w':=by
  have hal:zb w (w.alloc (.cells #[.int .u32 x.slot,.int .u64 x.dl,.int .u64 x.birth] 169)):=(Mod.refl _ w).alloc _;have h3:=zi (w:=w) (o := .cells #[.int .u32 x.slot,.int .u64 x.dl,.int .u64 x.birth] 169 (0,0)) rfl;have HC:=za (h.pure hal);have HCk:=za (YB (h.pure hal).box hs);have hat:=Kw (h.pure hal).box (s:=x.slot) (dl:=x.dl) (by omega) (by omega);unfold atE at hat;rw[zh hs,zf (by omega),zf (by omega)]at hat;have HAt:=za hat;have HPu:=za (fun(W:World) (hW:zb w W)=>zcx (h.pure hW) (x:=x) (M':=x::M) hs (by omega) hb (by omega) hMl hL hK hf (.inl ⟨h1,h2,rfl⟩));have hlk:=fun(W:World) (hW:zb (w.alloc (.cells #[.int .u32 x.slot,.int .u64 x.dl,.int .u64 x.birth] 169)) W)=>((h.pure hal).pure hW).what.look_no (s:=x.slot) (by omega) h1
  have hlb:=fun(W:World) (hW:zb (w.alloc (.cells #[.int .u32 x.slot,.int .u64 x.dl,.int .u64 x.birth] 169)) W)=>((h.pure hal).pure hW).births.look (s:=x.birth) hb
  have hbh:Maps.has Db (kB x.birth)=false:=by
    cases hh:Maps.has Db (kB x.birth)with
    | false=>rfl
    | true=>obtain⟨y,hy,e⟩:=(h.births.has _).1 hh;exact absurd e (h2 y hy)
  rw[hbh]at hlb;have HLK:=za hlk;have HLB:=za hlb;have HAL:=za hal;have e0:((x.birth:Int)==0)=false:=by simp;omega
  clear h hal hat hlk hlb hbh hL hK hf h1 h2 hb0;unfold tdV at HPu HLK ⊢;go_enter func167,ntmps167;go_upto_region 1 with fail
  generalize w.alloc (.cells #[.int .u32 x.slot,.int .u64 x.dl,.int .u64 x.birth] 169)=W1 at *;obtain⟨b3,hb3⟩:=zc w.heap.size;rw[hb3]at h3 ⊢;have H3:=za h3;clear hb3;obtain⟨h3_0,h3_1,h3_2,h3_f,h3_l,H_h3⟩:=cr3 h3;clear h3;obtain⟨c0,c9,c10,_,_⟩:=HC.out.box.cells;go_upto_region 9 with(first
    | (go_at_call 122;refine HCk.out.mono ?_;rintro e w' ⟨rfl,rfl⟩)
    | (go_at_call 219;refine HAt.out.mono ?_;rintro e w' ⟨rfl,rfl⟩))
  have hk1:=HLK.out W1 (Mod.refl _ _);have hk2:=HLK.out W1.drew (Mod.refl _ _).drew;have hk3:=HLK.out (W1.alloc (.cells #[.int .u32 0,.int .u64 0,.int .u64 0] 169)) ((Mod.refl _ _).alloc _);have hk4:=HLK.out (W1.alloc (.cells #[.int .u32 0,.int .u64 0,.int .u64 0] 169)).drew ((Mod.refl _ _).alloc _).drew
  go_cut [8] (fun v wx=>v=.bool false∧zb W1 wx)
  case first =>
    exact Azhsu
  case rest =>
    obtain⟨rfl,hpx⟩:=hcut;have h3x:=hpx.heap (fun h=>h) H3.out;have HCx:=za (HC.out.pure hpx);have HPX:=za hpx;have H3x:=za h3x;clear h3_0 h3_1 h3_2 h3_f h3_l;clear H_h3 c0 c9 c10 hk1 hk2 hk3 hk4;obtain⟨h3x_0,h3x_1,h3x_2,h3x_f,h3x_l,H_h3x⟩:=cr3 h3x;clear h3x;obtain⟨c0,c9,c10,_,_⟩:=HCx.out.box.cells;have hk1:=HLB.out wc hpx;have hk2:=HLB.out wc.drew hpx.drew;have hk3:=HLB.out (wc.alloc (.cells #[] 316)) (hpx.alloc _);have hk4:=HLB.out (wc.alloc (.cells #[] 316)).drew (hpx.alloc _).drew;go_upto_region 10 with fail
    go_cut [10] (fun v wx=>v=.bool false∧zb W1 wx)
    case first =>
      exact Azpue
    case rest =>
      obtain⟨rfl,hpy⟩:=hcut;have h3y:=hpy.heap (fun h=>h) H3.out;have HCy:=za (HC.out.pure hpy);have HPY:=za hpy;have H3y:=za h3y;clear h3x_0 h3x_1 h3x_2 h3x_f h3x_l;clear H_h3x c0 c9 c10 hk1 hk2 hk3 hk4 HCx;obtain⟨h3y_0,h3y_1,h3y_2,h3y_f,h3y_l,H_h3y⟩:=cr3 h3y;clear h3y;obtain⟨c0,c9,c10,_,_⟩:=HCy.out.box.cells;go_upto_region 13 with fail
      go_upto_region 14 with(go_at_call 200;refine zm (HPu.out _ (by first | exact HAL.out.trans HPY.out | exact(HAL.out.trans HPY.out).drew)) ?_;rintro e w' ⟨rfl,⟨D',Ds',Dm',Db',hC,hg⟩,hm⟩)
      have hm0:Mod D w w':=((HAL.out.trans HPY.out).mono (fun _ _ h=>h.elim):Mod D w wc).trans (by first | exact hm | exact Mod.of_drew hm);have hg0:ye D D' w:=fun k hk=>by
        rcases hg k hk with e | e
        · exact .inl e
        · exact .inr (zJ (HAL.out.trans HPY.out).size e)
      have HF:=za hC;have HM:=za hm0;have HG:=za hg0;clear hC hm hg hm0 hg0;go_wp2;exact zM (v := .int .i64 0) (by simp[results,results167,go_sem]) rfl ⟨rfl,⟨_,_,_,_,HF.out,HG.out⟩,HM.out⟩
end
end
end Go.Proofs.YtpadepliilhmhaaGreatDoor
