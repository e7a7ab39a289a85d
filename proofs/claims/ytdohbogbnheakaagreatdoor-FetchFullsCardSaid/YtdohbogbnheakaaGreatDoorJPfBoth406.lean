/- Lemmas and contracts of functions. No condition. -/
import Derived.Test.YtdohbogbnheakaaGreatDoorJPfBoth405
import Derived.RegionTactic
import Derived.Shelf.Spec.TrailingZeros
import Derived.ProofKit
import Derived.OpenShut
import Derived.Below
import Derived.ChangeSame
import Derived.Carry
import Derived.ChangeSlices
import Derived.WideKeyEntry
import Derived.Maps.RangeWalk
import Derived.Deep.CutBlock
namespace Go.Proofs.YtdohbogbnheakaaGreatDoor
open _root_.Go.Proofs.Tryz
set_option maxRecDepth 100000
set_option maxHeartbeats 20000000
set_option linter.all false
section
open Go.RowKit
theorem Yh{w:World}{gF:Nat}{F:List Nd}{T:TypeId}(h:w.heap[gF]? = some (.cells (xi F).toArray T (0,0))){i j:Nat}{u:Value}{m:Nd}(hi:i<F.length)(hj:j<3)(he:(ndC (nd F i)).set j u=ndC m) :
  (w.setCell ⟨gF,i*3+j,none⟩ u).heap[gF]? = some (.cells (xi (F.set i m)).toArray T (0,0)):=by
 rw[ya w gF _ _ T u h]
 congr 2
 rw[YO,zdf hi hj he]
theorem QM{F:List Nd}{i:Nat}(hi:i<F.length)(m:Nd):nd (F.set i m) i=m:=by rw[ZY hi,zk rfl]
theorem U6{w:World}{gF:Nat}{F:List Nd}{T:TypeId}(h:w.heap[gF]? = some (.cells (xi F).toArray T (0,0))){i:Nat}(hi:i<F.length)(a b c:Nat) :
  (((w.setCell ⟨gF,i*3,none⟩ (.int .u32 a)).setCell ⟨gF,i*3+1,none⟩ (.int .u32 b)).setCell ⟨gF,i*3+2,none⟩ (.int .u32 c)).heap[gF]? = some (.cells (xi (F.set i ⟨a,b,c⟩)).toArray T (0,0)):=by
 have h1:=Yh h (j:=0) (u := .int .u32 a) (m:=⟨a,(nd F i).nx,(nd F i).ow⟩) hi (by decide) rfl;have h2:=Yh h1 (i:=i) (j:=1) (u := .int .u32 b) (m:=⟨a,b,(nd F i).ow⟩) (by simpa using hi) (by decide) (by rw[QM hi];rfl);have h3:=Yh h2 (i:=i) (j:=2) (u := .int .u32 c) (m:=⟨a,b,c⟩) (by simpa using hi) (by decide) (by rw[QM (by simpa using hi)];rfl);simpa using h3
theorem kM{X:World}{b o b2 o2:Nat}{u v:Value}(h:X.cell? ⟨b,o,none⟩=some v)(hne:b2≠b∨o2≠o):(X.setCell ⟨b2,o2,none⟩ u).cell? ⟨b,o,none⟩=some v:=by
 rw[Yq (h:=fun e=>by injection e with e1 e2;rcases hne with h | h<;>contradiction)];exact h
theorem Yb{w:World}{gF:Nat}{F:List Nd}{T:TypeId}(h:w.heap[gF]? = some (.cells (xi F).toArray T (0,0))){i:Nat}(hi:i<F.length) :
  w.cell? ⟨gF,i*3,none⟩=some (.int .u32 (nd F i).pv)∧w.cell? ⟨gF,i*3+1,none⟩=some (.int .u32 (nd F i).nx)∧w.cell? ⟨gF,i*3+2,none⟩=some (.int .u32 (nd F i).ow):=by
 have g:=fun j=>zi w gF j _ _ (0,0) h
 exact Az10p
theorem zjr{w:World}{gF:Nat}{F:List Nd}{T:TypeId}{n o b kk:Nat}(hb:(nd F o).pv=b)(hk:(nd F o).ow=kk)(h:w.heap[gF]? = some (.cells (xi (F.set n ⟨b,o,kk⟩)).toArray T (0,0)))(hbF:b<F.length)(hoF:o<F.length) :
  ((w.setCell ⟨gF,b*3+1,none⟩ (.int .u32 n)).setCell ⟨gF,o*3,none⟩ (.int .u32 n)).heap[gF]? = some (.cells (xi (ke F n o)).toArray T (0,0)):=by
 subst hb hk;have h1:=Yh h (i:=(nd F o).pv) (j:=1) (u := .int .u32 n) (m:=⟨(nd (F.set n ⟨(nd F o).pv,o,(nd F o).ow⟩) (nd F o).pv).pv,n,(nd (F.set n ⟨(nd F o).pv,o,(nd F o).ow⟩) (nd F o).pv).ow⟩) (by simpa using hbF) (by decide) rfl;exact Yh h1 (i:=o) (j:=0) (u := .int .u32 n) (by simpa using hoF) (by decide) rfl
section
variable{w w':World}{p gF gL cF cL N:Nat}{Ls:List (List Nat)}{F:List Nd}
theorem zfA(h:xf w p gF gL cF cL N Ls F){n o k:Nat}(hn:n<N)(ho:o<F.length)(how:(nd F o).ow=k+1)(hb:(nd F o).pv<F.length)(hbn:(nd F o).pv≠n)(hon:o≠n){l:List Nat}(hl:Ls[k]? = some l) :
  Calls prog 365 #[lkP p,.int .u32 n,.int .u32 o] w fun e w'=>e=.returned (.tuple #[])∧w'.heap[gF]? = some (.cells (xi (ke F n o)).toArray 407 (0,0))∧w'.heap[gL]? = some (.cells ((uo Ls).set k (.int .i64 ((l.length+1:Nat):Int))).toArray 3 (0,0))∧Mod (fun b=>b=gF∨b=gL) w w':=by
 have hbx:=h.box;have hF:F.length≤4198400:=by rw[h.ok.len];have:=h.nm;have:=h.hm;omega
 have hnF:n<F.length:=by rw[h.ok.len];omega
 obtain⟨c0,c1,c2⟩:=h.at_ ho;rw[how]at c2;obtain⟨q0,q1,q2⟩:=h.at_ hnF;obtain⟨f1,f2,f3⟩:=h.free;obtain⟨ne1,ne2,ne3⟩:=h.ne;have HFL:=za h.fld;have HLN:=za h.len;have hk2:k<Ls.length:=(zE.1 hl).1;have hkb:k<4096:=by have:=h.hm;omega
 have HNX:=za (fun(X:World) (hX:X.heap[gL]? = some (.cells (uo Ls).toArray 3 (0,0)))=>(show X.cell? ⟨gL,k,none⟩=some (.int .i64 (l.length:Nat)) by rw[zi X gL k _ _ (0,0) hX,vI];exact JA hl));have hll:l.length≤N:=h.ok.short hl;have hN:=h.nm;obtain⟨b,hbe⟩:=zf ((nd F o).pv);rw[hbe]at c0 hb hbn;obtain⟨FL,hFL⟩:=zf F.length;rw[hFL]at hbx hF hnF hb ho;have HBX:=za hbx;clear h hbx;have hbx:=HBX.out;have dn:decide (n<FL)=true:=zP hnF;have do':decide (o<FL)=true:=zP ho;have db:decide (b<FL)=true:=zP hb;have HBE:=za hbe;have HFLe:=za hFL;have HOW:=za how;clear hbe hFL how;obtain⟨hbx_0,hbx_1,hbx_2,hbx_f,hbx_l,H_hbx⟩:=cr3 hbx;clear hbx;have g0:=f1 (n*3);have g1:=f1 (n*3+1);have g2:=f1 (n*3+2);obtain⟨kk,hkk⟩:=zf (k+1);rw[hkk]at c2 HOW;have wk:IntKind.u32.wrap ((kk:Int)-1)=(k:Int):=by rw[← hkk,show((k+1:Nat):Int)-1=(k:Int) by omega];exact Xt k (by omega)
 clear hkk;go_enter func365,ntmps365;go_upto_region 1 with fail
 go_region_held3 (fun w'=>w'.cell? ⟨p,0,none⟩=some (.slice (some ⟨gF,0,none⟩) FL cF)∧w'.cell? ⟨gF,o*3+2,none⟩=some (.int .u32 kk))
  (first | exact⟨hbx_0,c2⟩ | exact⟨kM (kM (kM hbx_0 (.inl ne1.symm)) (.inl ne1.symm)) (.inl ne1.symm),kM (kM (kM c2 (.inr (by omega))) (.inr (by omega))) (.inr (by omega))⟩) (fail)
 have hm1:Mod (fun b=>b=gF) w (((w.setCell ⟨gF,n*3,none⟩ (.int .u32 b)).setCell ⟨gF,n*3+1,none⟩ (.int .u32 o)).setCell ⟨gF,n*3+2,none⟩ (.int .u32 kk)).drew :=
  ((((Mod.refl (fun b=>b=gF) w).setCell (p:=⟨gF,n*3,none⟩) (fun _=>rfl) _).setCell (p:=⟨gF,n*3+1,none⟩) (fun _=>rfl) _).setCell (p:=⟨gF,n*3+2,none⟩) (fun _=>rfl) _).drew
 have hf1:(((w.setCell ⟨gF,n*3,none⟩ (.int .u32 b)).setCell ⟨gF,n*3+1,none⟩ (.int .u32 o)).setCell ⟨gF,n*3+2,none⟩ (.int .u32 kk)).drew.heap[gF]? = _:=U6 HFL.out (i:=n) (by rw[HFLe.out];exact hnF) b o kk;generalize(((w.setCell ⟨gF,n*3,none⟩ (.int .u32 b)).setCell ⟨gF,n*3+1,none⟩ (.int .u32 o)).setCell ⟨gF,n*3+2,none⟩ (.int .u32 kk)).drew=X1 at hm1 hf1 ⊢;have hbx1:=hm1.heap (fun e=>ne1 e) HBX.out;have hln1:=hm1.heap (fun e=>ne3 e.symm) HLN.out;clear hbx_0 hbx_1 hbx_2 hbx_f hbx_l;clear H_hbx c0 c1 c2 q0 q1 q2 f1 f2 f3 g0 g1 g2;have HF1:=za hf1;have HL1:=za hln1;have HM1:=za hm1;have HB1:=za hbx1;obtain⟨r0,r1,r2⟩:=Yb hf1 (i:=b) (by simp;rw[HFLe.out];exact hb);obtain⟨s0,s1,s2⟩:=Yb hf1 (i:=o) (by simp;rw[HFLe.out];exact ho);have g0:=yU X1 gF (b*3+1) _ _ hf1;have g1:=yU X1 gF (o*3) _ _ hf1;have hX:gF<X1.heap.size:=zm hf1;clear hf1 hln1 hm1;obtain⟨hbx1_0,hbx1_1,hbx1_2,hbx1_f,hbx1_l,H_hbx1⟩:=cr3 hbx1;clear hbx1;go_upto_region 2 with fail
 go_region_held3 (fun w'=>w'.cell? ⟨p,0,none⟩=some (.slice (some ⟨gF,0,none⟩) FL cF))
  (first | exact hbx1_0 | exact kM hbx1_0 (.inl ne1.symm) | exact kM (kM hbx1_0 (.inl ne1.symm)) (.inl ne1.symm)) (fail)
 have hm2:Mod (fun b=>b=gF) X1 ((X1.setCell ⟨gF,b*3+1,none⟩ (.int .u32 n)).setCell ⟨gF,o*3,none⟩ (.int .u32 n)).drew :=
  (((Mod.refl (fun b=>b=gF) X1).setCell (p:=⟨gF,b*3+1,none⟩) (fun _=>rfl) _).setCell (p:=⟨gF,o*3,none⟩) (fun _=>rfl) _).drew
 have hf2:((X1.setCell ⟨gF,b*3+1,none⟩ (.int .u32 n)).setCell ⟨gF,o*3,none⟩ (.int .u32 n)).drew.heap[gF]? = _:=zjr HBE.out HOW.out HF1.out (by rw[HFLe.out];exact hb) (by rw[HFLe.out];exact ho);generalize((X1.setCell ⟨gF,b*3+1,none⟩ (.int .u32 n)).setCell ⟨gF,o*3,none⟩ (.int .u32 n)).drew=X2 at hm2 hf2 ⊢;have hbx2:=hm2.heap (fun e=>ne1 e) HB1.out;have hln2:=hm2.heap (fun e=>ne3 e.symm) HL1.out;have hl9:=HNX.out _ hln2;have hput:=(QD (F:=F) (n:=n) (o:=o) (by rw[HFLe.out];exact hnF) (by rw[HFLe.out];exact ho) (by rw[HBE.out,HFLe.out];exact hb) (by rw[HBE.out];exact hbn) hon n).2.2;rw[zk rfl,HOW.out]at hput;obtain⟨q0,q1,q2⟩:=Yb hf2 (i:=n) (by rw[Kt,HFLe.out];exact hnF);rw[hput]at q2;clear hbx1_0 hbx1_1 hbx1_2 hbx1_f hbx1_l;clear H_hbx1 r0 r1 r2 s0 s1 s2 g0 g1 hput q0 q1 hX;have g0:=yU X2 gL k _ _ hln2;have HM:=za ((HM1.out.trans hm2).mono (fun _ _ h=>Or.inl h):Mod (fun b=>b=gF∨b=gL) w X2);have HF2:=za hf2;have HL2:=za hln2;have hX2:gL<X2.heap.size:=zm hln2;clear hm2 hf2 hln2;have dk:decide (k<Ls.length)=true:=zP hk2;have wl:IntKind.i64.wrap ((l.length:Int)+1)=(l.length:Int)+1:=zt _ (by omega);obtain⟨hbx2_0,hbx2_1,hbx2_2,hbx2_f,hbx2_l,H_hbx2⟩:=cr3 hbx2;clear hbx2;go_upto_region 3 with fail
 go_still_tail 17,(by kernel_rfl)
 go_wp2;have e1:(X2.setCell ⟨gL,k,none⟩ (.int .i64 ((l.length:Int)+1))).heap[gF]? = _:=xm HF2.out ne3;have e2:(X2.setCell ⟨gL,k,none⟩ (.int .i64 ((l.length:Int)+1))).heap[gL]? = _:=ya X2 gL k _ _ (.int .i64 ((l.length:Int)+1)) HL2.out;rw[YO]at e2;have e3:=HM.out.setCell (p:=⟨gL,k,none⟩) (fun _ => .inr rfl) (.int .i64 ((l.length:Int)+1))
 go_end0
 exact⟨rfl,e1,e2,e3.drew⟩
end
abbrev mkP(p:Nat):Value := .pointer (some ⟨p,1,none⟩)
def whC(q:Nat)(f:Nat→Bool)(many:Int):Array Value:=#[.pointer (some ⟨q,0,none⟩),.int .u64 (xd f 0:Nat),.int .u64 (xd f 1:Nat),.int .u64 (xd f 2:Nat),.int .u64 (xd f 3:Nat),.int .i64 many]
theorem U9{q:Nat}{f:Nat→Bool}{many:Int}{k:Nat}(hk:k<4):(whC q f many)[1+k]? = some (.int .u64 (xd f k:Nat)):=by
 have arr : ∀(a x0 x1 x2 x3 z:Value),(#[a,x0,x1,x2,x3,z]:Array Value)[1+0]? = some x0∧(#[a,x0,x1,x2,x3,z]:Array Value)[1+1]? = some x1∧(#[a,x0,x1,x2,x3,z]:Array Value)[1+2]? = some x2∧(#[a,x0,x1,x2,x3,z]:Array Value)[1+3]? = some x3:=fun _ _ _ _ _ _=>⟨rfl,rfl,rfl,rfl⟩
 have:k=0∨k=1∨k=2∨k=3:=by omega
 unfold whC;rcases this with rfl | rfl | rfl | rfl
 ·exact(arr _ _ _ _ _ _).1
 ·exact(arr _ _ _ _ _ _).2.1
 ·exact(arr _ _ _ _ _ _).2.2.1
 ·exact(arr _ _ _ _ _ _).2.2.2
theorem zcj{q:Nat}{f:Nat→Bool}{many:Int}{b:Nat}{v:Bool}{x:Nat}(hb:b<256)(hx:x=xd (vH f b v) (b/64)):(whC q f many).setIfInBounds (1+b/64) (.int .u64 (x:Nat))=whC q (vH f b v) many:=by
 rw[hx];clear hx;have h:=fun k (hk:k≠b/64)=>zfV (f:=f) (b:=b) (v:=v) hk
 have:b/64=0∨b/64=1∨b/64=2∨b/64=3:=by omega
 have arr : ∀(a x0 x1 x2 x3 y z:Value),(#[a,x0,x1,x2,x3,z]:Array Value).setIfInBounds (1+0) y=#[a,y,x1,x2,x3,z]∧(#[a,x0,x1,x2,x3,z]:Array Value).setIfInBounds (1+1) y=#[a,x0,y,x2,x3,z]∧(#[a,x0,x1,x2,x3,z]:Array Value).setIfInBounds (1+2) y=#[a,x0,x1,y,x3,z]∧(#[a,x0,x1,x2,x3,z]:Array Value).setIfInBounds (1+3) y=#[a,x0,x1,x2,y,z]:=fun _ _ _ _ _ _ _=>⟨rfl,rfl,rfl,rfl⟩
 rcases this with e | e | e | e<;>rw[e]at h ⊢ <;> unfold whC
 ·rw[(arr _ _ _ _ _ _ _).1,h 1 (by decide),h 2 (by decide),h 3 (by decide)]
 ·rw[(arr _ _ _ _ _ _ _).2.1,h 0 (by decide),h 2 (by decide),h 3 (by decide)]
 ·rw[(arr _ _ _ _ _ _ _).2.2.1,h 0 (by decide),h 1 (by decide),h 3 (by decide)]
 ·rw[(arr _ _ _ _ _ _ _).2.2.2,h 0 (by decide),h 1 (by decide),h 2 (by decide)]
section
variable{w w':World}{p q:Nat}{f:Nat→Bool}{many:Int}
theorem zjp(h:w.heap[p]? = some (.cells (whC q f many) 412 (0,0))){b:Nat}(hb:b<256) :
  Calls prog 350 #[mkP p,.int .i64 b] w fun e w'=>e=.returned (.tuple #[])∧w'.heap[p]? = some (.cells (whC q (vH f b true) many) 412 (0,0))∧Mod (fun k=>k=p) w w':=by
 have hk:b/64<4:=by omega
 have hr:b%64<64:=vp _ (by decide);have c0:w.cell? ⟨p,1+b/64,none⟩=some (.int .u64 (xd f (b/64):Nat)):=by rw[zi w p _ _ _ (0,0) h];exact U9 hk
 have g0:=yU w p (1+b/64) _ _ h;have hlt:p<w.heap.size:=zm h;have wq:wrap64 ((b:Int)/64)=((b/64:Nat):Int):=by rw[show(b:Int)/64=((b/64:Nat):Int) by omega];exact jA _ (by omega)
 have eq1:(b:Int)/64=((b/64:Nat):Int):=by omega
 have eq2:(b:Int)%64=((b%64:Nat):Int):=by omega
 have HS:=za (zhu (f:=f) (b:=b));have hwl:=J8 f (b/64);have hpl:2 ^ (b%64)<18446744073709551616:=Nat.pow_lt_pow_right (a:=2) (by decide) (show b%64<64 by omega);have hc2:((2 ^ (b%64):Nat):Int)=(2:Int) ^ (b%64):=by simp
 have hw2:=kr (2 ^ (b%64)) hpl;rw[hc2]at hw2;have hor:=VW (xd f (b/64)) (2 ^ (b%64)) hwl hpl;rw[hc2]at hor;clear hc2;have b0:(0:Int)≤(b:Int):=by omega
 have b1:(b:Int)<256:=by omega
 have HH:=za h;have HB:=za hb;obtain⟨k,hk'⟩ : ∃ k,b/64=k:=⟨_,rfl⟩;have HK:=za hk';clear h hb hk;rw[hk']at c0 g0 wq eq1 HS hwl hor;clear hk';generalize xd f k=x at *;generalize b%64=r at *;go_enter func350,ntmps350
 go_region
 have e1:=ya w p (1+k) _ _ (.int .u64 ((x ||| 2 ^ r:Nat):Int)) HH.out;have e2:=((Mod.refl (fun k=>k=p) w).setCell (p:=⟨p,1+k,none⟩) (fun _=>rfl) (.int .u64 ((x ||| 2 ^ r:Nat):Int))).drew;have e3:(whC q f many).setIfInBounds (1+k) (.int .u64 ((x ||| 2 ^ r:Nat):Int))=whC q (vH f b true) many:=by
  have:=zcj (q:=q) (f:=f) (many:=many) (v:=true) (x:=x ||| 2 ^ r) HB.out (by rw[HK.out];exact HS.out);rw[HK.out]at this;exact this
 rw[e3]at e1
 go_end0
 exact⟨rfl,e1,e2⟩
theorem zfE(h:w.heap[p]? = some (.cells (whC q f many) 412 (0,0))){b:Nat}(hb:b<256) :
  Calls prog 344 #[mkP p,.int .i64 b] w fun e w'=>e=.returned (.tuple #[])∧w'.heap[p]? = some (.cells (whC q (vH f b false) many) 412 (0,0))∧Mod (fun k=>k=p) w w':=by
 have hk:b/64<4:=by omega
 have hr:b%64<64:=vp _ (by decide);have c0:w.cell? ⟨p,1+b/64,none⟩=some (.int .u64 (xd f (b/64):Nat)):=by rw[zi w p _ _ _ (0,0) h];exact U9 hk
 have g0:=yU w p (1+b/64) _ _ h;have hlt:p<w.heap.size:=zm h;have wq:wrap64 ((b:Int)/64)=((b/64:Nat):Int):=by rw[show(b:Int)/64=((b/64:Nat):Int) by omega];exact jA _ (by omega)
 have eq1:(b:Int)/64=((b/64:Nat):Int):=by omega
 have eq2:(b:Int)%64=((b%64:Nat):Int):=by omega
 have HS:=za (zh0 (f:=f) (b:=b));have hwl:=J8 f (b/64);have hpl:2 ^ (b%64)<18446744073709551616:=Nat.pow_lt_pow_right (a:=2) (by decide) (show b%64<64 by omega);have hc2:((2 ^ (b%64):Nat):Int)=(2:Int) ^ (b%64):=by simp
 have hw2:=kr (2 ^ (b%64)) hpl;rw[hc2]at hw2;have hor:=Kr (xd f (b/64)) (2 ^ (b%64)) _ hwl hpl rfl;rw[hc2]at hor;clear hc2;have b0:(0:Int)≤(b:Int):=by omega
 have b1:(b:Int)<256:=by omega
 have HH:=za h;have HB:=za hb;obtain⟨k,hk'⟩ : ∃ k,b/64=k:=⟨_,rfl⟩;have HK:=za hk';clear h hb hk;rw[hk']at c0 g0 wq eq1 HS hwl hor;clear hk';generalize xd f k=x at *;generalize b%64=r at *;go_enter func344,ntmps344
 go_region
 have e1:=ya w p (1+k) _ _ (.int .u64 ((x &&& (18446744073709551615-2 ^ r):Nat):Int)) HH.out;have e2:=((Mod.refl (fun k=>k=p) w).setCell (p:=⟨p,1+k,none⟩) (fun _=>rfl) (.int .u64 ((x &&& (18446744073709551615-2 ^ r):Nat):Int))).drew;have e3:(whC q f many).setIfInBounds (1+k) (.int .u64 ((x &&& (18446744073709551615-2 ^ r):Nat):Int))=whC q (vH f b false) many:=by
  have:=zcj (q:=q) (f:=f) (many:=many) (v:=false) (x:=x &&& (18446744073709551615-2 ^ r)) HB.out (by rw[HK.out];exact HS.out);rw[HK.out]at this;exact this
 rw[e3]at e1
 go_end0
 exact⟨rfl,e1,e2⟩
end
def xA(w:World):Prop:=TabAt 0 Lib.deBruijn64tab w
theorem xA.mod{S:Nat→Prop}{w w':World}(h:xA w)(hm:Mod S w w')(h0 : ¬ S 0):xA w':=fun j hj=>hm.cell h0 (h j hj)
theorem xA.pure{w w':World}(h:xA w)(hm:zc w w'):xA w':=h.mod hm (fun h=>h)
theorem xA.lt{w:World}(h:xA w):0<w.heap.size:=YE w _ (h 0 (by decide))
theorem zja(x k idx:Nat)(w:World)(hx0:((x:Int)==0)=false)
  (key:IntKind.u64.wrap (bits BinOp.and IntKind.u64 (x:Int) (IntKind.u64.wrap (-(x:Int)))*285870213051353865)/288230376151711744=(idx:Int))
  (hi:idx<64) (hk:k<64) (hcell:w.cell? ⟨0,idx,none⟩=some (.int .u8 k)):Calls prog 366 #[.int .u64 x] w fun e w'=>e=.returned (.int .i64 k)∧w=w':=by
 go_enter func366,ntmps366
 go_wp2_with (simp only[key])
 go_ret;exact⟨rfl,rfl⟩
theorem zgf(x:Nat)(hx:x<18446744073709551616)(h0:x≠0)(w:World)(hT:xA w):Calls prog 366 #[.int .u64 x] w fun e w'=>e=.returned (.int .i64 (Lib.ctz 64 x))∧w=w':=by
 obtain⟨hlow,hk⟩:=Lib.lowest_bit 64 x h0 hx;obtain⟨hi,htab⟩:=Lib.deBruijn64_at _ hk;have hcell:=hT _ hi;rw[htab]at hcell;exact zja x _ _ w (by simp;omega) (tz64_key x _ hx h0 hlow) hi hk hcell
theorem ziQ{x:Nat}(hx:x<18446744073709551616)(h0:x≠0):Lib.ctz 64 x<64∧x.testBit (Lib.ctz 64 x)=true ∧ ∀ j,j<Lib.ctz 64 x→x.testBit j=false:=by
 obtain⟨m,hm,hk⟩:=Lib.ctzFrom_spec 64 x (by omega) hx;have e:Lib.ctz 64 x=Lib.ctzFrom 64 x:=by unfold Lib.ctz;rw[zh h0]
 rw[e];generalize Lib.ctzFrom 64 x=c at *;refine⟨hk,?_,fun j hj => ?_⟩
 ·rw[hm,Nat.testBit_two_pow_mul];simp
 ·rw[hm,Nat.testBit_two_pow_mul];simp;omega
def VT(f:Nat→Bool):Value:=match uI f 256 with
 | some b => .tuple #[.int .i64 (b:Nat),.bool true]
 | none => .tuple #[.int .i64 0,.bool false]
section
variable{w w':World}{p q:Nat}{f:Nat→Bool}{many:Int}
theorem zds(h:w.heap[p]? = some (.cells (whC q f many) 412 (0,0)))(hT:xA w) :
  Calls prog 347 #[mkP p,.int .i64 0] w fun e w'=>e=.returned (VT f)∧w=w':=by
 have HH:=za h;have HT:=za hT;clear h hT;go_enter func347,ntmps347;go_upto_region 3 with fail
 go_loop [6,7] (fun v6 v7 => ∃ k:Nat,v6=.int .u64 18446744073709551615∧v7=.int .i64 k∧k≤4 ∧ ∀ i,i<k→xd f i=0) (fun _ v7=>4-(intOf v7).toNat)
 case atStart=>exact⟨0,rfl,rfl,by omega,fun i hi=>by omega⟩
 case round =>
  obtain⟨k,rfl,rfl,hk,hz⟩:=hrel;have HZ:=za hz;clear hz;by_cases hlt:k<4
  ·have hlt':(k:Int)<4:=by omega
   have k0:(0:Int)≤(k:Int):=by omega
   have wi:IntKind.i64.wrap ((k:Int)+1)=(k:Int)+1:=zt _ (by omega);have dk:decide (k<4)=true:=zP hlt;have c0:w.cell? ⟨p,1+k,none⟩=some (.int .u64 (xd f k:Nat)):=by rw[zi w p _ _ _ (0,0) HH.out];exact U9 hlt
   have hwl:=J8 f k;have hand:=Xh (xd f k) 18446744073709551615 hwl (by decide);have hand2:xd f k &&& 18446744073709551615=xd f k:=by
    have:(18446744073709551615:Nat)=2 ^ 64-1:=rfl;rw[this,Ul];exact xY hwl
   rw[hand2]at hand;obtain⟨x,hx⟩:=zf (xd f k);rw[hx]at c0 hwl hand;have HX:=za hx;rw[show((18446744073709551615:Nat):Int)=18446744073709551615 by decide]at hand;clear hx hand2;by_cases hx0:x=0
   ·have HX0:=za hx0;have e0:((x:Int)==0)=true:=by simp;omega
    have e1:((x:Int) != 0)=false:=by simp;omega
    clear hx0;go_wp2
    go_round
    case rel=>exact⟨k+1,rfl,by go_num,hlt,fun i hi=>by
     by_cases e:i=k
     ·subst e;exact HX.out.trans HX0.out
     ·exact HZ.out i (by omega)⟩
    case measure=>simp[intOf];omega
   ·have HZ4:=za (zgf x hwl hx0 w HT.out);obtain⟨hc1,hc2,hc3⟩:=ziQ hwl hx0;have hfb:uI f 256=some (64*k+Lib.ctz 64 x):=by
     refine zkn (by omega) ?_ (fun j hj => ?_)
     ·rw[← HX.out,j4]at hc2;simp at hc2;rw[← HX.out];exact hc2.2
     ·by_cases c:j/64=k
      ·have:=hc3 (j%64) (by omega);rw[← HX.out,j4]at this;simp at this;have h2:=this (vp _ (by decide));rw[show 64*k+j%64=j by omega]at h2;exact h2
      ·have:=KV.1 (HZ.out (j/64) (by omega)) (j%64) (vp _ (by decide));rw[show 64*(j/64)+j%64=j by omega]at this;exact this
    have HFB:=za hfb;have e0:((x:Int)==0)=false:=by simp;omega
    have e1:((x:Int) != 0)=true:=by simp;omega
    clear hfb hc2 hc3;generalize Lib.ctz 64 x=t at *;have w64:IntKind.i64.wrap (64*(k:Int))=64*(k:Int):=zt _ (by omega);have w65:IntKind.i64.wrap (64*(k:Int)+(t:Int))=64*(k:Int)+(t:Int):=zt _ (by omega)
    go_wp2_with (go_at_call 366;refine HZ4.out.mono ?_;rintro e w' ⟨rfl,rfl⟩)
    go_ret2;exact⟨by unfold VT;rw[HFB.out];rfl,rfl⟩
  ·have hk4:k=4:=by omega
   subst hk4;have hfb:uI f 256=none:=zew (fun j hj=>by
    have:=KV.1 (HZ.out (j/64) (by omega)) (j%64) (vp _ (by decide));rw[show 64*(j/64)+j%64=j by omega]at this;exact this)
   have HFB:=za hfb;clear hfb;go_wp2;go_ret2;exact⟨by unfold VT;rw[HFB.out];rfl,rfl⟩
end
end
section
open Go.ChangeShapes Go.WideShapes Go.ChangeAt Go.RowKit
theorem zk1{H:Type}{enc:TypeId × Value→H}{P:Program}{f:Func}{s:ChangeSpec}{apart fresh handsOn again:Bool}{W W':World}{args:Array Value}{v:Value}{ds gs:List (DataW H)}{before pa pv:List MemPlace}
  (hW:DataW.Whole enc P f.params.toList s.vars apart W args.toList ds gs before)
  (hres : ∀(b:Nat) (sp:Nat→Bool) (hd:Bool),DataW.TrodAll enc P W' b sp hd f.resultTypes.toList (v.resultList f.resultTypes.size) (s.fn H (ds++gs)).results [])
  (hargs : ∀ sp:Nat→Bool,(∀ p∈before,sp p.block=true)→DataW.TrodAll enc P W' 0 sp true f.params.toList args.toList (s.fn H (ds++gs)).args pa)
  (hvars : ∀ sp:Nat→Bool,(∀ p∈before,sp p.block=true)→DataW.TrodVars enc P W' sp s.vars (s.fn H (ds++gs)).vars pv)
  (hps:before=pa++pv) (hm:zc W W')
  (hok : ∀(j:Nat) (t:TypeId) (r:Value),f.resultTypes[j]? = some t→(v.resultList f.resultTypes.size)[j]? = some r→Value.okWide P W' .any 0 t r) :
  s.post enc P f apart fresh handsOn again W args v W':=by
 have hb:Below W.heap.size W W':=hm.below (fun _ _ h=>h);subst hps;have hlt : ∀ p∈pa++pv,p.block<W.heap.size:=fun p hp=>hW.lt p hp
 have hold : ∀ p∈pa++pv,(fun b=>decide (b<W.heap.size)) p.block=true:=fun p hp=>zP (hlt p hp)
 refine⟨ds,gs,pa++pv,[],pa,pv,hW,hres _ _ _,hargs _ hold,hvars _ hold,World.keptBut_mono (fun p hp=>⟨hp,Or.inr (yz.1 hp)⟩) (hb.frame (· ∈ pa++pv)),fun _ => ?_⟩;obtain⟨_,_,_,_,_,hz,hn⟩:=hW;refine⟨hok,_,_,([]++pa)++pv,⟨[]++pa,pv,trodAll_append (hargs _ (fun _ _=>rfl)) (hres _ _ _),hvars _ (fun _ _=>rfl),rfl,fun b off hp => ?_,fun ha=>by simpa using hn ha⟩,fun p hp _=>by simpa using hp⟩;have hin:MemPlace.cell b off∈pa++pv:=by simpa using hp
 rw[hb.frozen (hlt _ hin)];exact hz b off hin
theorem zij:ownKnob prog.godebug=none:=by kernel_rfl
theorem zd2:laidOutB prog=true:=by kernel_rfl
theorem zbZ{H:Type}{enc:TypeId × Value→H}{P:Program}{W W':World}{sp:Nat→Bool}(hl:laidOutB P=true) : ∀(ts:List TypeId) (vs:List Value) (ds:List (DataW H)) (ps:List MemPlace),
  (ts.all fun t=>P.readableRec t&&decide (t<P.types.size))=true→DataW.TrodAll enc P W 0 (fun _=>true) true ts vs ds ps→(∀ x∈ps,W.sameAt W' x)→(∀ x∈ps,sp x.block=true)→DataW.TrodAll enc P W' 0 sp true ts vs ds ps
 | [],[],[],ps,_,h,_,_=>h
 | t::ts,v::vs,d::ds,ps,ht,h,hs,hp=>by
  obtain⟨p,q,h1,h2,rfl⟩:=h;simp only[List.all_cons,Bool.and_eq_true,decide_eq_true_eq]at ht;exact⟨p,q,WideElems.Trod_stays hl ht.1.1 ht.1.2 h1 (fun x hx=>hs x (xT _ hx)) (fun x hx=>hp x (xT _ hx)),
   zbZ hl ts vs ds q ht.2 h2 (fun x hx=>hs x (xM _ hx)) (fun x hx=>hp x (xM _ hx)),rfl⟩
 | [],_::_,_,_,_,h,_,_=>h.elim
 | [],[],_::_,_,_,h,_,_=>h.elim
 | _::_,[],_,_,_,h,_,_=>h.elim
 | _::_,_::_,[],_,_,h,_,_=>h.elim
theorem zko{H:Type}{enc:TypeId × Value→H}{P:Program}{f:Func}{s:ChangeSpec}{fresh handsOn again:Bool}{W W':World}{args:Array Value}{ds gs:List (DataW H)}{before:List MemPlace}{tb:TypeId}
  (hl:laidOutB P=true) (hts:(f.params.toList.all fun t=>P.readableRec t&&decide (t<P.types.size))=true) (hv:s.vars=[]) (hrt:f.resultTypes=#[tb]) (htb:P.underlying tb=some .bool)
  (hW:DataW.Whole enc P f.params.toList s.vars false W args.toList ds gs before) (hspec:s.fn H (ds++[]) = {results:=[.lit (.bool true)],args:=ds}) (hm:zc W W') :
  s.post enc P f false fresh handsOn again W args (.bool true) W':=by
 have hW':=hW;obtain⟨p,q,hA,hV,rfl,hfz,hnd⟩:=hW;have hb:Below W.heap.size W W':=hm.below (fun _ _ h=>h);rw[hv]at hV;obtain⟨rfl,rfl⟩:=trodVars_none hV;have hlt : ∀ x∈p,x.block<W.heap.size:=fun x hx=>hW'.lt x (xT _ hx)
 refine zk1 (pa:=p) (pv:=[]) hW' ?_ ?_ ?_ rfl hm ?_
 ·intro b sp hd;rw[hspec,hrt];exact trodAll_cons_mk (shut_bool htb _) trodAll_mk0
 ·intro sp hsp;rw[hspec];exact zbZ hl _ _ _ _ hts hA (fun x hx=>hb.same (hlt x hx)) (fun x hx=>hsp x (xT _ hx))
 ·intro sp _;rw[hv,hspec]
  rfl
 ·exact ok_one hrt rfl (okWide_bool_mk htb _)
theorem zah(z:Int)(h:(Lit.int .u64 z).wf=true):0≤z∧z<(18446744073709551616:Nat):=by
 simp[Lit.wf,IntKind.min,IntKind.max,IntKind.signed,IntKind.bits]at h;omega
end
section
open Go.RowKit Go.Maps Go.MapKept Go.ChangeMaps Go.WideElems
variable{H:Type}{P:Program}{k e t:TypeId}{R:Value→Option (DataW H × List MemPlace)}{w:World}{b n:Nat}{D:DataW H}
theorem Azvlv {P:Prop}(h:P:=by
 simp[Instr.entryStore,MapKept.run_getObj_map hw2,asInt,asIntOf,hidx,hmod,MapKept.run_setObj_map _ hw2,Result.andThen,setBlock]):P:=h
theorem VY(h:w.ownsMap P k R b n D)(K:Keyed P k)(ht:P.underlying t=some (.map k e)){z:Value}(hz : ∀ u:World,(zeroValue e).run P u=.ok z u)(hn:n<maxLen){key:Value}{kl:Lit}(hkey:keyOf P k key=some kl) :
  ∃(v0:Value) (st:Nat) (w1:World) (o1:Obj),(Instr.mapEntry t (.map (some b)) key).run P w=.ok (.tuple #[v0,.int .i64 (st:Int)]) w1∧w1.heap[b]? = some o1∧w.grownBy w1 (some b) ∧
   ∀(w2:World) (val:Value) (d:DataW H) (ps:List MemPlace),w2.heap[b]? = some o1→R val=some (d,ps) → ∃ w3,(Instr.entryStore t (.map (some b)) (.int .i64 (st:Int)) val).run P w2=.ok () w3∧w3.ownsMap P k R b (n+1) (D.put kl d)∧w2.grownBy w3 (some b):=by
 have hput : ∀ val d ps,R val=some (d,ps) → ∃ w',(Instr.mapUpdate t (.map (some b)) key val).run P w=.ok () w'∧w'.ownsMap P k R b (n+1) (D.put kl d):=fun val d ps hv=>by
  obtain⟨w',h1,h2,_⟩:=h.update K ht hn hkey hv;exact⟨w',h1,h2⟩
 obtain⟨es,clock,hb,F,hs,hD⟩:=h;obtain⟨s1,s2,_⟩:=F.stamped;have fin : ∀(w2:World) (val:Value) (d:DataW H) (ps:List MemPlace) (es2:Array MapEntry) (c2:Nat) (es':Array MapEntry) (clock':Nat),w2.heap[b]? = some (.map es2 c2)→R val=some (d,ps)→(Instr.mapUpdate t (.map (some b)) key val).run P w=.ok () (setBlock w b (.map es' clock')) →
   (setBlock w2 b (.map es' clock')).ownsMap P k R b (n+1) (D.put kl d)∧w2.grownBy (setBlock w2 b (.map es' clock')) (some b):=fun w2 val d ps es2 c2 es' clock' hw2 hv hup=>by
  obtain⟨w',h1,h2⟩:=hput val d ps hv;rw[hup]at h1;injection h1 with _ h1
  subst h1;obtain⟨e1,c1,k1,k2,k3,k4⟩:=h2;rw[heap_setBlock_same hb]at k1;injection k1 with k1
  injection k1 with k1 k5
  subst k1 k5;exact⟨⟨_,_,heap_setBlock_same hw2 _,k2,k3,k4⟩,⟨rfl,rfl,rfl,by simp[setBlock],fun i _ hi=>heap_setBlock_other hw2 _ (fun e=>hi (by rw[e]))⟩⟩
 have hgr : ∀(o:Obj),w.grownBy (setBlock w b o) (some b):=fun o=>⟨rfl,rfl,rfl,by simp[setBlock],fun i _ hi=>heap_setBlock_other hb _ (fun e=>hi (by rw[e]))⟩
 rcases K.find w hkey es.toList F.keys with⟨h1,h2⟩ | ⟨j,e0,h1,h2,h3⟩
 ·refine⟨z,clock,setBlock w b (.map (es.push ⟨key,z,clock⟩) (clock+1)),_,?_,heap_setBlock_same hb _,hgr _,fun w2 val d ps hw2 hv=>⟨setBlock w2 b (.map (es.push ⟨key,val,clock⟩) (clock+1)),?_,?_⟩⟩
  ·simp[Instr.mapEntry,run_underlying ht,MapKept.run_getObj_map hb,K.check w false hkey,h1,hz,MapKept.run_setObj_map _ hb,Result.andThen,setBlock,goInt]
  ·have hidx:(es.push ⟨key,z,clock⟩).findIdx? (fun e=>((e.born:Nat):Int)==((clock:Nat):Int))=some es.size:=by
    rw[WideElems.findIdx_arr];exact WideElems.findIdx_born (l:=(es.push ⟨key,z,clock⟩).toList) (j:=es.size) (e0:=⟨key,z,clock⟩) (by
     simp only[Array.toList_push,List.map_append,List.map_cons,List.map_nil];refine xD.2 ⟨s2,by simp,fun a ha c hc e1 => ?_⟩;simp only[List.mem_singleton]at hc;obtain⟨x,hx,rfl⟩:=zz.1 ha;have:=s1 x hx;omega) (by simp)
   have hmod:(es.push ⟨key,z,clock⟩).modify es.size (fun e => {e with val:=val})=es.push ⟨key,val,clock⟩:=by
    apply Array.ext';rw[Vg,Array.toList_push,Array.toList_push,← Array.length_toList,WideElems.modify_last]
   exact Azvlv
  ·refine fin w2 val d ps _ _ _ _ hw2 hv ?_;simp[Instr.mapUpdate,run_underlying ht,MapKept.run_getObj_map hb,K.check w false hkey,h1,MapKept.run_setObj_map _ hb,Result.andThen,setBlock]
 ·have hj:es[j]? = some e0:=by simpa using h2
  have hsame:es.modify j (fun e => {e with key:=key})=es:=by
   apply Array.ext';rw[Vg,modify_eq_set _ _ _ _ h2,show({e0 with key:=key}:MapEntry)=e0 by rw[← h3]];exact WideElems.set_self _ _ _ h2
  refine⟨e0.val,e0.born,setBlock w b (.map es clock),_,?_,heap_setBlock_same hb _,hgr _,fun w2 val d ps hw2 hv=>⟨setBlock w2 b (.map (es.modify j (fun e' => {e' with key:=key,val:=val})) clock),?_,?_⟩⟩
  ·simp[Instr.mapEntry,run_underlying ht,MapKept.run_getObj_map hb,K.check w false hkey,h1,hj,h3,K.stays w hkey,hsame,MapKept.run_setObj_map _ hb,Result.andThen,setBlock,goInt]
  ·have hidx:es.findIdx? (fun e=>((e.born:Nat):Int)==((e0.born:Nat):Int))=some j:=by
    rw[WideElems.findIdx_arr];exact WideElems.findIdx_born s2 h2
   have hmod:es.modify j (fun e => {e with val:=val})=es.modify j (fun e' => {e' with key:=key,val:=val}):=by
    apply Array.ext';rw[Vg,Vg,modify_eq_set _ _ _ _ h2,modify_eq_set _ _ _ _ h2,← h3]
   exact Azvlv
  ·refine fin w2 val d ps _ _ _ _ hw2 hv ?_;simp[Instr.mapUpdate,run_underlying ht,MapKept.run_getObj_map hb,K.check w false hkey,h1,hj,h3,K.stays w hkey,MapKept.run_setObj_map _ hb,Result.andThen,setBlock]
end
section
open Go.RowKit Go.Maps
structure Elt(α:Type) where
 V:α→Value
 T:α→DataW Unit
 R:Value→Option (DataW Unit × List MemPlace)
 rd : ∀ x,R (V x)=some (T x,[])
 inv : ∀ v z,R v=some z → ∃ x,v=V x∧z=(T x,[])
 inj : ∀ x y,T x=T y→x=y
def zbO(v:Value):Option (DataW Unit × List MemPlace):=match v with
 | .pointer none=>some (.lit (.int .u64 0),[])
 | .pointer (some ⟨b,0,none⟩)=>some (.lit (.int .u64 ((b+1:Nat):Int)),[])
 | _=>none
def xB:Elt (Option Nat) where
 V:=fun o=>match o with
  | none => .pointer none
  | some b => .pointer (some ⟨b,0,none⟩)
 T:=fun o=>match o with
  | none => .lit (.int .u64 0)
  | some b => .lit (.int .u64 ((b+1:Nat):Int))
 R:=zbO
 rd:=fun x=>by cases x<;>rfl
 inv:=fun v z h=>by
  unfold zbO at h;split at h
  ·cases h;exact⟨none,rfl,rfl⟩
  ·rename_i b
   cases h;exact⟨some b,rfl,rfl⟩
  ·cases h
 inj:=fun x y h=>by
  cases x<;>cases y
  ·rfl
  ·rename_i b;injection h with h;injection h with _ h
   have h':(0:Int)=((b+1:Nat):Int):=h;omega
  ·rename_i b;injection h with h;injection h with _ h
   have h':((b+1:Nat):Int)=(0:Int):=h;omega
  ·rename_i a b;injection h with h;injection h with _ h
   have h':((a+1:Nat):Int)=((b+1:Nat):Int):=h
   congr 1;omega
theorem Qt{a b:ByteArray}(h:a.data.toList=b.data.toList):a=b:=by
 obtain⟨⟨l⟩⟩:=a;obtain⟨⟨m⟩⟩:=b;have h':l=m:=h;rw[h']
def YQ(n:Nat):Lit := .int .i64 n
def zbU(v:Value):Option (DataW Unit × List MemPlace):=match v with
 | .string s=>some (.lit (.string s.data.toList),[])
 | _=>none
def Vp:Elt ByteArray where
 V:=fun s => .string s
 T:=fun s => .lit (.string s.data.toList)
 R:=zbU
 rd:=fun x=>rfl
 inv:=fun v z h=>by
  unfold zbU at h;split at h
  ·rename_i s
   cases h;exact⟨s,rfl,rfl⟩
  ·cases h
 inj:=fun x y h=>by injection h with h;injection h with h;exact Qt h
def xc(s:ByteArray):Lit := .string s.data.toList
theorem Yz{a b:ByteArray}(h:xc a=xc b):a=b:=Qt (by unfold xc at h;injection h)
theorem zjd{a b:Nat}(h:YQ a=YQ b):a=b:=by unfold YQ at h;injection h with _ h;exact kH.1 h
theorem zcY(s:ByteArray):WideAt.IsKeyLit (xc s):=trivial
theorem kX:Keyed prog 9:=string_keyed underlying9
theorem zcv:Keyed prog 3:=int_keyed underlying3
theorem zgr{s:Nat}(h:s≤9223372036854775807):keyOf prog 3 (.int .i64 s)=some (YQ s):=keyOf_int_mk underlying3 (by simp[Lit.wf,IntKind.min,IntKind.max,IntKind.signed,IntKind.bits];omega)
theorem ZS{s:ByteArray}(h:s.size≤9223372036854775807):keyOf prog 9 (.string s)=some (xc s):=by
 rw[keyOf_string underlying9];have h':s.size≤maxLen:=h;simp[mapKey,xc,underlying9,h']
structure yX{α:Type}(E:Elt α)(kt:TypeId)(w:World)(b:Nat)(M:List (Lit × α))(D:DataW Unit):Prop where
 own:w.ownsMap prog kt E.R b M.length D
 at_ : ∀ x∈M,∀ zd,D.atKey x.1 zd=E.T x.2
 has : ∀ l,Maps.has D l=true → ∃ x∈M,x.1=l
 size:Maps.size D=M.length
section
variable{α:Type}{E:Elt α}{kt:TypeId}{w w':World}{b:Nat}{M M':List (Lit × α)}{D:DataW Unit}{S:Nat→Prop}
theorem yX.mod(h:yX E kt w b M D)(hm:Mod S w w')(hb : ¬ S b):yX E kt w' b M D:=⟨Yr h.own hm hb,h.at_,h.has,h.size⟩
theorem yX.new(E:Elt α)(kt:TypeId)(w:World):yX E kt (w.alloc (.map #[] 0)) w.heap.size [] (.map []):=⟨YZ _ _ _ _,(fun _ h=>by cases h),(fun s h=>by cases h),rfl⟩
theorem yX.has_mem(h:yX E kt w b M D){x:Lit × α}(hx:x∈M):Maps.has D x.1=true:=Maps.has_true_of_atKey (h.at_ x hx)
theorem yX.not_has(h:yX E kt w b M D){l:Lit}(hs : ∀ x∈M,x.1≠l):Maps.has D l=false:=by
 cases hh:Maps.has D l with
 | false=>rfl
 | true=>obtain⟨x,hx,e⟩:=h.has l hh;exact absurd e (hs x hx)
theorem yX.look(h:yX E kt w b M D)(K:Keyed prog kt){mt et:TypeId}(ht:prog.underlying mt=some (.map kt et)){z:α}(hz : ∀ u:World,(zeroValue et).run prog u=.ok (E.V z) u){kv:Value}{l:Lit}(hk:keyOf prog kt kv=some l){x:α}(hx:(l,x)∈M) :
  (Instr.lookup mt (.map (some b)) kv false).run prog w=.ok (E.V x) w:=by
 obtain⟨v,ps,hrun,hv⟩:=h.own.lookup K ht (hz w) (E.rd z) hk;rw[h.at_ (l,x) hx]at hv;obtain⟨y,rfl,e⟩:=E.inv _ _ hv;have:=E.inj _ _ (congrArg Prod.fst e);subst this;exact hrun
theorem yX.look_no(h:yX E kt w b M D)(K:Keyed prog kt){mt et:TypeId}(ht:prog.underlying mt=some (.map kt et)){z:α}(hz : ∀ u:World,(zeroValue et).run prog u=.ok (E.V z) u){kv:Value}{l:Lit}(hk:keyOf prog kt kv=some l)(hn : ∀ x∈M,x.1≠l) :
  (Instr.lookup mt (.map (some b)) kv false).run prog w=.ok (E.V z) w:=by
 obtain⟨v,ps,hrun,hv⟩:=h.own.lookup K ht (hz w) (E.rd z) hk;rw[Maps.atKey_of_not_has (h.not_has hn)]at hv;obtain⟨y,rfl,e⟩:=E.inv _ _ hv;have:=E.inj _ _ (congrArg Prod.fst e);subst this;exact hrun
theorem yX.put(h:yX E kt w b M D)(K:Keyed prog kt){l:Lit}(hl:WideAt.IsKeyLit l){x:α}(hn : ∀ y∈M,y.1≠l)(ho:w'.ownsMap prog kt E.R b (M.length+1) (D.put l (E.T x))):yX E kt w' b ((l,x)::M) (D.put l (E.T x)):=by
 have hm:=h.own.isMap;refine⟨ho,fun y hy zd => ?_,fun s hs => ?_,?_⟩
 ·rcases zO.1 hy with rfl | hy
  ·exact atKey_put_same hm hl _ _
  ·rw[atKey_put_other (hn y hy)];exact h.at_ y hy zd
 ·by_cases e:s=l
  ·exact⟨_,yE,e.symm⟩
  ·rw[has_put_other e]at hs;obtain⟨y,hy,e2⟩:=h.has s hs;exact⟨y,yH _ hy,e2⟩
 ·rw[Zd (h.own.tidy K),h.not_has hn,h.size];rfl
theorem yX.del(h:yX E kt w b M D)(K:Keyed prog kt){l:Lit}{x:α}(hx:(l,x)∈M)(hM : ∀ y,y∈M'↔y∈M∧y.1≠l)(hl:M'.length+1=M.length){n:Nat}(ho:w'.ownsMap prog kt E.R b n (D.del l)):yX E kt w' b M' (D.del l):=by
 have hsz:Maps.size (D.del l)=M'.length:=by
  have:=Maps.size_del (k:=l) (h.own.tidy K);rw[h.has_mem hx,h.size]at this;simp at this;omega
 refine⟨by have:=Zo ho;rw[hsz]at this;exact this,fun y hy zd => ?_,fun s hs => ?_,hsz⟩
 ·obtain⟨h1,h2⟩:=(hM y).1 hy;rw[atKey_del_other h2];exact h.at_ y h1 zd
 ·by_cases e:s=l
  ·subst e;rw[has_del_same]at hs
   cases hs
  ·rw[has_del_other e]at hs;obtain⟨y,hy,e2⟩:=h.has s hs;exact⟨y,(hM y).2 ⟨hy,fun c=>e (by rw[← e2,c])⟩,e2⟩
end
end
section
open Go.RowKit
def inL(Ls:List (List Nat))(n:Nat):Prop := ∃(k:Nat) (l:List Nat),Ls[k]? = some l∧n∈l
section
variable{w w':World}{p gF gL cF cL N:Nat}{Ls:List (List Nat)}{F:List Nd}{D:Nat→Prop}
theorem xH.free0(h:xH N Ls F){n:Nat}(hn:n<N)(hf : ¬ inL Ls n):(nd F n).ow=0:=by
 by_cases h0:(nd F n).ow=0
 ·exact h0
 ·obtain⟨k,l,h1,h2,_⟩:=h.free n hn h0;exact absurd ⟨k,l,h1,h2⟩ hf
theorem zec(h:xf w p gF gL cF cL N Ls F){n k:Nat}{l:List Nat}(hn:n<N)(hl:Ls[k]? = some l)(hf : ¬ inL Ls n) :
    Calls prog 340 #[lkP p,.int .i64 k,.int .u32 n,.bool false] w fun e w'=>e=.returned (.int .i64 0)∧xf w' p gF gL cF cL N (Ls.set k (l++[n])) (ke F n (N+k))∧Mod (fun b=>b=gF∨b=gL) w w':=by
  have h0:=h.ok.free0 hn hf;obtain⟨a1,a2,a3,a4,a5,a6⟩:=h.ok.back hn h0 hl;have hk:k<Ls.length:=(zE.1 hl).1;have hk4:k≤4096:=by have:=h.hm;omega
  have HP:=za (zfA h hn a3 a2 a4 a5 a6 hl);have HLi:=za (VO h hk);have HNo:=za (zbs h hn);have HRi:=za (J9 h hk4);have hb:=h.box;obtain⟨FL,hFL⟩:=zf F.length;have hnF:n<FL:=by rw[← hFL,h.ok.len];omega
  obtain⟨c0,c1,c2⟩:=h.at_ (i:=n) (by rw[hFL];exact hnF);rw[h0]at c2;rw[hFL]at hb;have dn:decide (n<FL)=true:=zP hnF;have hend : ∀(w':World),w'.heap[gF]? = some (.cells (xi (ke F n (N+k))).toArray 407 (0,0))→w'.heap[gL]? = some (.cells ((uo Ls).set k (.int .i64 ((l.length+1:Nat):Int))).toArray 3 (0,0))→Mod (fun b=>b=gF∨b=gL) w w'→xf w' p gF gL cF cL N (Ls.set k (l++[n])) (ke F n (N+k)):=fun w' g1 g2 g3=>by
    obtain⟨n1,n2,n3⟩:=h.ne;refine⟨?_,g1,?_,a1,h.n1,h.nm,by rw[xF];exact h.hm⟩
    · rw[Kt,xF];exact g3.heap (fun e=>by rcases e with e | e;exact n1 e;exact n2 e) h.box
    · rw[← za5,zV];exact g2
  have HE:=za hend;have hFb:FL≤4198400:=by rw[← hFL,h.ok.len];have:=h.nm;have:=h.hm;omega
  clear h hend hFL a1 a2 a3 a4 a5 a6 c0 c1 hl hf h0;obtain⟨hb_0,hb_1,hb_2,hb_f,hb_l,H_hb⟩:=cr3 hb;clear hb;go_enter func340,ntmps340
  go_wp2_with (first
    | (go_at_call 341;refine HLi.out.mono ?_;rintro e w' ⟨rfl,rfl⟩)
    | (go_at_call 336;refine HNo.out.mono ?_;rintro e w' ⟨rfl,rfl⟩)
    | (go_at_call 287;refine HRi.out.mono ?_;rintro e w' ⟨rfl,rfl⟩)
    | (go_at_call 365;refine HP.out.mono ?_;rintro e w2 ⟨rfl,q1,q2,q3⟩))
  go_ret;exact⟨rfl,HE.out _ q1 q2 q3,q3⟩
theorem KG(h:ym w D p N Ls){n k:Nat}{l:List Nat}(hn:n<N)(hl:Ls[k]? = some l)(hf : ¬ inL Ls n) :
  Calls prog 297 #[lkP p,.int .i64 k,.int .u32 n] w fun e w'=>e=.returned (.int .i64 0)∧ym w' D p N (Ls.set k (l++[n]))∧Mod D w w':=by
 obtain⟨gF,gL,cF,cL,F,h1,h2⟩:=h;have HA:=za (zec h1 hn hl hf);have H2:=za h2;clear h1 h2 hl hf hn;go_enter func297,ntmps297
 go_wp2_with (go_at_call 340;refine HA.out.mono ?_;rintro e w2 ⟨rfl,q1,q2⟩)
 go_ret;exact⟨rfl,⟨gF,gL,cF,cL,_,q1,H2.out⟩,q2.mono (fun k _ hk=>(H2.out k).2 (.inr hk))⟩
def Ji(Ls:List (List Nat))(n:Nat)(e:Ending):Prop:=(∃(k:Nat) (l:List Nat),Ls[k]? = some l∧n∈l∧e=.returned (.tuple #[.int .i64 k,.int .i64 0]))∨(¬ inL Ls n ∧ ∃ er:Int,er≠0∧e=.returned (.tuple #[.int .i64 0,.int .i64 er]))
theorem zbL(h:ym w D p N Ls){n:Nat}(h32:n≤4294967295):Calls prog 245 #[lkP p,.int .u32 n] w fun e w'=>Ji Ls n e∧w=w':=by
 obtain⟨gF,gL,cF,cL,F,h,h2⟩:=h;have HI:=za (zcC h h32);have hb:=h.box;by_cases hn:n<N∧(nd F n).ow≠0
 ·obtain⟨k,l,hl,hm,how⟩:=h.ok.free n hn.1 hn.2;have e0:inE N F n=0:=by unfold inE;rw[zk hn.1,zh hn.2]
  rw[e0]at HI;obtain⟨FL,hFL⟩:=zf F.length;have hnF:n<FL:=by rw[← hFL,h.ok.len];omega
  obtain⟨c0,c1,c2⟩:=h.at_ (i:=n) (by rw[hFL];exact hnF);rw[how]at c2;rw[hFL]at hb;have dn:decide (n<FL)=true:=zP hnF;have hk:k<Ls.length:=(zE.1 hl).1;have hk4:k<4096:=by have:=h.hm;omega
  have HE:Hid (Ji Ls n (.returned (.tuple #[.int .i64 k,.int .i64 0]))):=za (Or.inl ⟨k,l,hl,hm,rfl⟩);obtain⟨kk,hkk⟩:=zf (k+1);rw[hkk]at c2;have wk:IntKind.i64.wrap ((kk:Int)-1)=(k:Int):=by rw[show(kk:Int)-1=(k:Int) by omega];exact zt _ (by omega)
  have wkk:IntKind.i64.wrap (kk:Int)=(kk:Int):=zt _ (by omega);clear h c0 c1 hl hm hn how e0 hFL hkk h2;obtain⟨hb_0,hb_1,hb_2,hb_f,hb_l,H_hb⟩:=cr3 hb;clear hb;go_enter func245,ntmps245
  go_wp2_with (go_at_call 294;refine HI.out.mono ?_;rintro e w' ⟨rfl,rfl⟩)
  go_ret2;exact⟨HE.out,rfl⟩
 ·have hni : ¬ inL Ls n:=fun⟨k,l,hl,hm⟩=>by
   have:=h.ok.own k l hl n hm;exact hn ⟨this.1,by omega⟩
  have e0:inE N F n≠0:=by
   unfold inE;split
   ·rename_i h1;have:(nd F n).ow=0:=by
     by_cases h0:(nd F n).ow=0
     ·exact h0
     ·exact absurd ⟨h1,h0⟩ hn
    rw[zk this];decide
   ·decide
  have HE : ∀ er,er≠0→Ji Ls n (.returned (.tuple #[.int .i64 0,.int .i64 er])):=fun er he=>Or.inr ⟨hni,er,he,rfl⟩
  have HE2:=za (HE _ e0);obtain⟨er,her⟩:=zf (inE N F n);rw[her]at HI HE2 e0;have b0:(er==0)=false:=by simpa using e0
  have b1:(er != 0)=true:=by simpa using e0
  clear h h2 hn HE her hni hb e0;go_enter func245,ntmps245
  go_wp2_with (go_at_call 294;refine HI.out.mono ?_;rintro e w' ⟨rfl,rfl⟩)
  go_ret2;exact⟨HE2.out,rfl⟩
theorem zcu(h:ym w D p N Ls){k:Nat}{l:List Nat}(hl:Ls[k]? = some l):Calls prog 298 #[lkP p,.int .i64 k] w fun e w'=>e=.returned (.int .i64 l.length)∧w=w':=by
 obtain⟨gF,gL,cF,cL,F,h,h2⟩:=h;have hk:k<Ls.length:=(zE.1 hl).1;have HLi:=za (VO h hk);have hb:=h.box;have hc:=h.lenAt hl;obtain⟨H,hH⟩:=zf Ls.length;rw[hH]at hb hk;have hm:=h.hm;rw[hH]at hm;have dn:decide (k<H)=true:=zP hk;clear h h2 hl hH;generalize l.length=n at *;obtain⟨hb_0,hb_1,hb_2,hb_f,hb_l,H_hb⟩:=cr3 hb;clear hb;go_enter func298,ntmps298
 go_wp2_with (go_at_call 341;refine HLi.out.mono ?_;rintro e w' ⟨rfl,rfl⟩)
 go_ret;exact⟨rfl,rfl⟩
theorem QH(h:ym w D p N Ls):Calls prog 337 #[lkP p] w fun e w'=>e=.returned (.int .i64 N)∧w=w':=by
 obtain⟨gF,gL,cF,cL,F,h,h2⟩:=h;have HN:=za (X5 h);have hb:=h.box;clear h h2;obtain⟨hb_0,hb_1,hb_2,hb_f,hb_l,H_hb⟩:=cr3 hb;clear hb;go_enter func337,ntmps337;exact Az477
end
theorem qt:(prog.info? 143).map (fun i=>(i.zero,i.size,i.bytes))=some (some (.int .u32 0),1,4):=by kernel_rfl
def zX(xs:List Nat):List Value:=xs.map (fun x:Nat=>(.int .u32 x:Value))
theorem qS(a b:List Nat):zX (a++b)=zX a++zX b:=by simp[zX]
theorem qq(a:List Nat):(zX a).length=a.length:=by simp[zX]
abbrev yw(w:World)(a:Option Addr)(c:Nat)(xs:List Nat):Prop:=w.ownsRow 0 143 1 (.slice a xs.length c) xs.length (zX xs)
def xp(w:World)(v:Value):Prop := ∀ g,v.ownBlock=some g→w.heap.size≤g
theorem VS(xs:List Nat) : ∀ u∈zX xs,u.oneCell'=true:=by
 intro u hu;unfold zX at hu;obtain⟨x,_,rfl⟩:=zz.1 hu
 rfl
theorem zaH{F:List Nd} : ∀ {l:List Nat} {a:Nat},Ch F a l → ∀(i x y:Nat),(a::l)[i]? = some x→l[i]? = some y→(nd F x).nx=y
 | [],_,_,i,x,y,_,h=>by simp at h
 | z::l,a,⟨h1,h2,h3⟩,0,x,y,hx,hy=>by
  simp at hx hy;rw[← hx,h1,hy]
 | z::l,a,⟨h1,h2,h3⟩,i+1,x,y,hx,hy=>zaH h3 i x y (by simpa using hx) (by simpa using hy)
theorem kw.at_{F:List Nd}{r:Nat}{l:List Nat}(h:kw F r l){i x y:Nat}(hx:(r::l)[i]? = some x)(hy:(l++[r])[i]? = some y):(nd F x).nx=y:=by
 refine zaH h i x y ?_ hy;rw[← zbt,us (by exact(zE.1 hx).1)];exact hx
section
variable{w w':World}{p N:Nat}{Ls:List (List Nat)}{D:Nat→Prop}
theorem KP(h:ym w D p N Ls){k:Nat}{l:List Nat}(hl:Ls[k]? = some l) :
    Calls prog 318 #[lkP p,.int .i64 k] w fun e w' => ∃ a c,e=.returned (.slice a l.length c)∧yw w' a c l∧xp w (.slice a l.length c)∧zc w w':=by
  obtain⟨gF,gL,cF,cL,F,h,_⟩:=h;have hk:k<Ls.length:=(zE.1 hl).1;have hk4:k≤4096:=by have:=h.hm;omega
  have HLi:=za (VO h hk);have HRi:=za (J9 h hk4);have HNX:Hid (∀ {i x y:Nat},((N+k)::l)[i]? = some x→(l++[N+k])[i]? = some y→(nd F x).nx=y):=za (fun hx hy=>(h.ok.ring k l hl).at_ hx hy);have HLT:Hid (∀(i x:Nat),(l++[N+k])[i]? = some x→x<F.length∧(i<l.length→x<N∧l[i]? = some x)∧(l.length≤i→x=N+k)):=za (fun i x hx=>by
    have hm:=yl hx;refine⟨(h.ok.mem_lt hl x hm).1,fun hi => ?_,fun hi => ?_⟩
    · rw[us hi]at hx
      exact⟨(h.ok.own k l hl x (yl hx)).1,hx⟩
    · rw[jh hi]at hx
      rw[List.getElem?_singleton]at hx;split at hx
      · injection hx with hx;exact hx.symm
      · cases hx)
  have hll:l.length≤N:=h.ok.short hl;have hnm:=h.nm;have hFb:F.length≤4198400:=by rw[h.ok.len];have:=h.hm;omega
  have hNF:N+k<F.length:=h.ok.hd_lt hk;obtain⟨FL,hFL⟩:=zf F.length;rw[hFL]at hFb hNF HLT;obtain⟨c0,c1,c2⟩:=h.at_ (i:=N+k) (by rw[hFL];exact hNF);obtain⟨y0,hy0⟩ : ∃ y,(l++[N+k])[0]? = some y:=⟨_,zL (by simp)⟩;rw[HNX.out (i:=0) rfl hy0]at c1;have hb:=h.box;rw[hFL]at hb;have HB:=za hb;have HM:=za h;have HFLe:=za hFL;obtain⟨r,hr⟩:=zf (N+k);rw[hr]at HRi HNX HLT hNF c1 hy0;have HY0:=za hy0;have hNr:N≤r:=by omega
  have dr:decide (r<FL)=true:=zP hNF;have HY0L:=HLT.out _ _ hy0;have hy0b:y0<FL:=HY0L.1;clear h hl hFL hr c0 c2 hy0 HY0L;obtain⟨hb_0,hb_1,hb_2,hb_f,hb_l,H_hb⟩:=cr3 hb;clear hb;obtain⟨i0,hi,iz0,iz1,iz2⟩:=xG qt;go_enter func318,ntmps318
  go_upto_block 0 with(first
    | (go_at_call 341;refine HLi.out.mono ?_;rintro e w' ⟨rfl,rfl⟩)
    | (go_at_call 287;refine HRi.out.mono ?_;rintro e w' ⟨rfl,rfl⟩))
  go_wp2_with fail
  have t1:=HM.out;clear t1;clear hb_0 hb_1 hb_2 hb_f hb_l;clear H_hb;go_loopw [6,7] (fun v6 v7 wr => ∃(i:Nat) (a:Option Addr) (c:Nat) (y:Nat),v7=.int .u32 y∧i≤l.length∧(l++[r])[i]? = some y∧v6=.slice a i c∧yw wr a c (l.take i)∧xp w (.slice a i c)∧zc w wr) (fun v6 _ _=>l.length-(match v6 with | .slice _ n _=>n | _=>0))
  case atStart=>exact⟨0,none,0,y0,rfl,yi _,HY0.out,rfl,vJ _ _ _ _,(fun g hg=>by cases hg),Mod.refl _ _⟩
  case round =>
    obtain⟨i,a,c,y,rfl,hi9,hy,rfl,hrow,hfr,hpu⟩:=hrel;obtain⟨hy1,hy2,hy3⟩:=HLT.out _ _ hy;have HY:=za hy;have HMr:=za (HM.out.pure hpu);have hb:=hpu.heap (fun h=>h) HB.out;have hcl:=(HMr.out.at_ (i:=y) (by rw[HFLe.out];exact hy1));obtain⟨q0,q1,q2⟩:=hcl;have HRow:=za hrow;have HFR:=za hfr;have HPU:=za hpu;clear hy hrow hfr hpu q0 q2;by_cases hlt:i<l.length
    · obtain⟨hy4,hy5⟩:=hy2 hlt
      have hne:((y:Int)==(r:Int))=false:=by simp;omega
      have hne2:((y:Int) != (r:Int))=true:=by simp;omega
      obtain⟨y',hy'⟩ : ∃ y',(l++[r])[i+1]? = some y':=⟨_,zL (by simp;omega)⟩;have hnx:(nd F y).nx=y':=HNX.out (i:=i+1) (by simpa using hy5) hy';rw[hnx]at q1;have hy'b:=(HLT.out _ _ hy').1;have dy:decide (y<FL)=true:=zP hy1;have htk:l.take (i+1)=l.take i++[y]:=by rw[uE,hy5];rfl
      have htl:(l.take i).length=i:=by rw[qX];omega
      have HTK:=za htk;have HTL:=za htl;have HY':=za hy';have hrr:wr.ownsRow 0 143 1 (.slice a i c) i (zX (l.take i)):=by have:=HRow.out;unfold yw at this;rw[htl]at this;exact this
      have HRR:=za hrr;have q1b:=q1;clear htk htl hy' hnx hrr hy2 hy3 hy5 q1;obtain⟨hb_0,hb_1,hb_2,hb_f,hb_l,H_hb⟩:=cr3 hb;clear hb;go_upto_region 7 with(at_builtin;refine uK _ rfl _ _ 213 rfl 143 i0 _ 1 4 underlying213 hi iz0 iz1 iz2 rfl (by decide) (.slice a i c) i _ rfl (zy HRR.out ((Mod.refl (fun _=>False) wr).alloc _) (fun _ _ h=>h)) _ [.int .u32 (y:Nat)] 1 rfl (zo.of_block 1 1 1 (zj rfl) (by rfl) (by simp[Value.oneCell'])) rfl (by unfold maxLen;omega) (by omega) ?_;intro a7 c7 w5 hr7 hg7 hb7)
      have hpw:zc w w5:=(HPU.out.alloc _).then (Mod.of_grown (S:=fun k'=>(Value.slice a i c).ownBlock=some k') hg7 (fun k e _=>e)) (fun k hk e=>by have:=HFR.out k e;omega);have hfw:xp w (.slice a7 (i+1) c7):=fun k hk=>by
        rcases hb7 with e | e
        · exact HFR.out k (e ▸ hk)
        · rw[e]at hk;cases hk;exact(HPU.out.alloc _).size
      have HPW:=za hpw;have HFW:=za hfw;have HR7:=za hr7;have hb5:=hpw.heap (fun h=>h) HB.out;obtain⟨z0,z1,z2⟩:=((HM.out.pure hpw).at_ (i:=y) (by rw[HFLe.out];exact hy1));rw[HNX.out (i:=i+1) (by have:=(HLT.out _ _ HY.out).2.1 hlt;simpa using this.2) HY'.out]at z1;clear hb_0 hb_1 hb_2 hb_f hb_l;clear H_hb hpw hfw hr7 hg7 hb7 q1b z0 z2 hne hne2;obtain⟨hb5_0,hb5_1,hb5_2,hb5_f,hb5_l,H_hb5⟩:=cr3 hb5;clear hb5;go_wp2;go_roundw
      case rel=>exact⟨i+1,a7,c7,y',rfl,hlt,HY'.out,rfl,by unfold yw;rw[HTK.out,zV,HTL.out,qS];exact HR7.out,HFW.out,HPW.out⟩
      case measure=>simp;omega
    · have hri:y=r:=hy3 (by omega)
      have hil:i=l.length:=by omega
      subst hri hil;have HTA:Hid (l.take l.length=l):=za (by rw[List.take_length]);clear hy2 hy3 hlt hi9;go_wp2;go_ret;refine⟨a,c,rfl,?_,HFR.out,HPU.out⟩;have:=HRow.out;rw[HTA.out]at this;exact this
end
theorem zkv:(prog.info? 407).map (fun i=>(i.zero,i.size,i.bytes))=some (some (.agg #[.int .u32 0,.int .u32 0,.int .u32 0]),3,12):=by kernel_rfl
theorem zhM:(prog.info? 3).map (fun i=>(i.zero,i.size,i.bytes))=some (some (.int .i64 0),1,8):=by kernel_rfl
def uB(N H i:Nat):List Nd:=(List.range (N+H)).map (fun j=>if N≤j∧j<N+i then⟨j,j,j-N+1⟩else ndZ)
theorem qo(N H i:Nat):(uB N H i).length=N+H:=by simp[uB]
theorem Xb{N H i j:Nat}(hj:j<N+H):nd (uB N H i) j=if N≤j∧j<N+i then⟨j,j,j-N+1⟩else ndZ:=by
 unfold nd uB;rw[yC,qw hj]
 rfl
theorem zkh{N H i:Nat}(hi:i<H):(uB N H i).set (N+i) ⟨N+i,N+i,i+1⟩=uB N H (i+1):=by
 refine uv (fun j => ?_);by_cases hj:j<N+H
 ·have h1:(uB N H (i+1))[j]? = some (nd (uB N H (i+1)) j):=Jm (by rw[qo];exact hj);rw[h1,Xb hj];by_cases e:N+i=j
  ·subst e;rw[yv (by rw[qo];omega),zk (by omega)]
   congr 2
   omega
  ·rw[yy e,Jm (by rw[qo];exact hj),Xb hj]
   congr 1
   by_cases c:N≤j∧j<N+i
   ·rw[zk c,zk (by omega)]
   ·rw[zh c,zh (by omega)]
 ·rw[xK (by rw[xF,qo];omega),xK (by rw[qo];omega)]
theorem zgz(N H:Nat):uB N H 0=List.replicate (N+H) ndZ:=by
 unfold uB;refine uv (fun j => ?_);rw[yC,vX];by_cases hj:j<N+H
 ·rw[qw hj,zk hj]
  show some (if _ then _ else _)=_
  rw[zh (by omega)]
 ·rw[xK (by simpa using hj),zh hj];rfl
theorem zeK(m:Nat):xi (List.replicate m ndZ)=List.replicate (m*3) (.int .u32 0):=by
 induction m with
 | zero=>rfl
 | succ m ih =>
  rw[Yf]
  show ndC ndZ++xi _=_
  rw[ih,show(m+1)*3=m*3+1+1+1 by omega,Yf,Yf,Yf]
  rfl
theorem zk9(m:Nat):madeCells (Value.agg #[.int .u32 0,.int .u32 0,.int .u32 0]).cells (m*3)=(xi (List.replicate m ndZ)).toArray:=by
 rw[zeK,show(Value.agg #[.int .u32 0,.int .u32 0,.int .u32 0]).cells=#[.int .u32 0,.int .u32 0,.int .u32 0]from rfl];apply Array.ext_getElem?;intro k;unfold madeCells;rw[Array.getElem?_map,show(List.replicate (m*3) (Value.int .u32 0)).toArray[k]? = (List.replicate (m*3) (Value.int .u32 0))[k]? from vI,vX];by_cases hk:k<m*3
 ·rw[zk hk];rw[Ym,zk hk]
  show some (#[Value.int .u32 0,.int .u32 0,.int .u32 0][k%3]!)=_
  have:k%3=0∨k%3=1∨k%3=2:=by omega
  rcases this with e | e | e<;>rw[e]<;>rfl
 ·rw[zh hk,Ym,zh hk];rfl
theorem zdA(m:Nat):madeCells (Value.int .i64 0).cells (m*1)=(uo (List.replicate m [])).toArray:=by
 rw[show(Value.int .i64 0).cells=#[.int .i64 0]from rfl];apply Array.ext_getElem?;intro k;unfold madeCells uo;rw[Array.getElem?_map,List.map_replicate,show(List.replicate m (Value.int .i64 (([]:List Nat).length:Nat))).toArray[k]? = (List.replicate m (Value.int .i64 (([]:List Nat).length:Nat)))[k]? from vI,vX,jW];by_cases hk:k<m
 ·rw[zk hk,Ym,zk hk]
  show some (#[Value.int .i64 0][k%1]!)=_
  rw[Nat.mod_one];rfl
 ·rw[zh hk,Ym,zh hk];rfl
theorem zgP(N H:Nat):xH N (List.replicate H []) (uB N H H):=by
 have hl : ∀(h:Nat) (l:List Nat),(List.replicate H [])[h]? = some l→l=[]∧h<H:=fun h l hh=>by
  rw[vX]at hh;split at hh
  ·cases hh;exact⟨rfl,‹_›⟩
  ·cases hh
 refine⟨by rw[qo,vx],fun h l hh => ?_,fun h l hh => ?_,fun h l hh a ha => ?_,fun h hh => ?_,fun a ha hw => ?_⟩
 ·obtain⟨rfl,h1⟩:=hl h l hh;have:=Xb (N:=N) (H:=H) (i:=H) (j:=N+h) (by omega);rw[zk (by omega)]at this;exact⟨by rw[this],by rw[this],trivial⟩
 ·obtain⟨rfl,h1⟩:=hl h l hh;exact jf
 ·obtain⟨rfl,h1⟩:=hl h l hh;cases ha
 ·rw[vx]at hh;rw[Xb (by omega),zk (by omega)]
  show N+h-N+1=h+1
  omega
 ·rw[Xb (by omega),zh (by omega)]at hw;exact absurd rfl hw
structure kW(w:World)(p gF gL N H i:Nat)(W:World):Prop where
 pu:zc w W
 box:W.heap[p]? = some (.cells #[.slice (some ⟨gF,0,none⟩) (N+H) (N+H),.int .i64 N,.slice (some ⟨gL,0,none⟩) H H] 403 (0,0))
 fld:W.heap[gF]? = some (.cells (xi (uB N H i)).toArray 407 (0,0))
 len:W.heap[gL]? = some (.cells (uo (List.replicate H [])).toArray 3 (0,0))
 fp:w.heap.size≤p
 fF:w.heap.size≤gF
 fL:w.heap.size≤gL
theorem zaW(w:World)(N H:Nat):kW w (w.heap.size+1+1) w.heap.size (w.heap.size+1) N H 0 (((w.alloc (.cells (xi (uB N H 0)).toArray 407)).alloc (.cells (uo (List.replicate H [])).toArray 3)).alloc
  (.cells #[.slice (some ⟨w.heap.size,0,none⟩) (N+H) (N+H),.int .i64 N,.slice (some ⟨w.heap.size+1,0,none⟩) H H] 403)) :=
 ⟨(((Mod.refl _ w).alloc _).alloc _).alloc _,zj (by simp),zG (zG (zj rfl)),zG (zj (by simp)),by omega,zI _,by omega⟩
theorem Qu(w:World)(N H:Nat):kW w (w.heap.size+1+1) (w.heap.size+1) w.heap.size N H 0 (((w.alloc (.cells (uo (List.replicate H [])).toArray 3)).alloc (.cells (xi (uB N H 0)).toArray 407)).alloc
  (.cells #[.slice (some ⟨w.heap.size+1,0,none⟩) (N+H) (N+H),.int .i64 N,.slice (some ⟨w.heap.size,0,none⟩) H H] 403)) :=
 ⟨(((Mod.refl _ w).alloc _).alloc _).alloc _,zj (by simp),zG (zj (by simp)),zG (zG (zj rfl)),by omega,by omega,zI _⟩
theorem kW.drew{w W:World}{p gF gL N H i:Nat}(h:kW w p gF gL N H i W):kW w p gF gL N H i W.drew :=
 ⟨h.pu.drew,h.box,h.fld,h.len,h.fp,h.fF,h.fL⟩
theorem kW.ring{w W:World}{p gF gL N H i:Nat}(h:kW w p gF gL N H i W)(k:Nat):Calls prog 287 #[.int .i64 k,lkP p] W fun e w'=>k≤4096→N≤4194304→e=.returned (.int .u32 (N+k:Nat))∧W=w':=by
 have hb:=h.box;clear h;by_cases hk:k≤4096∧N≤4194304
 ·obtain⟨hb_0,hb_1,hb_2,hb_f,hb_l,H_hb⟩:=cr3 hb;clear hb;obtain⟨hk,hm⟩:=hk;have ws:IntKind.i64.wrap ((N:Int)+(k:Int))=(N:Int)+(k:Int):=zt _ (by omega);have wu:IntKind.u32.wrap ((N:Int)+(k:Int))=(N:Int)+(k:Int):=by simp[IntKind.wrap,IntKind.signed,IntKind.bits];omega
  have wk:IntKind.i64.wrap (k:Int)=k:=zt _ (by omega);go_enter func287,ntmps287;go_wp2;go_ret;exact fun _ _=>⟨by go_num,rfl⟩
 ·obtain⟨hb_0,hb_1,hb_2,hb_f,hb_l,H_hb⟩:=cr3 hb;clear hb;go_enter func287,ntmps287;go_wp2;go_ret;exact fun h1 h2=>absurd ⟨h1,h2⟩ hk
theorem kW.next{w W:World}{p gF gL N H i:Nat}(h:kW w p gF gL N H i W)(hi:i<H) :
  kW w p gF gL N H (i+1) (((W.setCell ⟨gF,(N+i)*3,none⟩ (.int .u32 (N+i:Nat))).setCell ⟨gF,(N+i)*3+1,none⟩ (.int .u32 (N+i:Nat))).setCell ⟨gF,(N+i)*3+2,none⟩ (.int .u32 (i+1:Nat))):=by
 have hf:=U6 h.fld (i:=N+i) (by rw[qo];omega) (N+i) (N+i) (i+1);rw[zkh hi]at hf;have hm:Mod (fun k=>k=gF) W (((W.setCell ⟨gF,(N+i)*3,none⟩ (.int .u32 (N+i:Nat))).setCell ⟨gF,(N+i)*3+1,none⟩ (.int .u32 (N+i:Nat))).setCell ⟨gF,(N+i)*3+2,none⟩ (.int .u32 (i+1:Nat))) :=
  (((Mod.refl (fun b=>b=gF) W).setCell (p:=⟨gF,(N+i)*3,none⟩) (fun _=>rfl) _).setCell (p:=⟨gF,(N+i)*3+1,none⟩) (fun _=>rfl) _).setCell (p:=⟨gF,(N+i)*3+2,none⟩) (fun _=>rfl) _
 have n1:p≠gF:=by rintro rfl;have:=h.box.symm.trans h.fld;injection this with this;injection this with _ this;exact absurd this (by decide)
 have n2:gL≠gF:=by rintro rfl;have:=h.len.symm.trans h.fld;injection this with this;injection this with _ this;exact absurd this (by decide)
 exact⟨h.pu.then hm (fun k hk e=>by have:=h.fF;omega),hm.heap n1 h.box,hf,hm.heap n2 h.len,h.fp,h.fF,h.fL⟩
theorem JT(w:World){N H:Nat}(hN:1≤N)(hN2:N≤4194304)(hH:1≤H)(hH2:H≤4096) :
  Calls prog 235 #[.int .i64 N,.int .i64 H] w fun e w' => ∃ p D,e=.returned (.tuple #[lkP p,.int .i64 0])∧ym w' D p N (List.replicate H [])∧zc w w' ∧ ∀ k,D k→w.heap.size≤k:=by
 obtain⟨iN,hi,iz0,iz1,iz2⟩:=xG zkv;obtain⟨iL,hj,jz0,jz1,jz2⟩:=xG zhM;have ws:IntKind.i64.wrap ((N:Int)+(H:Int))=(N:Int)+(H:Int):=zt _ (by omega);have hmF : ∀ W:World,(Instr.makeSlice 401 (.int .i64 ((N:Int)+(H:Int))) (.int .i64 ((N:Int)+(H:Int)))).run prog W=.ok (.slice (some ⟨W.heap.size,0,none⟩) (N+H) (N+H)) (W.alloc (.cells (xi (uB N H 0)).toArray 407)):=fun W=>by
  have:=run_make W 401 407 iN _ underlying401 hi iz0 .i64 .i64 ((N:Int)+(H:Int)) ((N:Int)+(H:Int)) (by omega) (Int.le_refl _) (by rw[iz2];omega) (by omega);rw[iz1,show((N:Int)+(H:Int)).toNat=N+H by omega,zk9,← zgz]at this;exact this
 have hmL : ∀ W:World,(Instr.makeSlice 84 (.int .i64 (H:Int)) (.int .i64 (H:Int))).run prog W=.ok (.slice (some ⟨W.heap.size,0,none⟩) H H) (W.alloc (.cells (uo (List.replicate H [])).toArray 3)):=fun W=>by
  have:=run_make W 84 3 iL _ underlying84 hj jz0 .i64 .i64 (H:Int) (H:Int) (by omega) (Int.le_refl _) (by rw[jz2];omega) (by omega);rw[jz1,show((H:Int)).toNat=H by omega,zdA]at this;exact this
 have d1:decide ((N:Int)<1)=false:=zR (by omega);have d2:decide ((4194304:Int)<(N:Int))=false:=zR (by omega);have d3:decide ((H:Int)<1)=false:=zR (by omega);have d4:decide ((4096:Int)<(H:Int))=false:=zR (by omega);clear hi iz0 iz1 iz2 hj jz0 jz1 jz2;go_enter func235,ntmps235;go_upto_region 3 with fail
 go_cut [6] (fun v wx => ∃ p gF gL,v=lkP p∧kW w p gF gL N H 0 wx)
 case first =>
  clear d1 d2 d3 d4
  go_region
  all_goals
   (try go_wp2)
   go_meet
   first
    | exact⟨_,_,_,rfl,zaW w N H⟩
    | exact⟨_,_,_,rfl,Qu w N H⟩
    | exact⟨_,_,_,rfl,(zaW w N H).drew⟩
    | exact⟨_,_,_,rfl,(Qu w N H).drew⟩
 case rest =>
  obtain⟨p,gF,gL,rfl,hinv⟩:=hcut;have HI:=za hinv;clear hinv hmF hmL ws d1 d2 d3 d4;go_upto_region 5 with fail
  go_loopw [33] (fun v wr => ∃ i,v=.int .i64 (i:Nat)∧i≤H∧kW w p gF gL N H i wr) (fun v _=>H-(intOf v).toNat)
  case atStart=>exact⟨0,rfl,yi _,HI.out⟩
  case round =>
   clear HI;obtain⟨i,rfl,hi,hinv⟩:=hrel;have HI:=za hinv;have hb:=hinv.box;by_cases hlt:i<H
   ·have hlt':(i:Int)<(H:Int):=by omega
    have i0:(0:Int)≤(i:Int):=by omega
    have wi:IntKind.i64.wrap ((i:Int)+1)=(i:Int)+1:=zt _ (by omega);have wi0:IntKind.i64.wrap (i:Int)=(i:Int):=zt _ (by omega);have wu:IntKind.u32.wrap ((i:Int)+1)=(i:Int)+1:=by have:=Xt (i+1) (by omega);simpa using this
    have HR:=za (hinv.ring i);have HNx:=za (hinv.next hlt);obtain⟨r,hr⟩:=zf (N+i);rw[hr]at HR HNx;have hrl:r<N+H:=by omega
    obtain⟨q0,q1,q2⟩:=Yb hinv.fld (i:=r) (by rw[qo];exact hrl);have g0:=yU wr gF (r*3) _ _ hinv.fld;have g1:=yU wr gF (r*3+1) _ _ hinv.fld;have g2:=yU wr gF (r*3+2) _ _ hinv.fld;have hX:gF<wr.heap.size:=zm hinv.fld;obtain⟨M,hM⟩:=zf (N+H);rw[hM]at hb hrl;have hMb:M≤4198400:=by omega
    have dr:decide (r<M)=true:=zP hrl;clear hinv hr hM;obtain⟨hb_0,hb_1,hb_2,hb_f,hb_l,H_hb⟩:=cr3 hb;clear hb
    go_wp2_with (go_at_call 287;refine HR.out.mono ?_;rintro e w' he;obtain⟨rfl,rfl⟩:=he (by omega) (by omega))
    go_roundw
    case rel=>exact⟨i+1,by go_num,hlt,by have:=HNx.out;simpa using this⟩
    case measure=>simp[intOf];omega
   ·have e:H=i:=by omega
    subst e;have hend:ym wr (fun k=>k=p∨k=gF∨k=gL) p N (List.replicate H []):=⟨gF,gL,N+H,H,uB N H H,⟨by rw[qo,vx];exact hinv.box,hinv.fld,hinv.len,zgP N H,hN,hN2,by rw[vx];exact hH2⟩,fun k=>vP⟩;have HE:=za hend;clear hend hinv hlt hi hb;go_wp2;go_ret2;exact⟨p,_,rfl,HE.out,HI.out.pu,fun k hk=>by rcases hk with rfl | rfl | rfl;exact HI.out.fp;exact HI.out.fF;exact HI.out.fL⟩
def uV(Ls:List (List Nat))(h j:Nat):List (List Nat):=(List.range Ls.length).map (fun k=>if k<h then Ls.getD k []else if k=h then(Ls.getD h []).take j else[])
theorem Zh(Ls:List (List Nat))(h j:Nat):(uV Ls h j).length=Ls.length:=by simp[uV]
theorem Za{Ls:List (List Nat)}{h j k:Nat}(hk:k<Ls.length):(uV Ls h j)[k]? = some (if k<h then Ls.getD k []else if k=h then(Ls.getD h []).take j else[]):=by
 unfold uV;rw[yC,qw hk];rfl
theorem Xv{Ls:List (List Nat)}{h:Nat}{l:List Nat}(hl:Ls[h]? = some l):Ls.getD h []=l:=by rw[ua,hl];rfl
theorem zhi(Ls:List (List Nat)):uV Ls 0 0=List.replicate Ls.length []:=by
 refine uv (fun k => ?_);rw[vX];by_cases hk:k<Ls.length
 ·rw[Za hk,zk hk,zh (by omega)];split<;>simp
 ·rw[zh hk,xK (by rw[Zh];omega)]
theorem zdZ(Ls:List (List Nat))(j:Nat):uV Ls Ls.length j=Ls:=by
 refine uv (fun k => ?_);by_cases hk:k<Ls.length
 ·rw[Za hk,zk hk,ua,zL hk];rfl
 ·rw[xK (by rw[Zh];omega),xK (by omega)]
theorem zjy{Ls:List (List Nat)}{h:Nat}{l:List Nat}(hl:Ls[h]? = some l):uV Ls h l.length=uV Ls (h+1) 0:=by
 refine uv (fun k => ?_);by_cases hk:k<Ls.length
 ·rw[Za hk,Za hk,Xv hl,List.take_length]
  congr 1
  by_cases c1:k<h
  ·rw[zk c1,zk (by omega)]
  ·rw[zh c1];by_cases c2:k=h
   ·subst c2;rw[zk rfl,zk (by omega),Xv hl]
   ·rw[zh c2,zh (by omega)];split<;>simp
 ·rw[xK (by rw[Zh];omega),xK (by rw[Zh];omega)]
theorem zdn{Ls:List (List Nat)}{h j:Nat}{l:List Nat}(hl:Ls[h]? = some l):(uV Ls h j)[h]? = some (l.take j):=by
 rw[Za (zE.1 hl).1,zh (by omega),zk rfl,Xv hl]
theorem zhJ{Ls:List (List Nat)}{h j n:Nat}{l:List Nat}(hl:Ls[h]? = some l)(hn:l[j]? = some n):(uV Ls h j).set h (l.take j++[n])=uV Ls h (j+1):=by
 have hh:=(zE.1 hl).1;refine uv (fun k => ?_);by_cases hk:k<Ls.length
 ·rw[Za hk];by_cases e:h=k
  ·subst e;rw[yv (by rw[Zh];exact hk),zh (by omega),zk rfl,Xv hl,uE,hn]
   rfl
  ·rw[yy e,Za hk];simp only[if_neg (fun c:k=h=>e c.symm)]
 ·rw[xK (by rw[xF,Zh];omega),xK (by rw[Zh];omega)]
theorem zd7{N:Nat}{Ls:List (List Nat)}{F:List Nd}(ok:xH N Ls F){h j n:Nat}{l:List Nat}(hl:Ls[h]? = some l)(hn:l[j]? = some n) : ¬ inL (uV Ls h j) n:=by
 rintro⟨k,m,hm,hmem⟩;have hnl:=yl hn;have hk:k<Ls.length:=by have:=(zE.1 hm).1;rwa [Zh]at this
 rw[Za hk]at hm;injection hm with hm
 have h1:=(ok.own h l hl n hnl).2;by_cases c1:k<h
 ·rw[zk c1]at hm;have hLk:Ls[k]? = some m:=by rw[← hm,ua,zL hk];rfl
  have:=(ok.own k m hLk n hmem).2;omega
 ·rw[zh c1]at hm;by_cases c2:k=h
  ·rw[zk c2,Xv hl]at hm;rw[← hm]at hmem;obtain⟨i,hi⟩:=ur hmem;rw[j7]at hi;split at hi
   ·have hnd:=ok.nodup h l hl;have:=(List.getElem?_inj (zE.1 hi).1 hnd (j:=j)).1 (hi.trans hn.symm);omega
   ·cases hi
  ·rw[zh c2]at hm;rw[← hm]at hmem
   cases hmem
theorem VC{W:World}{a:Option Addr}{n c:Nat}{xs:List Nat}(h:zo W (.slice a n c) 1 (zX xs)){j y:Nat}(hy:xs[j]? = some y) : ∃ ad,a=some ad∧W.cell? (ad.add j)=some (.int .u32 y):=by
 obtain⟨a',n',c',e,hl,_,h0,hc⟩:=h
 cases e
 have hu:(zX xs)[j]? = some (.int .u32 y):=by unfold zX;rw[yC,hy];rfl
 cases a with
 | none =>
  have h1:=h0 rfl;have h2:=(zE.1 hu).1;omega
 | some ad=>exact⟨ad,rfl,hc ad rfl j _ hu⟩
theorem qB{W:World}{a:Option Addr}{c:Nat}{xs:List Nat}(h:yw W a c xs):zo W (.slice a xs.length c) 1 (zX xs):=zo.of_owns h (VS xs)
theorem QG{X:World}{b:Nat}{u0 u1 u2 v0 v1 v2:Value}{T:TypeId}(h:X.heap[b]? = some (.cells #[u0,u1,u2] T (0,0))) :
  (((X.setCell ⟨b,0,none⟩ v0).setCell ⟨b,1,none⟩ v1).setCell ⟨b,2,none⟩ v2).heap[b]? = some (.cells #[v0,v1,v2] T (0,0)):=by
 have h1:=ya X b 0 _ T v0 h;have h2:=ya _ b 1 _ T v1 h1;have h3:=ya _ b 2 _ T v2 h2;simpa using h3
section
variable{w w':World}{p N:Nat}{Ls:List (List Nat)}{D:Nat→Prop}
theorem ym.lenH(h:ym w D p N Ls):Ls.length≤4096∧N≤4194304∧1≤N:=by obtain⟨gF,gL,cF,cL,F,h1,h2⟩:=h;exact⟨h1.hm,h1.nm,h1.n1⟩
theorem zaI(h:ym w D p N Ls)(hH:1≤Ls.length)(a:Option Addr)(c:Nat)(hto:zo w (.slice a N c) 1 (zX (List.range N))){M:Nat}(hNM:N≤M)(hM:M≤4194304) :
    Calls prog 338 #[lkP p,.slice a N c,.int .i64 M] w fun e w'=>e=.returned (.int .i64 0)∧(∃ D',ym w' D' p M Ls ∧ ∀ k,D' k→k=p∨w.heap.size≤k)∧Mod (fun k=>k=p) w w':=by
  obtain⟨h4,h5,h6⟩:=h.lenH;have HAt:=za h;obtain⟨gF,gL,cF,cL,F,hm,hD⟩:=h;have HOK:=za hm.ok;have HTO:=za hto;have HN:=za (X5 hm);obtain⟨H,hHe⟩:=zf Ls.length;have HNe:=za (JT w (N:=M) (H:=H) (by omega) hM (by omega) (by omega));have hb:=hm.box;obtain⟨FL,hFL⟩:=zf F.length;rw[hHe,hFL]at hb;rw[hHe]at h4 hH;have HB:=za hb;have HHe:=za hHe;clear hm hD hFL hto hHe;have wH:IntKind.i64.wrap (H:Int)=H:=zt _ (by omega);have wN:IntKind.i64.wrap (N:Int)=N:=zt _ (by omega);obtain⟨hb_0,hb_1,hb_2,hb_f,hb_l,H_hb⟩:=cr3 hb;clear hb;go_enter func338,ntmps338;go_upto_region 4 with(first
    | (go_at_call 364;refine HN.out.mono ?_;rintro e w' ⟨rfl,rfl⟩)
    | (go_at_call 235;refine HNe.out.mono ?_;rintro e w1 ⟨q,D2,rfl,hq,hp1,hf1⟩))
  have hb1:=hp1.heap (fun h=>h) HB.out;have HQ:=za hq;have HP1:=za hp1;have HF1:=za hf1;clear hb_0 hb_1 hb_2 hb_f hb_l;clear H_hb hq hp1 hf1;have HB1:=za hb1;obtain⟨hb1_0,hb1_1,hb1_2,hb1_f,hb1_l,H_hb1⟩:=cr3 hb1;clear hb1;go_upto_region 7 with fail
  clear hb1_0 hb1_1 hb1_2 hb1_f hb1_l;clear H_hb1;go_loopw [40] (fun v wr => ∃ i,v=.int .i64 (i:Nat)∧i≤H∧ym wr D2 q M (uV Ls i 0)∧zc w wr) (fun v _=>H-(intOf v).toNat)
  case atStart=>exact⟨0,rfl,yi _,by rw[zhi,HHe.out];exact HQ.out,HP1.out⟩
  case round =>
    clear HQ HP1 HB1;obtain⟨i,rfl,hi,hq,hpw⟩:=hrel;have HQ:=za hq;have HPW:=za hpw;clear hq hpw;by_cases hlt:i<H
    · have hlt':(i:Int)<(H:Int):=by omega
      have i0:(0:Int)≤(i:Int):=by omega
      have wi:IntKind.i64.wrap ((i:Int)+1)=(i:Int)+1:=zt _ (by omega);obtain⟨l,hl⟩ : ∃ l,Ls[i]? = some l:=⟨_,zL (by rw[HHe.out];exact hlt)⟩;have HL:=za hl;have HAl:=za (KP (HAt.out.pure HPW.out) hl);have hll:l.length≤N:=HOK.out.short hl;obtain⟨n,hn⟩:=zf l.length;rw[hn]at HAl hll;have HLN:=za hn;clear hl hn;go_upto_region 10 with(go_at_call 318;refine HAl.out.mono ?_;rintro e w3 ⟨a3,c3,rfl,hrow,hfr,hp3⟩)
      have hnD : ∀ g,(Value.slice a3 n c3).ownBlock=some g → ¬ D2 g:=fun g hg e=>by have:=hfr g hg;have:=HQ.out.lt e;omega
      have HRow:=za hrow;have HND:=za hnD;have HQ3:=za (HQ.out.pure hp3);have HP3:=za (HPW.out.trans hp3);clear hrow hfr hp3 hnD HAl;have wn:IntKind.i64.wrap (n:Int)=n:=zt _ (by omega);go_loopw [47] (fun v wr => ∃ j,v=.int .i64 (j:Nat)∧j≤n∧ym wr D2 q M (uV Ls i j)∧zc w wr∧yw wr a3 c3 l) (fun v _=>n-(intOf v).toNat)
      case atStart=>exact⟨0,rfl,yi _,HQ3.out,HP3.out,by unfold yw;rw[HLN.out];have:=HRow.out;unfold yw at this;rw[HLN.out]at this;exact this⟩
      case round =>
        clear HQ HPW HQ3 HP3 HRow;obtain⟨j,rfl,hj,hq,hpw,hrow⟩:=hrel;by_cases hlt2:j<n
        · have hlt2':(j:Int)<(n:Int):=by omega
          have j0:(0:Int)≤(j:Int):=by omega
          have wj:IntKind.i64.wrap ((j:Int)+1)=(j:Int)+1:=zt _ (by omega);obtain⟨y,hy⟩ : ∃ y,l[j]? = some y:=⟨_,zL (by rw[HLN.out];exact hlt2)⟩;obtain⟨ad,had,z0⟩:=VC (qB hrow) hy;have hyN:y<N:=(HOK.out.own i l HL.out y (yl hy)).1;obtain⟨ad2,had2,z1⟩:=VC (HTO.out.frame hpw (fun _ _ h=>h)) (j:=y) (y:=y) (by rw[qw hyN]);have HBk:=za (KG hq (n:=y) (k:=i) (l:=l.take j) (by omega) (zdn HL.out) (zd7 HOK.out HL.out hy));rw[zhJ HL.out hy]at HBk;have dy:decide (y<N)=true:=zP hyN;have hyb:y≤4294967295:=by omega
          have HPW:=za hpw;have HRow:=za hrow;have HQl:=za hq;subst had had2;clear hy hq hpw hrow
          go_wp2_with (go_at_call 297;refine HBk.out.mono ?_;rintro e w5 ⟨rfl,hq5,hm5⟩)
          go_roundw
          case rel=>exact⟨j+1,by go_num,hlt2,hq5,HPW.out.then hm5 (fun k hk e=>by have:=HF1.out k e;omega),zy HRow.out hm5 (by rw[HLN.out];exact HND.out)⟩
          case measure=>simp[intOf];omega
        · have e:n=j:=by omega
          subst e;have HQf:Hid (ym wr D2 q M (uV Ls (i+1) 0)):=za (by rw[← zjy HL.out,HLN.out];exact hq);have HPW:=za hpw;clear hq hpw hrow hj hlt2;go_wp2;go_roundw
          case rel=>exact⟨i+1,by go_num,hlt,HQf.out,HPW.out⟩
          case measure=>simp[intOf];omega
    · have e:H=i:=by omega
      subst e;have hq:=HQ.out;rw[← HHe.out,zdZ]at hq;obtain⟨gF2,gL2,cF2,cL2,F2,hm2,hD2⟩:=hq;have hb:=HPW.out.heap (fun h=>h) HB.out;have hb2:=hm2.box;rw[HHe.out]at hb2;have hqp:q≠p:=by
        have h1:=HF1.out q ((hD2 q).2 (.inl rfl));have h2:=zm HB.out;omega
      have HM2:=za hm2;have HD2:=za hD2;obtain⟨FL2,hFL2⟩:=zf F2.length;rw[hFL2]at hb2;have HFL2:=za hFL2;have hfin:((wr.setCell ⟨p,0,none⟩ (.slice (some ⟨gF2,0,none⟩) FL2 cF2)).setCell ⟨p,1,none⟩ (.int .i64 M)).setCell ⟨p,2,none⟩ (.slice (some ⟨gL2,0,none⟩) H cL2)=((wr.setCell ⟨p,0,none⟩ (.slice (some ⟨gF2,0,none⟩) FL2 cF2)).setCell ⟨p,1,none⟩ (.int .i64 M)).setCell ⟨p,2,none⟩ (.slice (some ⟨gL2,0,none⟩) H cL2):=rfl;have HBr:=za hb;clear hm2 hD2 hFL2 hfin hi hlt;obtain⟨hb_0,hb_1,hb_2,hb_f,hb_l,H_hb⟩:=cr3 hb;clear hb;obtain⟨hb2_0,hb2_1,hb2_2,hb2_f,hb2_l,H_hb2⟩:=cr3 hb2;clear hb2;go_wp2;have hm:=(((Mod.refl (fun k=>k=p) wr).setCell (p:=⟨p,0,none⟩) (fun _=>rfl) (.slice (some ⟨gF2,0,none⟩) FL2 cF2)).setCell (p:=⟨p,1,none⟩) (fun _=>rfl) (.int .i64 M)).setCell (p:=⟨p,2,none⟩) (fun _=>rfl) (.slice (some ⟨gL2,0,none⟩) H cL2);have hbx:=QG (v0 := .slice (some ⟨gF2,0,none⟩) FL2 cF2) (v1 := .int .i64 M) (v2 := .slice (some ⟨gL2,0,none⟩) H cL2) HBr.out;have hpp:p<w.heap.size:=zm HB.out;have h1:=HF1.out gF2 ((HD2.out gF2).2 (.inr (.inl rfl)));have h2:=HF1.out gL2 ((HD2.out gL2).2 (.inr (.inr rfl)));go_ret;refine⟨rfl,⟨fun k=>k=p∨k=gF2∨k=gL2,⟨gF2,gL2,cF2,cL2,F2,⟨?_,hm.heap (fun e=>by omega) HM2.out.fld,hm.heap (fun e=>by omega) HM2.out.len,HM2.out.ok,HM2.out.n1,HM2.out.nm,HM2.out.hm⟩,fun k=>vP⟩,fun k hk => ?_⟩,(Mod.of_pure HPW.out).trans hm⟩
      · rw[HFL2.out,HHe.out];exact hbx
      · rcases hk with rfl | rfl | rfl
        · exact .inl rfl
        · exact .inr h1
        · exact .inr h2
end
end
section
open Go.RowKit Go.Shelf
structure kR(w:World)(B:Nat)(a:Option Addr)(c:Nat)(l:List Nat):Prop where
 box:w.heap[B]? = some (.cells #[.slice a l.length c] 213 (0,0))
 row:yw w a c l
def qK(B:Nat)(a:Option Addr)(n c:Nat)(k:Nat):Prop:=k=B∨(Value.slice a n c).ownBlock=some k
theorem kR.keeps{w w':World}{B:Nat}{a:Option Addr}{c:Nat}{l:List Nat}(h:kR w B a c l)(hk:xk (qK B a l.length c) w w'):kR w' B a c l :=
 ⟨(hk.2 B (.inl rfl) (zm h.box)).trans h.box,KI h.row (fun g hg hlt=>hk.2 g (.inr hg) hlt)⟩
theorem kR.cell{w:World}{B:Nat}{a:Option Addr}{c:Nat}{l:List Nat}(h:kR w B a c l){j x:Nat}(hx:l[j]? = some x) : ∃ g,a=some ⟨g,0,none⟩∧w.cell? ⟨g,j,none⟩=some (.int .u32 x):=by
 have hlt:=(zE.1 hx).1;obtain⟨g,c',hsv,_,hg,hc,hf,_⟩:=uO h.row (by omega)
 cases hsv
 refine⟨g,rfl,hc _ _ ?_⟩;unfold zX;rw[yC,hx]
 rfl
def VX(x:Nat):Array Value:=#[.int .u32 x]
def zcx(J:List Nat→World→Prop)(B:Nat)(a:Option Addr)(c:Nat)(l:List Nat)(k:Value)(wr:World):Prop :=
 ∃ pre post:List Nat,k=.int .i64 (pre.length:Nat)∧l=pre++post∧J pre wr∧kR wr B a c l
theorem zcl{w:World}{B:Nat}{a:Option Addr}{c:Nat}{l:List Nat}(h:kR w B a c l)(hl:l.length≤4194304) :
  qR prog 319 #[.pointer (some ⟨B,0,none⟩)] VX (qK B a l.length c) (fun pre x _ => ∃ post,l=pre++x::post) (fun xs=>xs=l) w:=by
 intro lb J Jx W hW hJ hJx hY h0;have hA:=h.keeps (xk.of_pure hW);have hB:=zi W B 0 _ _ _ hA.box;simp at hB;have HA:=za hA;have HY:=za hY;clear hA hY hJ hJx h hW;refine callsIn_of_wp func319 rfl trivial ?_ rfl;simp only[ntmps319,List.size_toArray,List.length_cons,List.length_nil,Nat.reduceAdd,Nat.reduceSub,Array.replicate_succ,Array.replicate_zero,List.push_toArray,List.append_toArray,List.nil_append,List.cons_append];obtain⟨n,hn⟩:=zf l.length;rw[hn]at hB hl HY;have wn:IntKind.i64.wrap (n:Int)=n:=zt _ (by omega);have HN:=za hn;clear hn;gi_wp2
 gi_loopw [7] (fun k wr=>zcx J B a c l k wr) (fun k _=>n-(intOf k).toNat)
 case atStart=>exact⟨[],l,rfl,rfl,h0,HA.out⟩
 case round =>
  obtain⟨pre,post,rfl,hpp,hJs,hI⟩:=hrel;have hlen:pre.length+post.length=n:=by rw[← HN.out,hpp,zV]
  cases post with
  | nil =>
   have he:pre=l:=by rw[hpp,jb]
   have HE:=za he;have HJS:=za hJs;have hpn:n=pre.length:=by simpa using hlen.symm
   have d1:decide (pre.length<n)=false:=zR (by omega);have d2:decide ((pre.length:Int)<(n:Int))=false:=zR (by omega);clear hpp hlen he hI hJs hpn;gi_wp2
   go_end0
   exact⟨⟨_,rfl⟩,.inl ⟨pre,HE.out,HJS.out⟩⟩
  | cons x post =>
   obtain⟨g,rfl,hc⟩:=hI.cell (j:=pre.length) (x:=x) (by rw[hpp];simp);obtain⟨fn,tmps,assign,body,hy,hR⟩:=HY.out pre x wr hJs ⟨post,hpp⟩;dsimp only[VX]at hy;have hRR:=za hR;have HL:=za hpp;have HI:=za hI;have hlt:pre.length<n:=by simp at hlen;omega
   obtain⟨j,hj⟩:=zf pre.length;rw[hj]at hc hlt ⊢;have hlt':(j:Int)<(n:Int):=by omega
   have j0:(0:Int)≤(j:Int):=by omega
   have wj:IntKind.i64.wrap ((j:Int)+1)=(j:Int)+1:=zt _ (by omega);have HJ:=za hj;clear hpp hI hR hJs hlen hj;gi_wp2;refine hRR.out.mono ?_;rintro e W' (⟨rfl,hJ',hk⟩ | ⟨rfl,hJx'⟩)
   ·have HJ':=za hJ';have HK:=za (HI.out.keeps (by rw[HN.out];exact hk));clear hJ' hk;gi_wp2;go_roundw
    case rel =>
     unfold zcx;exact⟨pre++[x],post,by rw[zV,HJ.out];go_num,by rw[HL.out];simp,HJ'.out,HK.out⟩
    case measure=>simp[intOf];omega
   ·gi_wp2;exact Azci3
end
section
open Go.RowKit Go.Shelf
attribute [local go_sem] Oper.semAt_some
def UN(w:World)(l:List Nat)(e:Ending)(w':World):Prop :=
 ∃ B a c,e=.returned (.func (.func 319) #[] #[.pointer (some ⟨B,0,none⟩)])∧kR w' B a c l∧zc w w'
theorem zhI{w:World}{D:Nat→Prop}{p N:Nat}{Ls:List (List Nat)}(h:ym w D p N Ls){k:Nat}{l:List Nat}(hl:Ls[k]? = some l)(hll:l.length≤4194304):Calls prog 268 #[lkP p,.int .i64 k] w (UN w l):=by
  have HA:=za (KP h hl);obtain⟨n,hn⟩:=zf l.length;rw[hn]at HA hll;have HN:=za hn;clear h hl hn;obtain⟨i0,hi,iz0,iz1,iz2⟩:=xG qt;go_enter func268,ntmps268;go_upto_region 2 with(first
    | (go_at_call 318;refine HA.out.mono ?_;rintro e w1 ⟨a,c,rfl,hrow,hfr,hp1⟩;have hrd:=qB hrow;rw[HN.out]at hrd;have HRD:=za hrd;have HP1:=za hp1;clear hrow hfr hp1 hrd)
    | (at_builtin;refine uK _ rfl _ _ 213 rfl 143 i0 _ 1 4 underlying213 hi iz0 iz1 iz2 rfl (by decide) (.slice none 0 0) 0 [] rfl (vJ _ _ _ _) _ (zX l) n rfl HRD.out (by rw[qq,HN.out];omega) (by unfold maxLen;omega) (by omega) ?_;intro a7 c7 w5 hr7 hg7 hb7))
  have hp5:zc w1 w5:=Mod.of_grown hg7 (fun k e _=>by cases e);have hr:=hr7;rw[qn,Yt]at hr;have hal:zc w5 (w5.alloc (.cells #[.slice a7 n c7] 213)):=(Mod.refl _ w5).alloc _;have hbx:=zj (w:=w5) (o := .cells #[.slice a7 n c7] 213 (0,0)) rfl;have HE:Hid (UN w l (.returned (.func (.func 319) #[] #[.pointer (some ⟨w5.heap.size,0,none⟩)])) (w5.alloc (.cells #[.slice a7 n c7] 213))):=za
    ⟨w5.heap.size,a7,c7,rfl,⟨by rw[HN.out];exact hbx,by unfold yw;rw[HN.out];exact zy hr hal (fun _ _ h=>h)⟩,(HP1.out.trans hp5).trans hal⟩
  clear hr hr7 hg7 hb7 hp5 hal hbx;go_wp2;go_ret;exact HE.out
structure Xw(w:World)(l:List Nat)(pre:List Nat)(W:World):Prop where
 pu:zc w W
 row : ∃ a c,W.heap[w.heap.size]? = some (.cells #[.slice a pre.length c] 213 (0,0))∧yw W a c pre ∧ ∀ g,(Value.slice a pre.length c).ownBlock=some g→w.heap.size<g
theorem Xw.quiet{w A B:World}{l pre:List Nat}{N:Nat}(h:Xw w l pre A)(hN:w.heap.size≤N)(hq:zB N A B):Xw w l pre B:=by
 obtain⟨a,c,h1,h2,h3⟩:=h.row;exact⟨hq.mod h.pu hN,a,c,hq.cells h1,hq.owns h2,h3⟩
def Ur(w:World)(l:List Nat)(e:Ending)(w':World):Prop := ∃ a c,e=.returned (.slice a l.length c)∧yw w' a c l∧xp w (.slice a l.length c)∧zc w w'
theorem zeA{w:World}{B:Nat}{a:Option Addr}{c:Nat}{l:List Nat}(h:kR w B a c l)(hl:l.length≤4194304) :
  Calls prog 371 #[.slice none 0 0,.func (.func 319) #[] #[.pointer (some ⟨B,0,none⟩)]] w (Ur w l):=by
 have hp1:zc w (w.alloc (.cells #[.slice none 0 0] 213)):=(Mod.refl _ w).alloc _;have hit:=h.keeps (xk.of_pure hp1);have HIT:=za hit;have hItlt0 : ∀ k,qK B a l.length c k→k<w.heap.size:=by
  rintro k (rfl | h2)
  ·exact zm h.box
  ·exact vY h.row h2
 have hI0:Xw w l [] (w.alloc (.cells #[.slice none 0 0] 213)):=⟨hp1,none,0,zj rfl,vJ _ _ _ _,fun g hg=>by cases hg⟩;have hz1:(w.alloc (.cells #[.slice none 0 0] 213)).heap.size=w.heap.size+1:=by simp
 clear h hit hp1;obtain⟨i0,hi,iz0,iz1,iz2⟩:=xG qt;have HLL:=za hl;clear hl
 (refine(yB (n:=0)).1 (callsIn_of_wp_marks func371 rfl trivial (vy.2 ?_) rfl);simp only[ntmps371,List.size_toArray,List.length_cons,List.length_nil,Nat.reduceAdd,Nat.reduceSub,Array.replicate_succ,Array.replicate_zero,List.push_toArray,List.append_toArray,List.nil_append,List.cons_append])
 go_upto_region 1 with fail
 generalize w.alloc (.cells #[.slice none 0 0] 213)=W1 at *;have HI0:=za hI0;have HZ1:=za hz1;clear hI0 hz1;have hItlt : ∀ k,qK B a l.length c k→k<W1.heap.size:=fun k hk=>by have:=hItlt0 k hk;have:=HZ1.out;omega
 have HIL:=za hItlt0;clear hItlt0;generalize hItd:qK B a l.length c=It at *;go_wp2;refine vy.1 (XV (gf:=319) (lb:=#[.pointer (some ⟨B,0,none⟩)]) rfl (enters_of func319 (by kernel_rfl) rfl) (It:=It) (hItd ▸ zcl HIT.out HLL.out) hItlt (fun _=>rfl)
  (fun pre W=>Xw w l pre W) (fun _ _ _=>False) ?hI ?hIx HI0.out ?round ?done ?stop)
 case hI=>exact fun pre A B h hq=>h.quiet (by have:=HZ1.out;omega) hq
 case hIx=>exact fun _ _ _ _ h _=>h
 case stop=>exact fun _ _ _ _ _ h _=>h.elim
 case done =>
  rintro lb xs W hlb hS hI hK;have hS':xs=l:=hS;subst hS';obtain⟨a2,c2,h1,h2,h3⟩:=hI.row;have HI:=za hI;have H2:=za h2;have H3:=za h3;have hq:zB W1.heap.size _ _:=zB.putObj (.deferred none) hlb hK rfl;clear hI hS h2 h3 hItlt hItd;obtain⟨n,hn⟩:=zf xs.length;rw[hn]at h1;have HN:=za hn;clear hn;obtain⟨h1_0,h1_f,h1_l,H_h1⟩:=cr1 h1;clear h1;go_wp2;exact jy (v := .slice a2 n c2) hK (by simp[results,results371,go_sem]) ⟨a2,c2,by rw[HN.out],hq.owns H2.out,fun g hg=>Zk (H3.out g hg),hq.mod HI.out.pu (by have:=HZ1.out;omega)⟩
 case round =>
  rintro lb pre x W K hI ⟨post,hpost⟩ hK;dsimp only[VX];have hpl:pre.length<4194304:=by have:=HLL.out;rw[hpost]at this;simp at this;omega
  have HCI:=za hI;have HK:=za hK;clear hI hK hItlt hpost hItd;gi_wp2;refine HK.out _ _ (Mod.refl _ _) (fun l' W2 hl2 hr2 hq2 => ?_);have hI2:=HCI.out.quiet (by have:=HZ1.out;omega) hq2;obtain⟨a2,c2,h1,h2,h3⟩:=hI2.row;have HI2:=za hI2;have HR2:=za h2;have HF2:=za h3;have HW2:Hid (w.heap.size<W2.heap.size):=za (zm h1);clear hI2 h2 h3 HK HCI;obtain⟨j,hj⟩:=zf pre.length;rw[hj]at h1 HF2 hpl;have hrr:W2.ownsRow 0 143 1 (.slice a2 j c2) j (zX pre):=by rw[← hj];exact HR2.out
  have HRR:=za hrr;have HJ:=za hj;clear hrr hj;obtain⟨b2,hb2⟩:=zf w.heap.size;rw[hb2]at h1 HF2 HW2 HIL HZ1 ⊢;have HB2:=za hb2;clear hb2;have h1b:=h1;have H1:=za h1b;clear h1b;obtain⟨h1_0,h1_f,h1_l,H_h1⟩:=cr1 h1;clear h1
  gi_wp2_with (gi_at_builtin;refine zev _ rfl _ _ 213 rfl 143 i0 (.int .u32 0) 1 4 underlying213 hi iz0 iz1 iz2 rfl (by decide) (.slice a2 j c2) j _ rfl (zy HRR.out ((Mod.refl (fun _=>False) W2).alloc _) (fun _ _ h=>h)) _ [.int .u32 x] 1 rfl (zo.of_block 1 1 1 (zj rfl) (by rfl) (by simp[Value.oneCell'])) rfl (by unfold maxLen;omega) (by omega) ?_;intro a7 c7 w5 hr7 hg7 hb7;have M7:=za (Mod.heap (Mod.of_grown (S:=fun k=>(Value.slice a2 j c2).ownBlock=some k) hg7 (fun k e _=>e)) (fun e=>by have:=HF2.out _ e;omega) (zG H1.out));have m7:=zi w5 _ 0 _ _ _ M7.out;have fr7:=(fun j=>yU w5 _ j _ _ M7.out);have hlt5:=zm M7.out)
  have hM:Mod (fun k=>(Value.slice a2 j c2).ownBlock=some k∨k=b2) W2 (w5.setCell ⟨b2,0,none⟩ (.slice a7 (j+1) c7)) :=
   (((Mod.refl _ W2).alloc (.cells #[.int .u32 x] 143)).then (Mod.of_grown (S:=fun k=>(Value.slice a2 j c2).ownBlock=some k) hg7 (fun k e _=>e)) (fun _ _ h => .inl h)).setCell (fun _ => .inr rfl) _
  have h7 : ∀ g,(Value.slice a7 (j+1) c7).ownBlock=some g→b2<g:=fun g hg=>by
   rcases hb7 with e | e
   ·exact HF2.out g (e ▸ hg)
   ·rw[e]at hg;have hg2:(W2.alloc (.cells #[.int .u32 x] 143)).heap.size=g:=by injection hg
    have:=HW2.out;simp at hg2;omega
  refine⟨xl.of_mod hM (fun k _ h o ho => ?_),xk.of_mod hM (fun k hk h => ?_),⟨HI2.out.pu.then hM (fun k hk h => ?_),a7,c7,?_,?_,?_⟩⟩
  ·rcases h with h | rfl
   ·obtain⟨cur,e⟩:=yc HRR.out h;rw[e]at ho;cases ho;rfl
   ·rw[H1.out]at ho;cases ho;rfl
  ·have:=HIL.out k hk;rcases h with h | h
   ·have:=HF2.out k h;omega
   ·omega
  ·have:=HB2.out;rcases h with h | h
   ·have:=HF2.out k h;omega
   ·omega
  ·rw[HB2.out,zV,HJ.out];simpa using ya w5 b2 0 _ _ (.slice a7 (j+1) c7) M7.out
  ·unfold yw;rw[zV,HJ.out,qS];exact zy hr7 ((Mod.refl (fun k=>k=b2) w5).setCell (fun _=>rfl) _) (fun g hg e=>by have:=h7 g hg;omega)
  ·rw[HB2.out,zV,HJ.out];exact h7
theorem zis{w:World}{B:Nat}{a:Option Addr}{c:Nat}{l:List Nat}(h:kR w B a c l)(hl:l.length≤4194304) :
  Calls prog 367 #[.func (.func 319) #[] #[.pointer (some ⟨B,0,none⟩)]] w (Ur w l):=by
 have HA:=za (zeA h hl);obtain⟨n,hn⟩:=zf l.length;unfold Ur at HA;rw[hn]at HA;have HN:=za hn;clear h hl hn;go_enter func367,ntmps367
 go_wp2_with (go_at_call 371;refine HA.out.mono ?_;rintro e w1 ⟨a2,c2,rfl,h1,h2,h3⟩)
 go_ret;exact⟨a2,c2,by rw[HN.out];rfl,h1,by rw[HN.out];exact h2,h3⟩
end
section
open Go.RowKit
theorem zha{w:World}{gF:Nat}{F:List Nd}{T:TypeId}{n a b:Nat}(ha:(nd F n).pv=a)(hb:(nd F n).nx=b)(h:w.heap[gF]? = some (.cells (xi F).toArray T (0,0)))(haF:a<F.length)(hbF:b<F.length) :
  ((w.setCell ⟨gF,a*3+1,none⟩ (.int .u32 b)).setCell ⟨gF,b*3,none⟩ (.int .u32 a)).heap[gF]? = some (.cells (xi ((F.set a ⟨(nd F a).pv,b,(nd F a).ow⟩).set b ⟨a,(nd (F.set a ⟨(nd F a).pv,b,(nd F a).ow⟩) b).nx,(nd (F.set a ⟨(nd F a).pv,b,(nd F a).ow⟩) b).ow⟩)).toArray T (0,0)):=by
 have h1:=Yh h (i:=a) (j:=1) (u := .int .u32 b) (m:=⟨(nd F a).pv,b,(nd F a).ow⟩) haF (by decide) rfl;exact Yh h1 (i:=b) (j:=0) (u := .int .u32 a) (by simpa using hbF) (by decide) rfl
def Ut(p b6:Nat)(v0 v1 u0 u1:Value)(w':World):Prop:=w'.cell? ⟨p,0,none⟩=some v0∧w'.cell? ⟨p,2,none⟩=some v1∧w'.cell? ⟨b6,0,none⟩=some u0∧w'.cell? ⟨b6,1,none⟩=some u1
theorem Ut.set{p b6 g i:Nat}{v0 v1 u0 u1 v:Value}{X:World}(h:Ut p b6 v0 v1 u0 u1 X)(h1:g≠p)(h2:g≠b6):Ut p b6 v0 v1 u0 u1 (X.setCell ⟨g,i,none⟩ v) :=
 ⟨kM h.1 (.inl h1),kM h.2.1 (.inl h1),kM h.2.2.1 (.inl h2),kM h.2.2.2 (.inl h2)⟩
section
variable{w w':World}{p gF gL cF cL N:Nat}{Ls:List (List Nat)}{F:List Nd}{D:Nat→Prop}
theorem ziM(h:xf w p gF gL cF cL N Ls F){n k:Nat}{l:List Nat}(hl:Ls[k]? = some l)(hm:n∈l) :
  Calls prog 295 #[lkP p,.int .u32 n] w fun e w'=>e=.returned (.int .i64 0)∧xf w' p gF gL cF cL N (Ls.set k (l.erase n)) (kD F n)∧Mod (fun b=>b=gF∨b=gL) w w':=by
 obtain⟨a1,hn,how,haF,hbF,han,hbn⟩:=h.ok.cut hl hm;have hk:k<Ls.length:=(zE.1 hl).1;have hk4:k<4096:=by have:=h.hm;omega
 have hnF:n<F.length:=by rw[h.ok.len];omega
 have h32:n≤4294967295:=by have:=h.nm;omega
 have HI:=zcC h h32;have e0:inE N F n=0:=by unfold inE;rw[zk hn,zh (by omega)]
 rw[e0]at HI;have HI:=za HI;have hll:l.length≤N:=h.ok.short hl;have hl0:0<l.length:=Us hm;have hnm:=h.nm;have hend : ∀(w':World),w'.heap[gF]? = some (.cells (xi (kD F n)).toArray 407 (0,0))→w'.heap[gL]? = some (.cells ((uo Ls).set k (.int .i64 ((l.length-1:Nat):Int))).toArray 3 (0,0))→Mod (fun b=>b=gF∨b=gL) w w'→xf w' p gF gL cF cL N (Ls.set k (l.erase n)) (kD F n):=fun w' g1 g2 g3=>by
  obtain⟨n1,n2,n3⟩:=h.ne;refine⟨?_,g1,?_,a1,h.n1,h.nm,by rw[xF];exact h.hm⟩
  ·rw[zaL,xF];exact g3.heap (fun e=>by rcases e with e | e;exact n1 e;exact n2 e) h.box
  ·rw[← za5,List.length_erase_of_mem hm];exact g2
 have HE:=za hend;have hFb:F.length≤4198400:=by rw[h.ok.len];have:=h.hm;omega
 obtain⟨c0,c1,c2⟩:=h.at_ hnF;rw[how]at c2;obtain⟨ne1,ne2,ne3⟩:=h.ne;have HFL:=za h.fld;have HLN:=za h.len;have HNX:=za (fun(X:World) (hX:X.heap[gL]? = some (.cells (uo Ls).toArray 3 (0,0)))=>(show X.cell? ⟨gL,k,none⟩=some (.int .i64 (l.length:Nat)) by rw[zi X gL k _ _ (0,0) hX,vI];exact JA hl));have hbx:=h.box;have hp6:p<w.heap.size:=zm hbx;have hg6:gF<w.heap.size:=zm h.fld;have hL6:gL<w.heap.size:=zm h.len;obtain⟨FL,hFL⟩:=zf F.length;obtain⟨a,ha⟩:=zf ((nd F n).pv);obtain⟨b,hb⟩:=zf ((nd F n).nx);rw[ha]at haF han c0;rw[hb]at hbF hbn c1;rw[hFL]at hbx hFb hnF haF hbF;have HBX:=za hbx;have HA:=za ha;have HB:=za hb;have HFLe:=za hFL;have HOW:=za how;clear h hend hFL a1 hl hm ha hb how e0 hbx;have hbx:=HBX.out;obtain⟨kk,hkk⟩:=zf (k+1);rw[hkk]at c2 HOW;have wk:IntKind.u32.wrap ((kk:Int)-1)=(k:Int):=by rw[← hkk,show((k+1:Nat):Int)-1=(k:Int) by omega];exact Xt k (by omega)
 have dn:decide (n<FL)=true:=zP hnF;have da:decide (a<FL)=true:=zP haF;have db:decide (b<FL)=true:=zP hbF;clear hkk;obtain⟨hbx_0,hbx_1,hbx_2,hbx_f,hbx_l,H_hbx⟩:=cr3 hbx;clear hbx;go_enter func295,ntmps295;go_upto_region 5 with(go_at_call 294;refine HI.out.mono ?_;rintro e w' ⟨rfl,rfl⟩)
 have hal:zc w (w.alloc (.cells #[.int .u32 a,.int .u32 b,.int .u32 kk] 407)):=(Mod.refl _ w).alloc _;have h6:=zj (w:=w) (o := .cells #[.int .u32 a,.int .u32 b,.int .u32 kk] 407 (0,0)) rfl;have hbx0:=hal.heap (fun h=>h) HBX.out;have hf0:=hal.heap (fun h=>h) HFL.out;have hl0':=hal.heap (fun h=>h) HLN.out;have n6:gF≠w.heap.size:=by omega
 have n6L:gL≠w.heap.size:=by omega
 have HM0:=za hal;clear hbx_0 hbx_1 hbx_2 hbx_f hbx_l;clear H_hbx c0 c1 c2 hal hp6 hg6 hL6;generalize w.alloc (.cells #[.int .u32 a,.int .u32 b,.int .u32 kk] 407)=X0 at *;generalize w.heap.size=b6 at *;have HF0:=za hf0;have HL0:=za hl0';have HBX0:=za hbx0;have H60:=za h6;obtain⟨r0,r1,r2⟩:=Yb hf0 (i:=a) (by rw[HFLe.out];exact haF);obtain⟨s0,s1,s2⟩:=Yb hf0 (i:=b) (by rw[HFLe.out];exact hbF);have g0:=yU X0 gF (a*3+1) _ _ hf0;have g1:=yU X0 gF (b*3) _ _ hf0;have hX:gF<X0.heap.size:=zm hf0;clear hf0 hl0';obtain⟨hbx0_0,hbx0_1,hbx0_2,hbx0_f,hbx0_l,H_hbx0⟩:=cr3 hbx0;clear hbx0;obtain⟨h6_0,h6_1,h6_2,h6_f,h6_l,H_h6⟩:=cr3 h6;clear h6;have HS:Hid (Ut p b6 (.slice (some ⟨gF,0,none⟩) FL cF) (.slice (some ⟨gL,0,none⟩) Ls.length cL) (.int .u32 a) (.int .u32 b) X0):=za ⟨hbx0_0,hbx0_2,h6_0,h6_1⟩;go_upto_region 5 with fail
 go_region_held3 (fun w'=>w'.cell? ⟨p,0,none⟩=some (.slice (some ⟨gF,0,none⟩) FL cF)∧w'.cell? ⟨p,2,none⟩=some (.slice (some ⟨gL,0,none⟩) Ls.length cL)∧w'.cell? ⟨b6,0,none⟩=some (.int .u32 a)∧w'.cell? ⟨b6,1,none⟩=some (.int .u32 b))
  (first | exact HS.out | exact HS.out.set ne1.symm n6 | exact(HS.out.set ne1.symm n6).set ne1.symm n6) (fail)
 have hm2:Mod (fun b=>b=gF) X0 ((X0.setCell ⟨gF,a*3+1,none⟩ (.int .u32 b)).setCell ⟨gF,b*3,none⟩ (.int .u32 a)).drew :=
  (((Mod.refl (fun b=>b=gF) X0).setCell (p:=⟨gF,a*3+1,none⟩) (fun _=>rfl) _).setCell (p:=⟨gF,b*3,none⟩) (fun _=>rfl) _).drew
 have hf2:((X0.setCell ⟨gF,a*3+1,none⟩ (.int .u32 b)).setCell ⟨gF,b*3,none⟩ (.int .u32 a)).drew.heap[gF]? = _:=zha HA.out HB.out HF0.out (by rw[HFLe.out];exact haF) (by rw[HFLe.out];exact hbF);generalize((X0.setCell ⟨gF,a*3+1,none⟩ (.int .u32 b)).setCell ⟨gF,b*3,none⟩ (.int .u32 a)).drew=X2 at hm2 hf2 ⊢;have hbx2:=hm2.heap (fun e=>ne1 e) HBX0.out;have hln2:=hm2.heap (fun e=>ne3 e.symm) HL0.out;have h62:=hm2.heap (fun e=>n6 e.symm) H60.out;have hl9:=HNX.out _ hln2;clear hbx0_0 hbx0_1 hbx0_2 hbx0_f hbx0_l;clear h6_0 h6_1 h6_2 h6_f h6_l;clear H_hbx0 H_h6 r0 r1 r2 s0 s1 s2 g0 g1 hX HS;have g0:=yU X2 gL k _ _ hln2;have HM:=za ((HM0.out.mono (fun _ _ h=>h.elim)).trans (hm2.mono (fun _ _ h=>Or.inl h)):Mod (fun b=>b=gF∨b=gL) w X2);have HF2:=za hf2;have HL2:=za hln2;have hX2:gL<X2.heap.size:=zm hln2;have hX3:gF<X2.heap.size:=zm hf2;clear hm2 hf2 hln2;have dk:decide (k<Ls.length)=true:=zP hk;have wl:IntKind.i64.wrap ((l.length:Int)-1)=(l.length:Int)-1:=zt _ (by omega);obtain⟨hbx2_0,hbx2_1,hbx2_2,hbx2_f,hbx2_l,H_hbx2⟩:=cr3 hbx2;clear hbx2;obtain⟨h62_0,h62_1,h62_2,h62_f,h62_l,H_h62⟩:=cr3 h62;clear h62;go_upto_region 6 with fail
 go_still_tail 11,(by kernel_rfl)
 go_upto_region 7 with fail
 have e1:(X2.setCell ⟨gL,k,none⟩ (.int .i64 ((l.length:Int)-1))).drew.heap[gF]? = _:=xm HF2.out ne3;have e2:(X2.setCell ⟨gL,k,none⟩ (.int .i64 ((l.length:Int)-1))).drew.heap[gL]? = _:=ya X2 gL k _ _ (.int .i64 ((l.length:Int)-1)) HL2.out;rw[YO,show((l.length:Int)-1)=((l.length-1:Nat):Int) by omega]at e2;rw[show((l.length:Int)-1)=((l.length-1:Nat):Int) by omega]at e1;have e3:=(HM.out.setCell (p:=⟨gL,k,none⟩) (fun _ => .inr rfl) (.int .i64 ((l.length-1:Nat):Int))).drew;have e4:(X2.setCell ⟨gL,k,none⟩ (.int .i64 ((l.length-1:Nat):Int))).drew.heap[p]? = _:=xm H_hbx2.out ne2;rw[show((l.length:Int)-1)=((l.length-1:Nat):Int) by omega];clear hbx2_0 hbx2_1 hbx2_2 hbx2_f hbx2_l;clear h62_0 h62_1 h62_2 h62_f h62_l;clear H_hbx2 H_h62 wl dk hl9 g0 hX2 hX3;generalize(X2.setCell ⟨gL,k,none⟩ (.int .i64 ((l.length-1:Nat):Int))).drew=X3 at e1 e2 e3 e4 ⊢;obtain⟨q0,q1,q2⟩:=Yb e1 (i:=n) (by simp;rw[HFLe.out];exact hnF);have g0:=yU X3 gF (n*3) _ _ e1;have g1:=yU X3 gF (n*3+1) _ _ e1;have g2:=yU X3 gF (n*3+2) _ _ e1;have hX3:gF<X3.heap.size:=zm e1;have HE1:=za e1;have HE2:=za e2;have HE3:=za e3;have hfin:=U6 e1 (i:=n) (by simp;rw[HFLe.out];exact hnF) 0 0 0;have HFIN:=za hfin;clear e1 e2 e3 hfin;obtain⟨e4_0,e4_1,e4_2,e4_f,e4_l,H_e4⟩:=cr3 e4;clear e4;go_wp2;have r1:=HFIN.out;have r2:=xm (v := .int .u32 0) (xm (v := .int .u32 0) (xm (a:=⟨gF,n*3,none⟩) (v := .int .u32 0) HE2.out (fun e=>ne3 e.symm)) (a:=⟨gF,n*3+1,none⟩) (fun e=>ne3 e.symm)) (a:=⟨gF,n*3+2,none⟩) (fun e=>ne3 e.symm);have r3:=((HE3.out.setCell (p:=⟨gF,n*3,none⟩) (fun _ => .inl rfl) (.int .u32 0)).setCell (p:=⟨gF,n*3+1,none⟩) (fun _ => .inl rfl) (.int .u32 0)).setCell (p:=⟨gF,n*3+2,none⟩) (fun _ => .inl rfl) (.int .u32 0);go_ret;refine⟨rfl,HE.out _ ?_ r2 r3,r3⟩;unfold kD;rw[HA.out,HB.out];exact r1
theorem zaM(h:ym w D p N Ls){n k:Nat}{l:List Nat}(hl:Ls[k]? = some l)(hm:n∈l) :
  Calls prog 295 #[lkP p,.int .u32 n] w fun e w'=>e=.returned (.int .i64 0)∧ym w' D p N (Ls.set k (l.erase n))∧Mod D w w':=by
 obtain⟨gF,gL,cF,cL,F,h1,h2⟩:=h;refine(ziM h1 hl hm).mono ?_;rintro e w' ⟨he,q1,q2⟩;exact⟨he,⟨gF,gL,cF,cL,_,q1,h2⟩,q2.mono (fun k _ hk=>(h2 k).2 (.inr hk))⟩
end
def neB(Ls:List (List Nat))(b:Nat):Bool:=match Ls[b]? with
 | some (_::_)=>true
 | _=>false
theorem J0{Ls:List (List Nat)}{b:Nat}(hb:b<Ls.length)(l:List Nat):neB (Ls.set b l)=vH (neB Ls) b (!l.isEmpty):=by
 funext x
 unfold neB vH;by_cases e:b=x
 ·subst e;rw[yv hb,zk rfl]
  cases l<;>rfl
 ·rw[yy e,zh (fun c=>e c.symm)]
theorem zk3(H:Nat):neB (List.replicate H [])=fun _=>false:=by
 funext x
 unfold neB;rw[vX];split
 ·rename_i h;split at h<;>cases h
 ·rfl
theorem zjF{f:Nat→Bool}{b:Nat}{v:Bool}(h:f b=v):vH f b v=f:=by
 funext x
 unfold vH;split
 ·rename_i e;rw[e,h]
 ·rfl
def yK(w:World)(D:Nat→Prop)(p:Nat)(Ls:List (List Nat)):Prop :=
 ∃ q many N Dl,w.heap[p]? = some (.cells (whC q (neB Ls) many) 412 (0,0))∧ym w Dl q N Ls∧Ls.length=256 ∧ ∀ k,D k↔(k=p∨Dl k)
theorem ym.types{w:World}{D:Nat→Prop}{p N:Nat}{Ls:List (List Nat)}(h:ym w D p N Ls){k:Nat}(hk:D k){cs:Array Value}{T:TypeId}{fz:Nat × Nat}(e:w.heap[k]? = some (.cells cs T fz)):T=403∨T=407∨T=3:=by
 obtain⟨gF,gL,cF,cL,F,h1,h2⟩:=h;rcases(h2 k).1 hk with rfl | rfl | rfl
 ·have:=e.symm.trans h1.box;injection this with this;injection this with _ this;exact .inl this
 ·have:=e.symm.trans h1.fld;injection this with this;injection this with _ this;exact .inr (.inl this)
 ·have:=e.symm.trans h1.len;injection this with this;injection this with _ this;exact .inr (.inr this)
section
variable{w w':World}{D S:Nat→Prop}{p:Nat}{Ls:List (List Nat)}
theorem yK.frame(h:yK w D p Ls)(hm:Mod S w w')(hd : ∀ k,D k → ¬ S k):yK w' D p Ls:=by
 obtain⟨q,many,N,Dl,h1,h2,h3,h4⟩:=h;exact⟨q,many,N,Dl,hm.heap (hd p ((h4 p).2 (.inl rfl))) h1,h2.frame hm (fun k hk=>hd k ((h4 k).2 (.inr hk))),h3,h4⟩
theorem yK.pure(h:yK w D p Ls)(hm:zc w w'):yK w' D p Ls:=h.frame hm (fun _ _ h=>h)
theorem yK.lt(h:yK w D p Ls){k:Nat}(hk:D k):k<w.heap.size:=by
 obtain⟨q,many,N,Dl,h1,h2,h3,h4⟩:=h;rcases(h4 k).1 hk with rfl | e
 ·exact zm h1
 ·exact h2.lt e
theorem yK.self(h:yK w D p Ls):D p:=by obtain⟨q,many,N,Dl,h1,h2,h3,h4⟩:=h;exact(h4 p).2 (.inl rfl)
theorem yK.len(h:yK w D p Ls):Ls.length=256:=by obtain⟨q,many,N,Dl,h1,h2,h3,h4⟩:=h;exact h3
theorem Xe{q:Nat}{f:Nat→Bool}{many:Int}(h:w.heap[p]? = some (.cells (whC q f many) 412 (0,0))){Dl:Nat→Prop}{q' N:Nat}(hl:ym w Dl q' N Ls) : ¬ Dl p:=fun hd=>by
 rcases hl.types hd h with e | e | e<;>exact absurd e (by decide)
theorem qh{q:Nat}{f:Nat→Bool}{many:Int}(h:w.heap[p]? = some (.cells (whC q f many) 412 (0,0))) :
  w.cell? ⟨p,0,none⟩=some (.pointer (some ⟨q,0,none⟩))∧w.cell? ⟨p,5,none⟩=some (.int .i64 many)∧(∀ i,w.frozen? ⟨p,i,none⟩=false)∧p<w.heap.size :=
 ⟨zi w p 0 _ _ (0,0) h,zi w p 5 _ _ (0,0) h,fun i=>yU w p i _ _ h,zm h⟩
theorem zcT{q:Nat}{f:Nat→Bool}{many:Int}(h:w.heap[p]? = some (.cells (whC q f many) 412 (0,0)))(m2:Int):(w.setCell ⟨p,5,none⟩ (.int .i64 m2)).heap[p]? = some (.cells (whC q f m2) 412 (0,0)):=by
 have arr : ∀(a x0 x1 x2 x3 y z:Value),(#[a,x0,x1,x2,x3,z]:Array Value).setIfInBounds 5 y=#[a,x0,x1,x2,x3,y]:=fun _ _ _ _ _ _ _=>rfl
 have:=ya w p 5 _ _ (.int .i64 m2) h;unfold whC at this ⊢;rw[arr]at this;exact this
theorem V0(h:yK w D p Ls){s:Nat}(hs:s<4194304){b:Int}(hb0:0≤b)(hb:b<256):Calls prog 346 #[lkP p,.int .u32 s,.int .i64 b] w fun e w'=>e=.returned (.int .i64 0)∧w=w':=by
 obtain⟨q,many,N,Dl,h1,h2,h3,h4⟩:=h;obtain⟨c0,_,_,_⟩:=qh h1;clear h1 h2 h3 h4;have d1:decide ((4194304:Int)≤(s:Int))=false:=zR (by omega);have d1n:decide (4194304≤s)=false:=zR (by omega);have d2:decide (b<0)=false:=zR (by omega);have d3:decide ((256:Int)≤b)=false:=zR (by omega);go_enter func346,ntmps346;go_wp2;go_ret;exact⟨rfl,rfl⟩
theorem zkJ(w:World):Calls prog 238 #[] w fun e w' => ∃ p D,e=.returned (lkP p)∧yK w' D p (List.replicate 256 [])∧zc w w' ∧ ∀ k,D k→w.heap.size≤k:=by
 have HN:=za (JT w (N:=8) (H:=256) (by omega) (by omega) (by omega) (by omega));have hwd : ∀ k,xd (fun _=>false) k=0:=fun k=>KV.2 (fun _ _=>rfl)
 have HWD:=za hwd;clear hwd;go_enter func238,ntmps238
 go_wp2_with (go_at_call 235;refine HN.out.mono ?_;rintro e w1 ⟨q,D,rfl,hl,hp,hf⟩)
 go_ret;have hal:zc w1 (w1.alloc (.cells #[.pointer (some ⟨q,0,none⟩),.int .u64 0,.int .u64 0,.int .u64 0,.int .u64 0,.int .i64 0] 412)):=(Mod.refl _ w1).alloc _;have hbx:=zj (w:=w1) (o := .cells #[.pointer (some ⟨q,0,none⟩),.int .u64 0,.int .u64 0,.int .u64 0,.int .u64 0,.int .i64 0] 412 (0,0)) rfl;refine⟨w1.heap.size,fun k=>k=w1.heap.size∨D k,rfl,⟨q,0,8,D,?_,hl.pure hal,vx,fun k=>vP⟩,hp.trans hal,fun k hk => ?_⟩
 ·unfold whC;rw[zk3,HWD.out,HWD.out,HWD.out,HWD.out];exact hbx
 ·rcases hk with rfl | hk
  ·exact hp.size
  ·exact hf k hk
end
def vo(n i:Nat):List Nat:=(List.range n).map (fun j=>if j<i then j else 0)
theorem Up(n i:Nat):(vo n i).length=n:=by simp[vo]
theorem za0(n:Nat):vo n n=List.range n:=by
 unfold vo;refine uv (fun j => ?_);rw[yC];by_cases hj:j<n
 ·rw[qw hj];simp[hj]
 ·rw[xK (by simpa using hj)];rfl
theorem zaw{n i:Nat}(hi:i<n):(zX (vo n i)).set i (.int .u32 (i:Nat))=zX (vo n (i+1)):=by
 unfold zX vo;refine uv (fun j => ?_);by_cases e:i=j
 ·subst e;rw[yv (by simpa using hi)];simp[List.getElem?_range hi]
 ·rw[yy e,yC,yC,yC,yC];by_cases hj:j<n
  ·rw[qw hj];have:(j<i)=(j<i+1):=by rw[eq_iff_iff];omega
   simp[this]
  ·rw[xK (by simpa using hj)];rfl
theorem zc9(m:Nat):madeCells (Value.int .u32 0).cells (m*1)=(zX (vo m 0)).toArray:=by
 rw[show(Value.int .u32 0).cells=#[.int .u32 0]from rfl];apply Array.ext_getElem?;intro k;unfold madeCells zX vo;rw[Array.getElem?_map,show((((List.range m).map (fun j=>if j<0 then j else 0)).map (fun x:Nat=>(Value.int .u32 x))).toArray)[k]? = (((List.range m).map (fun j=>if j<0 then j else 0)).map (fun x:Nat=>(Value.int .u32 x)))[k]? from vI,jW];rw[yC,yC];by_cases hk:k<m
 ·rw[Ym,zk hk,qw hk]
  show some (#[Value.int .u32 0][k%1]!)=_
  rw[Nat.mod_one];rfl
 ·rw[Ym,zh hk,xK (by simpa using hk)];rfl
section
variable{w w':World}{D:Nat→Prop}{p:Nat}{Ls:List (List Nat)}
theorem Azuwg {P:Prop}(h:P:=by
 have i0:(0:Int)≤(i:Int):=by omega
 have wi:IntKind.i64.wrap ((i:Int)+1)=(i:Int)+1:=zt _ (by omega);have wu:IntKind.u32.wrap (i:Int)=(i:Int):=Xt i (by omega);have q0 : ∃ v,wr.cell? ⟨g,i,none⟩=some v:=by
  rw[zi wr g i _ _ (0,0) HRW.out,vI,zL (by rw[qq,Up];exact hlt2)];exact⟨_,rfl⟩
 obtain⟨v0,q0⟩:=q0;have g0:=yU wr g i _ _ HRW.out;have hX:g<wr.heap.size:=zm HRW.out;have di:decide (i<N)=true:=zP hlt2;have e1:=ya wr g i _ _ (.int .u32 (i:Nat)) HRW.out;rw[YO,zaw hlt2]at e1;have HE1:=za e1;clear e1;go_wp2;go_roundw
 case rel=>exact⟨i+1,by go_num,hlt2,HPU.out.then ((Mod.refl (fun k=>k=g) wr).setCell (p:=⟨g,i,none⟩) (fun _=>rfl) _) (fun k hk e=>by have:=HG.out;omega),HE1.out⟩
 case measure=>simp[intOf];omega):P:=h
theorem Azavs {P:Prop}(h:P:=by
 have:=run_make W 213 143 i0 _ underlying213 hi iz0 .i64 .i64 (N:Int) (N:Int) (by omega) (Int.le_refl _) (by rw[iz2];omega) (by omega);rw[iz1,show((N:Int)).toNat=N by omega,zc9]at this;exact this):P:=h
theorem Azh2a {P:Prop}(h:P:=by
 have:=zo.of_block (w:=wr) N N 1 HRW.out (by simp[qq,Up]) (by simpa using VS (vo N N));simpa[za0]using this):P:=h
theorem zdE{q N:Nat}{many:Int}{Dl:Nat→Prop}(hb:w.heap[p]? = some (.cells (whC q (neB Ls) many) 412 (0,0)))(hl:ym w Dl q N Ls)(h256:Ls.length=256){s:Nat}(hs:s<4194304) :
  Calls prog 349 #[lkP p,.int .u32 s] w fun e w'=>e=.returned (.tuple #[]) ∧ ∃ N' Dl',ym w' Dl' q N' Ls∧s<N'∧Mod Dl w w' ∧ ∀ k,Dl' k→Dl k∨w.heap.size≤k:=by
 obtain⟨c0,_,_,hlt⟩:=qh hb;obtain⟨l4,l5,l6⟩:=hl.lenH;have HNo:=za (QH hl);have HL:=za hl;have HNB:Hid (¬ Dl p):=za (Xe hb hl);have HB:=za hb;clear hb hl l4;have wn:IntKind.i64.wrap (s:Int)=(s:Int):=zt _ (by omega);by_cases c:s<N
 ·have d1:decide ((s:Int)<(N:Int))=true:=zP (by omega);have d1n:decide (s<N)=true:=zP c;go_enter func349,ntmps349
  go_wp2_with (go_at_call 337;refine HNo.out.mono ?_;rintro e w' ⟨rfl,rfl⟩)
  exact zN (results_none rfl _ _ _) rfl ⟨rfl,N,Dl,HL.out,c,Mod.refl _ _,fun k hk => .inl hk⟩
 ·have d1:decide ((s:Int)<(N:Int))=false:=zR (by omega);have d1n:decide (s<N)=false:=zR c;obtain⟨i0,hi,iz0,iz1,iz2⟩:=xG qt;have hmk : ∀ W:World,(Instr.makeSlice 213 (.int .i64 (N:Int)) (.int .i64 (N:Int))).run prog W=.ok (.slice (some ⟨W.heap.size,0,none⟩) N N) (W.alloc (.cells (zX (vo N 0)).toArray 143)):=fun W=>by
   exact Azavs
  clear hi iz0 iz1 iz2;go_enter func349,ntmps349;go_upto_region 4 with(go_at_call 337;refine HNo.out.mono ?_;rintro e w' ⟨rfl,rfl⟩)
  have hal:zc w (w.alloc (.cells (zX (vo N 0)).toArray 143)):=(Mod.refl _ w).alloc _;have hr0:=zj (w:=w) (o := .cells (zX (vo N 0)).toArray 143 (0,0)) rfl;have HAL:=za hal;have HR0:=za hr0;clear hal hr0 hmk;generalize w.alloc (.cells (zX (vo N 0)).toArray 143)=W1 at *;obtain⟨g,hg⟩:=zf w.heap.size;rw[hg]at HR0 ⊢;have HG:=za hg;clear hg;have hN0:1≤N:=l6;go_loopw [20] (fun v wr => ∃ i,v=.int .i64 (i:Nat)∧i≤N∧zc w wr∧wr.heap[g]? = some (.cells (zX (vo N i)).toArray 143 (0,0))) (fun v _=>N-(intOf v).toNat)
  case atStart=>exact⟨0,rfl,yi _,HAL.out,HR0.out⟩
  case round =>
   clear HAL HR0;obtain⟨i,rfl,hi,hpu,hrw⟩:=hrel;have HPU:=za hpu;have HRW:=za hrw;clear hpu hrw;by_cases hlt2:i<N
   ·have hlt':(i:Int)<(N:Int):=by omega
    exact Azuwg
   ·have e:N=i:=by omega
    subst e;have hrd:zo wr (.slice (some ⟨g,0,none⟩) N N) 1 (zX (List.range N)):=by
     exact Azh2a
    have hren : ∀ M:Int,(N:Int)≤M→M≤4194304→(s:Int)<M→Calls prog 338 #[lkP q,.slice (some ⟨g,0,none⟩) N N,.int .i64 M] wr fun e w'=>e=.returned (.int .i64 0) ∧ ∃ N' Dl',ym w' Dl' q N' Ls∧s<N'∧Mod Dl w w' ∧ ∀ k,Dl' k→Dl k∨w.heap.size≤k:=fun M h1 h2 h3=>by
     obtain⟨M,rfl⟩:=Int.eq_ofNat_of_zero_le (show 0≤M by omega);refine(zaI (HL.out.pure HPU.out) (by omega) (some ⟨g,0,none⟩) N hrd (M:=M) (by omega) (by omega)).mono ?_;rintro e w' ⟨he,⟨D',g1,g2⟩,g3⟩;have hq:=HL.out.self;refine⟨he,M,D',g1,by omega,(Mod.of_pure HPU.out).trans (g3.mono (fun k _ hk=>by rw[hk];exact hq)),fun k hk => ?_⟩;rcases g2 k hk with e | e
     ·exact .inl (by rw[e];exact hq)
     ·exact .inr (zH HPU.out.size e)
    have HRen:=za hren;clear hren;have c0:=HPU.out.cell (fun h=>h) c0;have hlt2:=HPU.out.lt hlt;have w2:IntKind.i64.wrap (2*(N:Int))=2*(N:Int):=zt _ (by omega);have w3:IntKind.i64.wrap ((s:Int)+1)=(s:Int)+1:=zt _ (by omega);clear hrd hi
    go_wp2_with fail
    all_goals
     refine(HRen.out _ (by omega) (by omega) (by omega)).mono ?_;rintro e w5 ⟨rfl,N',Dl',q1,q2,q3,q4⟩;go_wp2
     go_end0
     exact⟨rfl,N',Dl',q1,q2,q3,q4⟩
end
section
variable{w w':World}{D:Nat→Prop}{p:Nat}{Ls:List (List Nat)}
def yo(D D':Nat→Prop)(w:World):Prop := ∀ k,D' k→D k∨w.heap.size≤k
theorem yo.refl(D:Nat→Prop)(w:World):yo D D w:=fun _ h => .inl h
theorem zjS(h:yK w D p Ls){s b:Nat}{l:List Nat}(hs:s<4194304)(hl:Ls[b]? = some l)(hf : ¬ inL Ls s) :
    Calls prog 310 #[lkP p,.int .u32 s,.int .i64 b] w fun e w'=>e=.returned (.int .i64 0)∧(∃ D',yK w' D' p (Ls.set b (l++[s]))∧yo D D' w)∧Mod D w w':=by
  have hb:b<256:=by have:=(zE.1 hl).1;rw[h.len]at this;exact this
  have HCk:=za (V0 h hs (b:=(b:Int)) (by omega) (by omega));have HW:=za h;obtain⟨q,many,N,Dl,h1,h2,h3,h4⟩:=h;have HRo:=za (zdE h1 h2 h3 hs);have HB:=za h1;have HDD:=za h4;have HL:=za hl;have HF:=za hf;have H3:=za h3;have HNB:=za (Xe h1 h2);have hpq:p≠q:=fun e=>Xe h1 h2 (e ▸ h2.self)
  have hpl:p<w.heap.size:=zm h1;clear h1 h2 h3 h4 hl hf;have b0:(0:Int)≤(b:Int):=by omega
  go_enter func310,ntmps310;go_upto_region 5 with(first
    | (go_at_call 346;refine HCk.out.mono ?_;rintro e w' ⟨rfl,rfl⟩)
    | (go_at_call 349;refine HRo.out.mono ?_;rintro e w1 ⟨rfl,N',Dl',hl1,hsN,hm1,hg1⟩))
  have hbx1:=hm1.heap HNB.out HB.out;have hnb1:=Xe hbx1 hl1;have HBk:=za (KG hl1 hsN HL.out HF.out);have HM1:=za hm1;have HG1:=za hg1;have HBX1:=za hbx1;have HNB1:=za hnb1;obtain⟨c0,c5,_,_⟩:=qh hbx1;clear hl1 hm1 hg1 hbx1 hnb1 c5;go_upto_region 8 with(go_at_call 297;refine HBk.out.mono ?_;rintro e w2 ⟨rfl,hl2,hm2⟩)
  have hbx2:=hm2.heap HNB1.out HBX1.out;have HSe:=za (zjp hbx2 hb);have HL2:=za hl2;have HM2:=za hm2;clear hl2 hm2 hbx2 c0;go_upto_region 9 with(go_at_call 350;refine HSe.out.mono ?_;rintro e w3 ⟨rfl,hbx3,hm3⟩)
  obtain⟨c0,c5,g5,hlt3⟩:=qh hbx3;have g55:=g5 5;have HBX3:=za hbx3;have HM3:=za hm3;clear hbx3 hm3 g5;obtain⟨m2,hm2⟩:=zf (IntKind.i64.wrap (many+1));have hend:=zcT HBX3.out m2;have hmd:=(Mod.refl (fun k=>k=p) w3).setCell (p:=⟨p,5,none⟩) (fun _=>rfl) (.int .i64 m2);have HEnd:=za hend;have HMd:=za hmd;clear hend hmd;go_wp2;go_ret;have hne:neB (Ls.set b (l++[s]))=vH (neB Ls) b true:=by
    rw[J0 (by rw[H3.out];exact hb)]
    congr 1
    simp
  refine⟨rfl,⟨fun k=>k=p∨Dl' k,⟨q,m2,N',Dl',?_,(HL2.out.frame HM3.out (fun k hk e=>HNB1.out (e ▸ hk))).frame HMd.out (fun k hk e=>HNB1.out (e ▸ hk)),by rw[xF];exact H3.out,fun k=>vP⟩,fun k hk => ?_⟩,?_⟩
  · rw[hne];exact HEnd.out
  · rcases hk with rfl | hk
    · exact .inl ((HDD.out k).2 (.inl rfl))
    · rcases HG1.out k hk with e | e
      · exact .inl ((HDD.out k).2 (.inr e))
      · exact .inr e
  · refine(HM1.out.mono (fun k _ hk=>(HDD.out k).2 (.inr hk))).then ((HM2.out.mono (fun k _ hk=>Or.inr hk):Mod (fun k=>k=p∨Dl' k) w1 w2).trans ((HM3.out.trans HMd.out).mono (fun k _ hk=>Or.inl hk))) (fun k hk e => ?_)
    rcases e with rfl | e
    · exact(HDD.out k).2 (.inl rfl)
    · rcases HG1.out k e with e2 | e2
      · exact(HDD.out k).2 (.inr e2)
      · omega
theorem zfP(h:yK w D p Ls){s:Nat}(hs:s<4194304){b:Nat}{l:List Nat}(hl:Ls[b]? = some l)(hm:s∈l) :
    Calls prog 343 #[lkP p,.int .u32 s] w fun e w'=>e=.returned (.tuple #[.int .i64 b,.int .i64 0])∧w=w':=by
  have HCk:=za (V0 h hs (b:=0) (by omega) (by omega));obtain⟨q,many,N,Dl,h1,h2,h3,h4⟩:=h;have HOf:Hid (Calls prog 245 #[lkP q,.int .u32 s] w fun e w'=>e=.returned (.tuple #[.int .i64 b,.int .i64 0])∧w=w'):=za (by
    refine(zbL h2 (n:=s) (by omega)).mono ?_;rintro e w' ⟨hp,rfl⟩;refine⟨?_,rfl⟩;rcases hp with⟨k,l',e1,e2,rfl⟩ | ⟨hn,_⟩
    · obtain⟨gF,gL,cF,cL,F,m1,m2⟩:=h2
      have:=(m1.ok.own k l' e1 s e2).2;have h9:=(m1.ok.own b l hl s hm).2;rw[show k=b by omega]
    · exact absurd ⟨b,l,hl,hm⟩ hn)
  obtain⟨c0,_,_,_⟩:=qh h1;clear h1 h2 h3 h4 hl hm;go_enter func343,ntmps343
  go_wp2_with (first
    | (go_at_call 346;refine HCk.out.mono ?_;rintro e w' ⟨rfl,rfl⟩)
    | (go_at_call 245;refine HOf.out.mono ?_;rintro e w' ⟨rfl,rfl⟩))
  go_ret2;exact⟨rfl,rfl⟩
theorem zbF(h:yK w D p Ls){s b:Nat}{l:List Nat}(hs:s<4194304)(hl:Ls[b]? = some l)(hm:s∈l) :
    Calls prog 302 #[lkP p,.int .u32 s] w fun e w'=>e=.returned (.tuple #[.int .i64 b,.int .i64 0])∧yK w' D p (Ls.set b (l.erase s))∧Mod D w w':=by
  have hb:b<256:=by have:=(zE.1 hl).1;rw[h.len]at this;exact this
  have HBu:=za (zfP h hs hl hm);obtain⟨q,many,N,Dl,h1,h2,h3,h4⟩:=h;have HRe:=za (zaM h2 hl hm);have HNB:=za (Xe h1 h2);have HB:=za h1;have HDD:=za h4;have H3:=za h3;have HNE0:Hid (neB Ls b=true):=za (by unfold neB;rw[hl];cases l with | nil=>cases hm | cons x l=>rfl);have hbl:b<Ls.length:=by rw[h3];exact hb
  have hl9:(Ls.set b (l.erase s))[b]? = some (l.erase s):=yv hbl;have HL9:=za hl9;obtain⟨c0,c5,_,_⟩:=qh h1;clear h1 h2 h3 h4 hl hm hl9;have b0:(0:Int)≤(b:Int):=by omega
  go_enter func302,ntmps302;go_upto_region 5 with(first
    | (go_at_call 343;refine HBu.out.mono ?_;rintro e w' ⟨rfl,rfl⟩)
    | (go_at_call 295;refine HRe.out.mono ?_;rintro e w1 ⟨rfl,hl1,hm1⟩))
  have hbx1:=hm1.heap HNB.out HB.out;obtain⟨m2,hmm⟩:=zf (IntKind.i64.wrap (many-1));have hend:=zcT hbx1 m2;have hmd:=(Mod.refl (fun k=>k=p) w1).setCell (p:=⟨p,5,none⟩) (fun _=>rfl) (.int .i64 m2);have hl2:=hl1.frame hmd (fun k hk e=>HNB.out (e ▸ hk));have hmt:Mod (fun k=>k=p∨Dl k) w (w1.setCell ⟨p,5,none⟩ (.int .i64 m2)):=(hm1.mono (fun _ _ h=>Or.inr h)).trans (hmd.mono (fun _ _ h=>Or.inl h));have HLe:=za (fun W (hW:w1.setCell ⟨p,5,none⟩ (.int .i64 m2)=W)=>(hW ▸ zcu hl2 HL9.out:Calls prog 298 #[lkP q,.int .i64 b] W fun e w'=>e=.returned (.int .i64 (l.erase s).length)∧W=w'));obtain⟨d0,d5,g5,hlt1⟩:=qh hbx1;have g55:=g5 5;have HL2:=za hl2;have HMt:=za hmt;have HEnd:=za hend;clear hl1 hm1 hl2 hmt hend hmd g5 hbx1 c0 c5;go_upto_region 6 with fail
  generalize hW3:w1.setCell ⟨p,5,none⟩ (.int .i64 m2)=W3 at *;have HLe3:=za (HLe.out W3 rfl);have hb3:=HEnd.out;have HFin:Hid (∀ X:World,X.heap[p]? = some (.cells (whC q (neB (Ls.set b (l.erase s))) m2) 412 (0,0))→ym X Dl q N (Ls.set b (l.erase s))→yK X D p (Ls.set b (l.erase s))):=za (fun X g1 g2=>⟨q,m2,N,Dl,g1,g2,by rw[xF];exact H3.out,HDD.out⟩);have hne:=J0 (Ls:=Ls) hbl (l.erase s);have HNE:=za hne;have HMD:Hid (Mod D w W3):=za (HMt.out.mono (fun k _ hk=>(HDD.out k).2 hk));have HCl:=za (zfE hb3 hb);obtain⟨d0,d5,_,_⟩:=qh hb3;clear hne hW3 HLe hb3 HMt;obtain⟨l',hl'⟩ : ∃ l',l.erase s=l':=⟨_,rfl⟩;rw[hl']at HLe3 HFin HNE HL2;have HLE:=za hl';clear hl'
  cases l' with
  | nil =>
    have HLe4:Hid (Calls prog 298 #[lkP q,.int .i64 b] W3 fun e w'=>e=.returned (.int .i64 0)∧W3=w'):=HLe3;clear HLe3
    go_wp2_with (first
      | (go_at_call 298;refine HLe4.out.mono ?_;rintro e w' ⟨rfl,rfl⟩)
      | (go_at_call 344;refine HCl.out.mono ?_;rintro e w5 ⟨rfl,q1,q2⟩))
    go_ret2;refine⟨rfl,by rw[HLE.out];exact HFin.out _ (by rw[HNE.out];exact q1) (HL2.out.frame q2 (fun k hk e=>HNB.out (e ▸ hk))),HMD.out.trans (q2.mono (fun k _ hk=>by rw[hk];exact(HDD.out p).2 (.inl rfl)))⟩
  | cons x l2 =>
    obtain⟨n,hn⟩:=zf ((x::l2).length);have hn0:n≠0:=by rw[← hn];simp
    rw[hn]at HLe3;have e0:((n:Int)==0)=false:=by simp;omega
    have HN:=za hn;clear hn hn0
    go_wp2_with (go_at_call 298;refine HLe3.out.mono ?_;rintro e w' ⟨rfl,rfl⟩)
    go_ret2;exact⟨rfl,by rw[HLE.out];exact HFin.out _ (by rw[HNE.out,zjF (by rw[HNE0.out];rfl)];exact HEnd.out) HL2.out,HMD.out⟩
end
theorem set_self{Ls:List (List Nat)}{b:Nat}{l:List Nat}(h:Ls[b]? = some l):Ls.set b l=Ls:=by
 refine uv (fun j => ?_);by_cases e:b=j
 ·subst e;rw[yv (zE.1 h).1,h]
 ·rw[yy e]
section
variable{w w':World}{D:Nat→Prop}{p:Nat}{Ls:List (List Nat)}
theorem yK.small(h:yK w D p Ls){b:Nat}{l:List Nat}(hl:Ls[b]? = some l):l.length≤4194304∧(∀ s∈l,s<4194304)∧b<256∧l.Nodup:=by
 have hb:b<256:=by have:=(zE.1 hl).1;rw[h.len]at this;exact this
 obtain⟨q,many,N,Dl,h1,⟨gF,gL,cF,cL,F,m1,m2⟩,h3,h4⟩:=h;have:=m1.nm;exact⟨zH (m1.ok.short hl) this,fun s hs=>by have:=(m1.ok.own b l hl s hs).1;omega,hb,m1.ok.nodup b l hl⟩
theorem zj7(h:yK w D p Ls){b:Nat}{l:List Nat}(hl:Ls[b]? = some l) :
    Calls prog 348 #[lkP p,.int .i64 b] w fun e w' => ∃ a c,e=.returned (.tuple #[.slice a l.length c,.int .i64 0])∧yw w' a c l∧xp w (.slice a l.length c)∧zc w w':=by
  obtain⟨hll,_,hb,_⟩:=h.small hl;have HCk:=za (V0 h (s:=0) (by omega) (b:=(b:Int)) (by omega) (by omega));obtain⟨q,many,N,Dl,h1,h2,h3,h4⟩:=h;have HA:=za (zhI h2 hl hll);have HC:=za (fun(W:World) B a c (hi:kR W B a c l)=>zis hi hll);obtain⟨n,hn⟩:=zf l.length;unfold Ur at HC;unfold UN at HA;rw[hn]at HC;obtain⟨c0,_,_,_⟩:=qh h1;have HN:=za hn;clear h1 h2 h3 h4 hl hn hll;have b0:(0:Int)≤(b:Int):=by omega
  go_enter func348,ntmps348
  go_wp2_with (first
    | (go_at_call 346;refine HCk.out.mono ?_;rintro e w' ⟨rfl,rfl⟩)
    | (go_at_call 268;refine HA.out.mono ?_;rintro e w1 ⟨B,a,c,rfl,hi,hp1⟩;have HI1:=za hi;have HP1:=za hp1;clear hi hp1)
    | (go_at_call 367;refine(HC.out _ _ _ _ HI1.out).mono ?_;rintro e w2 ⟨a2,c2,rfl,q1,q2,q3⟩))
  go_ret2;exact⟨a2,c2,by rw[HN.out];rfl,q1,fun g hg=>by rw[HN.out]at hg;have:=q2 g hg;have:=HP1.out.size;omega,HP1.out.trans q3⟩
def V3(f:Nat→Bool):Value:=match uI f 256 with
 | some b => .tuple #[.int .i64 (b:Nat),.int .i64 0]
 | none => .tuple #[.int .i64 0,.int .i64 9]
theorem Azvs8 {P:Prop}(h:P:=by
 clear HNx;go_enter func308,ntmps308
 go_wp2_with (first
   | (go_at_call 346;refine HCk.out.mono ?_;rintro e w' ⟨rfl,rfl⟩)
   | (go_at_call 347;refine HNx2.out.mono ?_;rintro e w' ⟨rfl,rfl⟩))
 go_ret2;exact⟨rfl,rfl⟩):P:=h
theorem zle(h:yK w D p Ls)(hT:xA w):Calls prog 308 #[lkP p,.int .i64 0] w fun e w'=>e=.returned (V3 (neB Ls))∧w=w':=by
  have HCk:=za (V0 h (s:=0) (by omega) (b:=0) (by omega) (by omega));obtain⟨q,many,N,Dl,h1,h2,h3,h4⟩:=h;have HNx:=za (zds h1 hT);clear h1 h2 h3 h4 hT;unfold VT at HNx;unfold V3
  cases hf:uI (neB Ls) 256 with
  | none =>
    rw[hf]at HNx;clear hf;have HNx2:Hid (Calls prog 347 #[mkP p,.int .i64 0] w fun e w'=>e=.returned (.tuple #[.int .i64 0,.bool false])∧w=w'):=HNx;exact Azvs8
  | some b =>
    rw[hf]at HNx;clear hf;have HNx2:Hid (Calls prog 347 #[mkP p,.int .i64 0] w fun e w'=>e=.returned (.tuple #[.int .i64 (b:Nat),.bool true])∧w=w'):=HNx;exact Azvs8
theorem ziL(h:yK w D p Ls){b:Nat}{l:List Nat}(hl:Ls[b]? = some l) :
  Calls prog 309 #[lkP p,.int .i64 b] w fun e w' => ∃ a c,e=.returned (.tuple #[.slice a l.length c,.int .i64 0])∧yw w' a c l∧xp w (.slice a l.length c)∧yK w' D p (Ls.set b [])∧Mod D w w':=by
 obtain⟨hll,hsm,hb,_⟩:=h.small hl;have hbl:b<Ls.length:=by rw[h.len];exact hb
 have HLi:=za (zj7 h hl);have HW:=za h;have HSM:=za hsm;have HL:=za hl;have HBL:=za hbl;obtain⟨n,hn⟩:=zf l.length;rw[hn]at HLi hll;have HN:=za hn;clear h hl hsm hn hbl;have b0:(0:Int)≤(b:Int):=by omega
 have wn:IntKind.i64.wrap (n:Int)=n:=zt _ (by omega);go_enter func309,ntmps309;go_upto_region 3 with(go_at_call 348;refine HLi.out.mono ?_;rintro e w1 ⟨a,c,rfl,hr,hf,hp⟩)
 have HW1:=za (HW.out.pure hp);have HND:Hid (∀ g,(Value.slice a n c).ownBlock=some g → ¬ D g):=za (fun g hg e=>by have:=hf g hg;have:=HW.out.lt e;omega);have HFr:=za hf;have HR:=za hr;have HP:=za hp;clear hr hf hp;go_loopw [18] (fun v wr => ∃ j,v=.int .i64 (j:Nat)∧j≤n∧yK wr D p (Ls.set b (l.drop j))∧yw wr a c l∧Mod D w wr) (fun v _=>n-(intOf v).toNat)
 case atStart =>
  refine⟨0,rfl,yi _,?_,HR.out,Mod.of_pure HP.out⟩;rw[List.drop_zero,set_self HL.out];exact HW1.out
 case round =>
  obtain⟨j,rfl,hj,hw,hr,hm⟩:=hrel;have HWr:=za hw;have HRr:=za hr;have HMr:=za hm;by_cases hlt:j<n
  ·have hlt':(j:Int)<(n:Int):=by omega
   have j0:(0:Int)≤(j:Int):=by omega
   have wj:IntKind.i64.wrap ((j:Int)+1)=(j:Int)+1:=zt _ (by omega);obtain⟨y,hy⟩ : ∃ y,l[j]? = some y:=⟨_,zL (by rw[HN.out];exact hlt)⟩;have hdr:l.drop j=y::l.drop (j+1):=by
    have hjl:j<l.length:=by rw[HN.out];exact hlt
    rw[jQ hjl];rw[zL hjl]at hy;injection hy with hy
    rw[hy]
   obtain⟨ad,had,z0⟩:=VC (qB hr) hy;have hRe:=zbF hw (s:=y) (b:=b) (l:=l.drop j) (HSM.out y (yl hy)) (yv HBL.out) (by rw[hdr];exact yE);rw[List.set_set,hdr,List.erase_cons_head]at hRe;have HRe:=za hRe;subst had;clear hy hw hr hm hdr hRe
   go_wp2_with (go_at_call 302;refine HRe.out.mono ?_;rintro e w5 ⟨rfl,q1,q2⟩)
   go_roundw
   case rel=>exact⟨j+1,by go_num,hlt,q1,zy HRr.out q2 (by rw[HN.out];exact HND.out),HMr.out.trans q2⟩
   case measure=>simp[intOf];omega
  ·have e:n=j:=by omega
   subst e;have HWe:Hid (yK wr D p (Ls.set b [])):=za (by have:=hw;rw[Zw (by rw[HN.out];exact zI _)]at this;exact this);clear hw hr hm hj hlt;go_wp2;go_ret2;exact⟨a,c,by rw[HN.out];rfl,HRr.out,by rw[HN.out];exact HFr.out,HWe.out,HMr.out⟩
end
end
section
open Go.RowKit Go.Shelf
attribute [local go_sem] Oper.semAt_some
abbrev jR(b:Nat):Value := .pointer (some ⟨b,0,none⟩)
def Ctr(w:World)(b:Nat)(n:Nat):Prop:=w.heap[b]? = some (.cells #[.bool true,.int .u64 n] 274 (0,0))
def Ks(w:World)(v:Value):Prop:=v=.pointer none ∨ ∃ b,v=jR b∧w.heap[b]? = some (.cells #[.bool false,.int .u64 0] 274 (0,0))
theorem Ks.pure{w w':World}{v:Value}(h:Ks w v)(hp:zc w w'):Ks w' v:=by
 rcases h with h | ⟨b,h1,h2⟩
 ·exact .inl h
 ·exact .inr ⟨b,h1,hp.heap (fun h=>h) h2⟩
theorem Ctr.pure{w w':World}{b n:Nat}(h:Ctr w b n)(hp:zc w w'):Ctr w' b n:=hp.heap (fun h=>h) h
theorem zfu(n:Nat)(w:World):Calls prog 102 #[.int .u64 n] w fun e w'=>e=.returned (jR w.heap.size)∧Ctr w' w.heap.size n∧zc w w'∧w.heap.size<w'.heap.size:=by
 go_enter func102,ntmps102;go_wp2;go_ret;exact⟨rfl,zj rfl,(Mod.refl _ w).alloc _,by simp⟩
theorem zbC{w:World}{b n:Nat}(h:Ctr w b n):Calls prog 189 #[jR b] w fun e w'=>e=.returned (.bool false)∧w=w':=by
 unfold Ctr at h;obtain⟨h_0,h_1,h_f,h_l,H_h⟩:=cr2 h;clear h;go_enter func189,ntmps189;go_wp2;go_ret;exact⟨rfl,rfl⟩
theorem zck{w:World}{b n:Nat}(h:Ctr w b n):Calls prog 121 #[jR b] w fun e w'=>e=.returned (.int .u64 n)∧w=w':=by
 have HZ:=za (zbC h);unfold Ctr at h;obtain⟨h_0,h_1,h_f,h_l,H_h⟩:=cr2 h;clear h;go_enter func121,ntmps121
 go_wp2_with (go_at_call 189;refine HZ.out.mono ?_;rintro e w' ⟨rfl,rfl⟩)
 go_ret;exact⟨rfl,rfl⟩
def nxV(n:Nat):Nat × Nat:=if n=18446744073709551615 then(0,7)else(n+1,0)
def nxS(n:Nat):Nat:=if n=18446744073709551615 then n else n+1
def JJ(w:World)(b n:Nat)(e:Ending)(w':World):Prop :=
 e=.returned (.tuple #[.int .u64 ((nxV n).1:Nat),.int .i64 ((nxV n).2:Nat)])∧Ctr w' b (nxS n)∧Mod (fun k=>k=b) w w'
theorem ziZ{w:World}{b n:Nat}(h:Ctr w b n)(hn:n<18446744073709551616):Calls prog 127 #[jR b] w (JJ w b n):=by
 have HZ:=za (zbC h);unfold Ctr at h;obtain⟨h_0,h_1,h_f,h_l,H_h⟩:=cr2 h;clear h;unfold JJ nxV nxS;by_cases hc:n=18446744073709551615
 ·rw[zk hc,zk hc];have d1:((n:Int)==18446744073709551615)=true:=by simp;omega
  clear hc hn;go_enter func127,ntmps127
  go_wp2_with (go_at_call 189;refine HZ.out.mono ?_;rintro e w' ⟨rfl,rfl⟩)
  go_ret2;exact⟨rfl,H_h.out,Mod.refl _ _⟩
 ·rw[zh hc,zh hc];have d1:((n:Int)==18446744073709551615)=false:=by simp;omega
  have wn:IntKind.u64.wrap ((n:Int)+1)=(n:Int)+1:=by
   have:=kr (n+1) (by omega);rw[show(((n+1:Nat)):Int)=(n:Int)+1 by omega]at this;exact this
  have hc2:(n:Int)≠18446744073709551615:=by omega
  clear hc hn;go_enter func127,ntmps127
  go_wp2_with (go_at_call 189;refine HZ.out.mono ?_;rintro e w' ⟨rfl,rfl⟩)
  go_ret2;refine⟨by simp,?_,Mod.set1 _ _ _⟩;have:=zW (j:=1) (v := .int .u64 ((n:Int)+1)) H_h.out;simpa[Ctr]using this
def Kg(w:World)(v:Value)(L:List (Option Ent)):Prop := ∀ W,zc w W→Calls prog 230 #[v] W (zga W L)
theorem Kg.pure{w w':World}{v:Value}{L:List (Option Ent)}(h:Kg w v L)(hp:zc w w'):Kg w' v L:=fun W hW=>h W (hp.trans hW)
def KC(last:Int):List (Nat × Ent)→Bool
 | []=>true
 | g::r=>if g.2.birth≤last then false else KC g.2.birth r
def zau(pre:List (Nat × Ent)):Int:=pre.foldl (fun _ g=>g.2.birth) 0
structure U7(w:World)(pre:List xJ)(W:World):Prop where
 r2:W.heap[w.heap.size]? = some (.cells #[.bool false] 4 (0,0))
 r3:W.heap[w.heap.size+1]? = some (.cells #[.int .u64 (zau (pre.map uJ))] 27 (0,0))
 pu:zc w W
 so : ∀ r,KC 0 (pre.map uJ++r)=KC (zau (pre.map uJ)) r
theorem U7.quiet{w:World}{pre:List xJ}{A B:World}(h:U7 w pre A){N:Nat}(hN:w.heap.size≤N)(hq:zB N A B):U7 w pre B:=⟨hq.cells h.r2,hq.cells h.r3,hq.mod h.pu hN,h.so⟩
def zhy(G:List (Nat × Ent))(b:Int):Nat:=G.countP (fun g=>decide (g.2.birth<b))
structure J7(w:World)(b:Int)(b6:Nat)(pre:List xJ)(W:World):Prop where
 r3:W.heap[w.heap.size]? = some (.cells #[.int .u64 b] 27 (0,0))
 r6:W.heap[b6]? = some (.cells #[.int .i64 (zhy (pre.map uJ) b)] 3 (0,0))
 pu:zc w W
 w6:w.heap.size<b6
theorem J7.quiet{w:World}{b:Int}{b6:Nat}{pre:List xJ}{A B:World}(h:J7 w b b6 pre A){N:Nat}(hN:w.heap.size≤N)(hq:zB N A B):J7 w b b6 pre B:=⟨hq.cells h.r3,hq.cells h.r6,hq.mod h.pu hN,h.w6⟩
def ze5(fr up:Int)(o:Option (Nat × Int))(g:Nat × Ent):Option (Nat × Int) :=
 if fr≤g.2.birth then(if g.2.birth≤up then(match o with
  | none=>some (g.1,g.2.birth)
  | some x=>if g.2.birth<x.2 then some (g.1,g.2.birth)else some x)else o)else o
def U3(fr up:Int)(G:List (Nat × Ent)):Option (Nat × Int):=G.foldl (ze5 fr up) none
def zho(o:Option (Nat × Int)):Nat:=match o with | some x=>x.1 | none=>0
def zf5(o:Option (Nat × Int)):Int:=match o with | some x=>x.2 | none=>0
structure KH(w:World)(fr up:Int)(b8:Nat)(pre:List xJ)(W:World):Prop where
 r4:W.heap[w.heap.size]? = some (.cells #[.int .u64 fr] 27 (0,0))
 r5:W.heap[w.heap.size+1]? = some (.cells #[.int .u64 up] 27 (0,0))
 r8:W.heap[b8]? = some (.cells #[.int .u32 (zho (U3 fr up (pre.map uJ)):Nat)] 143 (0,0))
 r9:W.heap[b8+1]? = some (.cells #[.int .u64 (zf5 (U3 fr up (pre.map uJ)))] 27 (0,0))
 r10:W.heap[b8+1+1]? = some (.cells #[.bool (U3 fr up (pre.map uJ)).isSome] 4 (0,0))
 pu:zc w W
 w8:w.heap.size+1<b8
theorem KH.quiet{w:World}{fr up:Int}{b8:Nat}{pre:List xJ}{A B:World}(h:KH w fr up b8 pre A){N:Nat}(hN:w.heap.size≤N)(hq:zB N A B):KH w fr up b8 pre B:=⟨hq.cells h.r4,hq.cells h.r5,hq.cells h.r8,hq.cells h.r9,hq.cells h.r10,hq.mod h.pu hN,h.w8⟩
end
section
open Go.RowKit
theorem zcD{w:World}{a:Option Addr}{n c:Nat}(l:List UInt8)(h:zo w (.slice a n c) 1 (zQ l)) :
  (convert 32 9 (.slice a n c)).run prog w=.ok (.string ⟨l.toArray⟩) w:=by
 obtain⟨a',n',c',he,hl,_,h0,hc⟩:=h
 cases he
 rw[kG,jW]at hl;subst hl
 cases a with
 | none =>
  have:=h0 rfl;have hn:l=[]:=jU this;subst hn;rw[run_convert_bytes_string w _ _ _ none (List.length (α:=UInt8) []) c underlying32 underlying5 underlying9]
  rfl
 | some ad =>
  exact run_convert_bytes_back w _ _ _ ad c l underlying32 underlying5 underlying9 (fun j hj=>hc ad rfl j _ (by simp[zQ,hj]))
end
end Go.Proofs.YtdohbogbnheakaaGreatDoor
