/- Lemmas and contracts of functions. No condition. -/
import Derived.StillTailTactics
import Derived.Test.YtifbnponicgplaaGreatDoorJPfBoth424
import Derived.Maps.OwnOps
import Derived.Maps.OwnSet
import Derived.Maps.Views
import Derived.RegionTactic
import Derived.Deep.CutBlock
import Derived.Shelf.SlLaysF0
import Derived.WideKeyEntry
namespace Go.Proofs.YtifbnponicgplaaGreatDoor
open _root_.Go.Proofs.Tryz
set_option maxRecDepth 100000
set_option maxHeartbeats 20000000
set_option linter.all false
section
open Go.RowKit
@[go_sem] theorem zmf (w : World) (a : Option Addr) (n c : Nat) : (binOp .eql 308 (.slice a n c) (.slice none 0 0)).run prog w=.ok (.bool a.isNone) w :=
 Lib.run_eql_slice_nil w _ _ a n c 0 0 underlying308
abbrev lkP(p:Nat):Value := .pointer (some ⟨p,0,none⟩)
theorem XY(n:Nat)(h:n<4294967296):IntKind.u32.wrap (n:Int)=n:=by simp[IntKind.wrap,IntKind.signed,IntKind.bits];omega
section
variable{w w':World}{p gF gL cF cL N:Nat}{Ls:List (List Nat)}{F:List Nd}
theorem XH(h:xf w p gF gL cF cL N Ls F):Calls prog 302 #[lkP p] w fun e w'=>e=.returned (.bool false)∧w=w':=by
 have hb:=h.box;clear h;obtain⟨hb_0,hb_1,hb_2,hb_f,hb_l,H_hb⟩:=cr3 hb;clear hb;go_enter func302,ntmps302;go_wp2;go_ret;exact⟨rfl,rfl⟩
theorem Azmqn {P:Prop}(h:P:=by
 go_wp2_with (go_at_call 302;refine HN.out.mono ?_;rintro e w' ⟨rfl,rfl⟩)
 go_ret;exact⟨rfl,rfl⟩):P:=h
theorem Vn(h:xf w p gF gL cF cL N Ls F){k:Nat}(hk:k<Ls.length):Calls prog 283 #[lkP p,.int .i64 k] w fun e w'=>e=.returned (.int .i64 0)∧w=w':=by
 have hb:=h.box;have HN:=za (XH h);have hm:=h.hm;obtain⟨H,hH⟩:=zf Ls.length;rw[hH]at hb hm hk;clear h hH;obtain⟨hb_0,hb_1,hb_2,hb_f,hb_l,H_hb⟩:=cr3 hb;clear hb;have d1:decide ((k:Int)<0)=false:=zU (by omega);have d2:decide ((H:Int)≤(k:Int))=false:=zU (by omega);have d3:decide (H≤k)=false:=zU (by omega);have wH:IntKind.i64.wrap (H:Int)=H:=zt _ (by omega);go_enter func283,ntmps283;exact Azmqn
theorem Az9fb {P:Prop}(h:P:=by
 have wn:IntKind.i64.wrap (n:Int)=n:=zt _ (by omega);go_enter func278,ntmps278;exact Azmqn):P:=h
theorem zaj(h:xf w p gF gL cF cL N Ls F){n:Nat}(hn:n<N):Calls prog 278 #[lkP p,.int .u32 n] w fun e w'=>e=.returned (.int .i64 0)∧w=w':=by
 have hb:=h.box;have HN:=za (XH h);have hm:=h.nm;clear h;obtain⟨hb_0,hb_1,hb_2,hb_f,hb_l,H_hb⟩:=cr3 hb;clear hb;have d2:decide ((N:Int)≤(n:Int))=false:=zU (by omega);have d3:decide (N≤n)=false:=zU (by omega);exact Az9fb
theorem ziH(h:xf w p gF gL cF cL N Ls F){n:Nat}(hn:N≤n)(h32:n≤4294967295):Calls prog 278 #[lkP p,.int .u32 n] w fun e w'=>e=.returned (.int .i64 2)∧w=w':=by
 have hb:=h.box;have HN:=za (XH h);clear h;obtain⟨hb_0,hb_1,hb_2,hb_f,hb_l,H_hb⟩:=cr3 hb;clear hb;have d2:decide ((N:Int)≤(n:Int))=true:=zQ (by omega);have d3:decide (N≤n)=true:=zQ (by omega);exact Az9fb
def inE(N:Nat)(F:List Nd)(n:Nat):Int:=if n<N then(if (nd F n).ow=0 then 9 else 0)else 2
theorem Azyu3 {P:Prop}(h:P:=by
 go_enter func238,ntmps238
 go_wp2_with (go_at_call 278;refine HN.out.mono ?_;rintro e w' ⟨rfl,rfl⟩)
 go_ret;exact⟨rfl,rfl⟩):P:=h
theorem za4(h:xf w p gF gL cF cL N Ls F){n:Nat}(h32:n≤4294967295):Calls prog 238 #[lkP p,.int .u32 n] w fun e w'=>e=.returned (.int .i64 (inE N F n))∧w=w':=by
 have hb:=h.box;by_cases hn:n<N
 ·have HN:=za (zaj h hn);have hlt:n<F.length:=by rw[h.ok.len];omega
  obtain⟨c0,c1,c2⟩:=h.at_ hlt;unfold inE;rw[zj hn];have hl:F.length≤4198400:=by rw[h.ok.len];have:=h.nm;have:=h.hm;omega
  have d1:decide (n<F.length)=true:=zQ hlt;have hlt':(n:Int)<(F.length:Int):=by omega
  have hn0:(0:Int)≤(n:Int):=by omega
  clear h c0 c1;generalize(nd F n).ow=o at *;obtain⟨hb_0,hb_1,hb_2,hb_f,hb_l,H_hb⟩:=cr3 hb;clear hb;by_cases ho:o=0
  ·subst ho;exact Azyu3
  ·rw[zh ho];have e1:((o:Int)==0)=false:=by simp;omega
   exact Azyu3
 ·have HN:=za (ziH h (by omega) h32);unfold inE;rw[zh hn];clear h hb;exact Azyu3
theorem J7(h:xf w p gF gL cF cL N Ls F){k:Nat}(hk:k≤4096):Calls prog 203 #[.int .i64 k,lkP p] w fun e w'=>e=.returned (.int .u32 (N+k:Nat))∧w=w':=by
 have hb:=h.box;have hm:=h.nm;clear h;obtain⟨hb_0,hb_1,hb_2,hb_f,hb_l,H_hb⟩:=cr3 hb;clear hb;have ws:IntKind.i64.wrap ((N:Int)+(k:Int))=(N:Int)+(k:Int):=zt _ (by omega);have wu:IntKind.u32.wrap ((N:Int)+(k:Int))=(N:Int)+(k:Int):=by simp[IntKind.wrap,IntKind.signed,IntKind.bits];omega
 have wk:IntKind.i64.wrap (k:Int)=k:=zt _ (by omega);go_enter func203,ntmps203;go_wp2;go_ret;exact⟨by go_num,rfl⟩
end
theorem Zy{w:World}{gF:Nat}{F:List Nd}{T:TypeId}(h:w.heap[gF]? = some (.cells (xg F).toArray T (0,0))){i j:Nat}{u:Value}{m:Nd}(hi:i<F.length)(hj:j<3)(he:(ndC (nd F i)).set j u=ndC m) :
  (w.setCell ⟨gF,i*3+j,none⟩ u).heap[gF]? = some (.cells (xg (F.set i m)).toArray T (0,0)):=by
 rw[zX w gF _ _ T u h]
 congr 2
 rw[Yh,zbn hi hj he]
theorem zct{F:List Nd}{i:Nat}(hi:i<F.length)(m:Nd):nd (F.set i m) i=m:=by rw[ZC hi,zj rfl]
theorem Jd{w:World}{gF:Nat}{F:List Nd}{T:TypeId}(h:w.heap[gF]? = some (.cells (xg F).toArray T (0,0))){i:Nat}(hi:i<F.length)(a b c:Nat) :
  (((w.setCell ⟨gF,i*3,none⟩ (.int .u32 a)).setCell ⟨gF,i*3+1,none⟩ (.int .u32 b)).setCell ⟨gF,i*3+2,none⟩ (.int .u32 c)).heap[gF]? = some (.cells (xg (F.set i ⟨a,b,c⟩)).toArray T (0,0)):=by
 have h1:=Zy h (j:=0) (u := .int .u32 a) (m:=⟨a,(nd F i).nx,(nd F i).ow⟩) hi (by decide) rfl;have h2:=Zy h1 (i:=i) (j:=1) (u := .int .u32 b) (m:=⟨a,b,(nd F i).ow⟩) (by simpa using hi) (by decide) (by rw[zct hi];rfl);have h3:=Zy h2 (i:=i) (j:=2) (u := .int .u32 c) (m:=⟨a,b,c⟩) (by simpa using hi) (by decide) (by rw[zct (by simpa using hi)];rfl);simpa using h3
theorem kM{X:World}{b o b2 o2:Nat}{u v:Value}(h:X.cell? ⟨b,o,none⟩=some v)(hne:b2≠b∨o2≠o):(X.setCell ⟨b2,o2,none⟩ u).cell? ⟨b,o,none⟩=some v:=by
 rw[Yg (h:=fun e=>by injection e with e1 e2;rcases hne with h | h<;>contradiction)];exact h
theorem Zq{w:World}{gF:Nat}{F:List Nd}{T:TypeId}(h:w.heap[gF]? = some (.cells (xg F).toArray T (0,0))){i:Nat}(hi:i<F.length) :
  w.cell? ⟨gF,i*3,none⟩=some (.int .u32 (nd F i).pv)∧w.cell? ⟨gF,i*3+1,none⟩=some (.int .u32 (nd F i).nx)∧w.cell? ⟨gF,i*3+2,none⟩=some (.int .u32 (nd F i).ow):=by
 have g:=fun j=>zi w gF j _ _ (0,0) h
 exact Azjx4
theorem zif{w:World}{gF:Nat}{F:List Nd}{T:TypeId}{n o b kk:Nat}(hb:(nd F o).pv=b)(hk:(nd F o).ow=kk)(h:w.heap[gF]? = some (.cells (xg (F.set n ⟨b,o,kk⟩)).toArray T (0,0)))(hbF:b<F.length)(hoF:o<F.length) :
  ((w.setCell ⟨gF,b*3+1,none⟩ (.int .u32 n)).setCell ⟨gF,o*3,none⟩ (.int .u32 n)).heap[gF]? = some (.cells (xg (uZ F n o)).toArray T (0,0)):=by
 subst hb hk;have h1:=Zy h (i:=(nd F o).pv) (j:=1) (u := .int .u32 n) (m:=⟨(nd (F.set n ⟨(nd F o).pv,o,(nd F o).ow⟩) (nd F o).pv).pv,n,(nd (F.set n ⟨(nd F o).pv,o,(nd F o).ow⟩) (nd F o).pv).ow⟩) (by simpa using hbF) (by decide) rfl;exact Zy h1 (i:=o) (j:=0) (u := .int .u32 n) (by simpa using hoF) (by decide) rfl
section
variable{w w':World}{p gF gL cF cL N:Nat}{Ls:List (List Nat)}{F:List Nd}
theorem zjk(h:xf w p gF gL cF cL N Ls F){n o k:Nat}(hn:n<N)(ho:o<F.length)(how:(nd F o).ow=k+1)(hb:(nd F o).pv<F.length)(hbn:(nd F o).pv≠n)(hon:o≠n){l:List Nat}(hl:Ls[k]? = some l) :
  Calls prog 303 #[lkP p,.int .u32 n,.int .u32 o] w fun e w'=>e=.returned (.tuple #[])∧w'.heap[gF]? = some (.cells (xg (uZ F n o)).toArray 315 (0,0))∧w'.heap[gL]? = some (.cells ((uc Ls).set k (.int .i64 ((l.length+1:Nat):Int))).toArray 3 (0,0))∧Mod (fun b=>b=gF∨b=gL) w w':=by
 have hbx:=h.box;have hF:F.length≤4198400:=by rw[h.ok.len];have:=h.nm;have:=h.hm;omega
 have hnF:n<F.length:=by rw[h.ok.len];omega
 obtain⟨c0,c1,c2⟩:=h.at_ ho;rw[how]at c2;obtain⟨q0,q1,q2⟩:=h.at_ hnF;obtain⟨f1,f2,f3⟩:=h.free;obtain⟨ne1,ne2,ne3⟩:=h.ne;have HFL:=za h.fld;have HLN:=za h.len;have hk2:k<Ls.length:=(zE.1 hl).1;have hkb:k<4096:=by have:=h.hm;omega
 have HNX:=za (fun(X:World) (hX:X.heap[gL]? = some (.cells (uc Ls).toArray 3 (0,0)))=>(show X.cell? ⟨gL,k,none⟩=some (.int .i64 (l.length:Nat)) by rw[zi X gL k _ _ (0,0) hX,vK];exact KJ hl));have hll:l.length≤N:=h.ok.short hl;have hN:=h.nm;obtain⟨b,hbe⟩:=zf ((nd F o).pv);rw[hbe]at c0 hb hbn;obtain⟨FL,hFL⟩:=zf F.length;rw[hFL]at hbx hF hnF hb ho;have HBX:=za hbx;clear h hbx;have hbx:=HBX.out;have dn:decide (n<FL)=true:=zQ hnF;have do':decide (o<FL)=true:=zQ ho;have db:decide (b<FL)=true:=zQ hb;have HBE:=za hbe;have HFLe:=za hFL;have HOW:=za how;clear hbe hFL how;obtain⟨hbx_0,hbx_1,hbx_2,hbx_f,hbx_l,H_hbx⟩:=cr3 hbx;clear hbx;have g0:=f1 (n*3);have g1:=f1 (n*3+1);have g2:=f1 (n*3+2);obtain⟨kk,hkk⟩:=zf (k+1);rw[hkk]at c2 HOW;have wk:IntKind.u32.wrap ((kk:Int)-1)=(k:Int):=by rw[← hkk,show((k+1:Nat):Int)-1=(k:Int) by omega];exact XY k (by omega)
 clear hkk;go_enter func303,ntmps303;go_upto_region 1 with fail
 go_region_held3 (fun w'=>w'.cell? ⟨p,0,none⟩=some (.slice (some ⟨gF,0,none⟩) FL cF)∧w'.cell? ⟨gF,o*3+2,none⟩=some (.int .u32 kk))
  (first | exact⟨hbx_0,c2⟩ | exact⟨kM (kM (kM hbx_0 (.inl ne1.symm)) (.inl ne1.symm)) (.inl ne1.symm),kM (kM (kM c2 (.inr (by omega))) (.inr (by omega))) (.inr (by omega))⟩) (fail)
 have hm1:Mod (fun b=>b=gF) w (((w.setCell ⟨gF,n*3,none⟩ (.int .u32 b)).setCell ⟨gF,n*3+1,none⟩ (.int .u32 o)).setCell ⟨gF,n*3+2,none⟩ (.int .u32 kk)).drew :=
  ((((Mod.refl (fun b=>b=gF) w).setCell (p:=⟨gF,n*3,none⟩) (fun _=>rfl) _).setCell (p:=⟨gF,n*3+1,none⟩) (fun _=>rfl) _).setCell (p:=⟨gF,n*3+2,none⟩) (fun _=>rfl) _).drew
 have hf1:(((w.setCell ⟨gF,n*3,none⟩ (.int .u32 b)).setCell ⟨gF,n*3+1,none⟩ (.int .u32 o)).setCell ⟨gF,n*3+2,none⟩ (.int .u32 kk)).drew.heap[gF]? = _:=Jd HFL.out (i:=n) (by rw[HFLe.out];exact hnF) b o kk;generalize(((w.setCell ⟨gF,n*3,none⟩ (.int .u32 b)).setCell ⟨gF,n*3+1,none⟩ (.int .u32 o)).setCell ⟨gF,n*3+2,none⟩ (.int .u32 kk)).drew=X1 at hm1 hf1 ⊢;have hbx1:=hm1.heap (fun e=>ne1 e) HBX.out;have hln1:=hm1.heap (fun e=>ne3 e.symm) HLN.out;clear hbx_0 hbx_1 hbx_2 hbx_f hbx_l;clear H_hbx c0 c1 c2 q0 q1 q2 f1 f2 f3 g0 g1 g2;have HF1:=za hf1;have HL1:=za hln1;have HM1:=za hm1;have HB1:=za hbx1;obtain⟨r0,r1,r2⟩:=Zq hf1 (i:=b) (by simp;rw[HFLe.out];exact hb);obtain⟨s0,s1,s2⟩:=Zq hf1 (i:=o) (by simp;rw[HFLe.out];exact ho);have g0:=yS X1 gF (b*3+1) _ _ hf1;have g1:=yS X1 gF (o*3) _ _ hf1;have hX:gF<X1.heap.size:=zm hf1;clear hf1 hln1 hm1;obtain⟨hbx1_0,hbx1_1,hbx1_2,hbx1_f,hbx1_l,H_hbx1⟩:=cr3 hbx1;clear hbx1;go_upto_region 2 with fail
 go_region_held3 (fun w'=>w'.cell? ⟨p,0,none⟩=some (.slice (some ⟨gF,0,none⟩) FL cF))
  (first | exact hbx1_0 | exact kM hbx1_0 (.inl ne1.symm) | exact kM (kM hbx1_0 (.inl ne1.symm)) (.inl ne1.symm)) (fail)
 have hm2:Mod (fun b=>b=gF) X1 ((X1.setCell ⟨gF,b*3+1,none⟩ (.int .u32 n)).setCell ⟨gF,o*3,none⟩ (.int .u32 n)).drew :=
  (((Mod.refl (fun b=>b=gF) X1).setCell (p:=⟨gF,b*3+1,none⟩) (fun _=>rfl) _).setCell (p:=⟨gF,o*3,none⟩) (fun _=>rfl) _).drew
 have hf2:((X1.setCell ⟨gF,b*3+1,none⟩ (.int .u32 n)).setCell ⟨gF,o*3,none⟩ (.int .u32 n)).drew.heap[gF]? = _:=zif HBE.out HOW.out HF1.out (by rw[HFLe.out];exact hb) (by rw[HFLe.out];exact ho);generalize((X1.setCell ⟨gF,b*3+1,none⟩ (.int .u32 n)).setCell ⟨gF,o*3,none⟩ (.int .u32 n)).drew=X2 at hm2 hf2 ⊢;have hbx2:=hm2.heap (fun e=>ne1 e) HB1.out;have hln2:=hm2.heap (fun e=>ne3 e.symm) HL1.out;have hl9:=HNX.out _ hln2;have hput:=(zbj (F:=F) (n:=n) (o:=o) (by rw[HFLe.out];exact hnF) (by rw[HFLe.out];exact ho) (by rw[HBE.out,HFLe.out];exact hb) (by rw[HBE.out];exact hbn) hon n).2.2;rw[zj rfl,HOW.out]at hput;obtain⟨q0,q1,q2⟩:=Zq hf2 (i:=n) (by rw[Jk,HFLe.out];exact hnF);rw[hput]at q2;clear hbx1_0 hbx1_1 hbx1_2 hbx1_f hbx1_l;clear H_hbx1 r0 r1 r2 s0 s1 s2 g0 g1 hput q0 q1 hX;have g0:=yS X2 gL k _ _ hln2;have HM:=za ((HM1.out.trans hm2).mono (fun _ _ h=>Or.inl h):Mod (fun b=>b=gF∨b=gL) w X2);have HF2:=za hf2;have HL2:=za hln2;have hX2:gL<X2.heap.size:=zm hln2;clear hm2 hf2 hln2;have dk:decide (k<Ls.length)=true:=zQ hk2;have wl:IntKind.i64.wrap ((l.length:Int)+1)=(l.length:Int)+1:=zt _ (by omega);obtain⟨hbx2_0,hbx2_1,hbx2_2,hbx2_f,hbx2_l,H_hbx2⟩:=cr3 hbx2;clear hbx2;go_upto_region 3 with fail
 go_still_tail 17,(by kernel_rfl)
 go_wp2;have e1:(X2.setCell ⟨gL,k,none⟩ (.int .i64 ((l.length:Int)+1))).heap[gF]? = _:=xp HF2.out ne3;have e2:(X2.setCell ⟨gL,k,none⟩ (.int .i64 ((l.length:Int)+1))).heap[gL]? = _:=zX X2 gL k _ _ (.int .i64 ((l.length:Int)+1)) HL2.out;rw[Yh]at e2;have e3:=HM.out.setCell (p:=⟨gL,k,none⟩) (fun _ => .inr rfl) (.int .i64 ((l.length:Int)+1))
 go_end0
 exact⟨rfl,e1,e2,e3.drew⟩
end
end
section
open Go.RowKit Go.Shelf
def VJ(l:List Int):List Value:=l.map (Value.int .i64)
theorem zcy{w:World}{a:Option Addr}{c:Nat}{l:List Int}{most:Int}(h:zr w (.slice a l.length c) 1 (VJ l))(hl : ∀ z∈l,0≤z∧z≤most)(hn:l.length≤8) :
  Calls prog 236 #[.int .i64 most,.slice a l.length c] w fun e w'=>e=.returned (.int .i64 0)∧w=w':=by
 have HR:=za h;have HL:=za hl;clear h hl;obtain⟨n,hn'⟩ : ∃ n,l.length=n:=⟨_,rfl⟩;rw[hn']at HR hn ⊢;have HN:=za hn';clear hn';have wn:IntKind.i64.wrap (n:Int)=n:=zt _ (by omega);go_enter func236,ntmps236;go_upto_region 2 with fail
 go_loopw [9] (fun v9 wr => ∃ i,v9=.int .i64 (i:Nat)∧i≤n∧wr=w) (fun v9 _=>n-(intOf v9).toNat)
 case atStart=>exact⟨0,rfl,yq _,rfl⟩
 case round =>
  obtain⟨i,rfl,hi,rfl⟩:=hrel;by_cases hlt:i<n
  ·have hlt':(i:Int)<(n:Int):=by omega
   obtain⟨z,hz⟩ : ∃ z,l[i]? = some z:=⟨_,zO (by have:=HN.out;omega)⟩;obtain⟨h1,h2⟩:=HL.out z (ym hz);obtain⟨a',n',c',e,_,_,h0,hc⟩:=HR.out
   cases e
   obtain⟨ad,rfl⟩ : ∃ ad,a=some ad:=by
    cases a with
    | none=>have:=h0 rfl;omega
    | some ad=>exact⟨ad,rfl⟩
   have c0:=hc ad rfl i (.int .i64 z) (by unfold VJ;rw[yz,hz];rfl);clear hc h0 hz;have wi:IntKind.i64.wrap ((i:Int)+1)=(i:Int)+1:=zt _ (by omega);have d1:decide (z<0)=false:=by simp;omega
   have d2:decide (most<z)=false:=by simp;omega
   go_wp2;go_roundw
   case rel=>exact⟨i+1,by go_num,hlt,trivial⟩
   case measure=>simp[intOf];omega
  ·have hlt':(n:Int)≤(i:Int):=by omega
   go_wp2;go_ret;exact⟨rfl,rfl⟩
theorem zaz{g live tombs:Nat}(hg:Pow g)(h:live+tombs≤8*g)(w:World):Calls prog 186 #[.int .i64 g,.int .i64 live,.int .i64 tombs] w fun e w'=>e=.returned (.int .i64 0)∧zb w w':=by
  have hg1:=hg.le;have HV:=za (fun W=>Qt g W hg);have w8:IntKind.i64.wrap ((g:Int)*8)=(g:Int)*8:=zt _ (by omega);have wl:IntKind.i64.wrap ((live:Int)+(tombs:Int))=(live:Int)+(tombs:Int):=zt _ (by omega);have h1:=zk (w:=w) (o := .cells #[.int .i64 live,.int .i64 tombs] 3 (0,0)) rfl;have hp1:zb w (w.alloc (.cells #[.int .i64 live,.int .i64 tombs] 3)):=(Mod.refl _ w).alloc _;have HW1:=za (zcy (a:=some ⟨w.heap.size,0,none⟩) (c:=2) (l:=[(live:Int),(tombs:Int)]) (most:=(g:Int)*8) (zr.of_block 2 2 1 h1 (by rfl) (by simp[VJ,Value.oneCell'])) (by simp;omega) (by simp));have HP1:=za hp1;clear h1 hp1 hg;simp only[List.length_cons,List.length_nil,Nat.zero_add,Nat.reduceAdd]at HW1;go_enter func186,ntmps186;go_upto_region 5 with(first
    | (go_at_call 158;refine(HV.out _).mono ?_;rintro e w' ⟨rfl,rfl⟩)
    | (go_at_call 236;refine HW1.out.mono ?_;rintro e w' ⟨rfl,rfl⟩))
  generalize w.alloc (.cells #[.int .i64 live,.int .i64 tombs] 3)=w1 at *;have h2:=zk (w:=w1) (o := .cells #[.int .i64 ((live:Int)+(tombs:Int))] 3 (0,0)) rfl;have HW2:=za (zcy (a:=some ⟨w1.heap.size,0,none⟩) (c:=1) (l:=[(live:Int)+(tombs:Int)]) (most:=(g:Int)*8) (zr.of_block 1 1 1 h2 (by rfl) (by simp[VJ,Value.oneCell'])) (by simp;omega) (by simp));clear h2 HW1;simp only[List.length_cons,List.length_nil,Nat.zero_add,Nat.reduceAdd]at HW2
  go_wp2_with (go_at_call 236;refine HW2.out.mono ?_;rintro e w' ⟨rfl,rfl⟩)
  go_ret;exact⟨rfl,HP1.out.alloc _⟩
theorem zle{g:Nat}(hg:Pow g)(w:World):Calls prog 244 #[.int .i64 g] w fun e w'=>e=.returned (.int .i64 (7*(g:Int)))∧w=w':=by
 have hg1:=hg.le;have w7:IntKind.i64.wrap (7*(g:Int))=7*(g:Int):=zt _ (by omega);clear hg;go_enter func244,ntmps244;go_wp2;go_ret;exact⟨rfl,rfl⟩
theorem jM{w X Y:World}{b6:Nat}{u0 u1 v0 v1:Value}{T:TypeId}(h6:X.heap[b6]? = some (.cells #[u0,u1] T (0,0)))(hp:zb w X)(hb:w.heap.size≤b6)(hY:(X.setCell ⟨b6,0,none⟩ v0).setCell ⟨b6,1,none⟩ v1=Y):zb w Y∧Y.cell? ⟨b6,0,none⟩=some v0∧Y.cell? ⟨b6,1,none⟩=some v1:=by
 have m2:=zc3 (v0:=v0) (v1:=v1) h6;have hmm:Mod (fun i=>i=b6) X ((X.setCell ⟨b6,0,none⟩ v0).setCell ⟨b6,1,none⟩ v1):=Mod.set2 b6 0 1 _ _;rw[hY]at m2 hmm;exact⟨hp.then hmm (fun i hi e=>by omega),zi _ b6 0 _ _ _ m2,zi _ b6 1 _ _ _ m2⟩
def jE(g live tombs:Nat):Option (Nat × Bool) :=
 if live+tombs<7*g then some (g,false)else if 2*live≤7*g then some (g,true)else if g<1048576 then some (2*g,true)else if live<7*g then some (g,true)else none
def zds(o:Option (Nat × Bool)):Value:=match o with
 | some x => .tuple #[.agg #[.int .i64 (x.1:Nat),.bool x.2],.int .i64 0]
 | none => .tuple #[.agg #[.int .i64 0,.bool false],.int .i64 7]
theorem Azaoa {P:Prop}(h:P:=by
 go_wp2;obtain⟨f1,x0,x1⟩:=jM (v0 := .int .i64 g) (v1 := .bool true) H_h6b.out HP2.out hb6 rfl;obtain⟨Y,hY⟩:=zf ((wc.setCell ⟨b6,0,none⟩ (.int .i64 g)).setCell ⟨b6,1,none⟩ (.bool true));rw[hY]at f1 x0 x1 ⊢;exact zR (v := .tuple #[.agg #[.int .i64 g,.bool true],.int .i64 0]) (by simp[results,results196,go_sem,x0,x1]) rfl ⟨rfl,f1⟩):P:=h
theorem zkG{g live tombs:Nat}(hg:Pow g)(h:live+tombs≤8*g)(w:World):Calls prog 196 #[.int .i64 g,.int .i64 live,.int .i64 tombs] w fun e w'=>e=.returned (zds (jE g live tombs))∧zb w w':=by
  have hg1:=hg.le;have HC:=za (fun W=>zaz hg h W);have HLm:=za (fun W=>zle hg W);have wl:IntKind.i64.wrap ((live:Int)+(tombs:Int))=(live:Int)+(tombs:Int):=zt _ (by omega);have w2:IntKind.i64.wrap (2*(live:Int))=2*(live:Int):=zt _ (by omega);have wg:IntKind.i64.wrap (2*(g:Int))=2*(g:Int):=zt _ (by omega);obtain⟨r,hr⟩:=zf (jE g live tombs);rw[hr];unfold jE at hr;have HRr:=za hr;clear hr hg;go_enter func196,ntmps196;go_upto_region 5 with(first
    | (go_at_call 186;refine(HC.out _).mono ?_;rintro e w1 ⟨rfl,hp1⟩)
    | (go_at_call 244;refine(HLm.out _).mono ?_;rintro e w' ⟨rfl,rfl⟩))
  have hp0:zb w (w.alloc (.cells #[.int .i64 0,.bool false] 224)):=(Mod.refl _ w).alloc _;have h6:=hp1.heap (fun h=>h) (zk (w:=w) (o := .cells #[.int .i64 0,.bool false] 224 (0,0)) rfl);have HP:=za (hp0.trans hp1);have hle:=hp0.size;clear hp0 hp1 HC HLm;obtain⟨b6,hb6⟩:=zf w.heap.size;rw[hb6]at h6 ⊢;have HB6:=za hb6;have hlt6:=zm h6;have H6:=za h6;clear hb6 hle;obtain⟨rb,hrb⟩:=zf (decide (7*(g:Int)≤(live:Int)+(tombs:Int)));have h10:=zk (w:=w1) (o := .cells #[.int .i64 g,.bool rb] 224 (0,0)) rfl;have hp10:zb w1 (w1.alloc (.cells #[.int .i64 g,.bool rb] 224)):=(Mod.refl _ w1).alloc _;have h6b:=hp10.heap (fun h=>h) h6;have HP2:=za (HP.out.trans hp10);have hne:w1.heap.size≠b6:=by omega
  clear hp10 H6 h6;have HRB:=za hrb;have hsz:w.heap.size≤w1.heap.size:=Mod.size HP.out;clear HP
  go_cut [9,10,6,0,1] (fun v9 v10 v6 v0 v1 wx=>v9=.int .i64 (7*(g:Int))∧v10=.pointer (some ⟨w1.heap.size,0,none⟩)∧v6=.pointer (some ⟨b6,0,none⟩)∧v0=.int .i64 g∧v1=.int .i64 live∧wx=w1.alloc (.cells #[.int .i64 g,.bool rb] 224))
  case first =>
    cases rb with
    | true =>
      have:=of_decide_eq_true hrb;go_wp2
      go_meet
      exact⟨rfl,rfl,rfl,rfl,rfl,rfl⟩
    | false =>
      have:=of_decide_eq_false hrb;go_wp2
      go_meet
      exact⟨rfl,rfl,rfl,rfl,rfl,rfl⟩
  case rest =>
    obtain⟨rfl,rfl,rfl,rfl,rfl,hwc⟩:=hcut;rw[← hwc]at h10 h6b HP2;clear hwc hrb;generalize w1.heap.size=b10 at *;have hb6:w.heap.size≤b6:=by have:=HB6.out;omega
    obtain⟨h10_0,h10_1,h10_f,h10_l,H_h10⟩:=cr2 h10;clear h10;obtain⟨h6b_0,h6b_1,h6b_f,h6b_l,H_h6b⟩:=cr2 h6b;clear h6b;have hr:=HRr.out;have hrb:=HRB.out;clear HRr HRB;by_cases c1:live+tombs<7*g
    · rw[zj c1]at hr
      have e1:rb=false:=by rw[← hrb];exact zU (by omega)
      subst hr e1;clear hrb;go_wp2;obtain⟨f1,x0,x1⟩:=jM (v0 := .int .i64 g) (v1 := .bool false) H_h6b.out HP2.out hb6 rfl;obtain⟨Y,hY⟩:=zf ((wc.setCell ⟨b6,0,none⟩ (.int .i64 g)).setCell ⟨b6,1,none⟩ (.bool false));rw[hY]at f1 x0 x1 ⊢;exact zR (v := .tuple #[.agg #[.int .i64 g,.bool false],.int .i64 0]) (by simp[results,results196,go_sem,x0,x1]) rfl ⟨rfl,f1⟩
    · rw[zh c1]at hr
      have e1:rb=true:=by rw[← hrb];exact zQ (by omega)
      subst e1;clear hrb;by_cases c2:2*live≤7*g
      · rw[zj c2]at hr
        subst hr;have c2':2*(live:Int)≤7*(g:Int):=by omega
        exact Azaoa
      · rw[zh c2]at hr
        have d2:decide (2*(live:Int)≤7*(g:Int))=false:=zU (by omega);by_cases c3:g<1048576
        · rw[zj c3]at hr
          subst hr;have d3:decide ((g:Int)<1048576)=true:=zQ (by omega);clear c1 c2 c3;go_wp2;have h6x:=(Mod.set1 (w:=wc) b10 0 (.int .i64 (2*(g:Int)))).heap (fun e=>hne e.symm) H_h6b.out;have hpx:zb w (wc.setCell ⟨b10,0,none⟩ (.int .i64 (2*(g:Int)))):=HP2.out.then (Mod.set1 b10 0 _) (fun i hi e=>by omega);obtain⟨f1,x0,x1⟩:=jM (v0 := .int .i64 (2*(g:Int))) (v1 := .bool true) h6x hpx hb6 rfl;obtain⟨Y,hY⟩:=zf (((wc.setCell ⟨b10,0,none⟩ (.int .i64 (2*(g:Int)))).setCell ⟨b6,0,none⟩ (.int .i64 (2*(g:Int)))).setCell ⟨b6,1,none⟩ (.bool true));rw[hY]at f1 x0 x1 ⊢;exact zR (v := .tuple #[.agg #[.int .i64 (2*(g:Int)),.bool true],.int .i64 0]) (by simp[results,results196,go_sem,x0,x1]) rfl ⟨rfl,f1⟩
        · rw[zh c3]at hr
          have d3:decide ((g:Int)<1048576)=false:=zU (by omega);by_cases c4:live<7*g
          · rw[zj c4]at hr
            subst hr;have d4:decide ((live:Int)<7*(g:Int))=true:=zQ (by omega);clear c1 c2 c3 c4;exact Azaoa
          · rw[zh c4]at hr
            subst hr;have d4:decide ((live:Int)<7*(g:Int))=false:=zU (by omega);clear c1 c2 c3 c4;go_wp2;obtain⟨f1,x0,x1⟩:=jM (v0 := .int .i64 0) (v1 := .bool false) H_h6b.out HP2.out hb6 rfl;obtain⟨Y,hY⟩:=zf ((wc.setCell ⟨b6,0,none⟩ (.int .i64 0)).setCell ⟨b6,1,none⟩ (.bool false));rw[hY]at f1 x0 x1 ⊢;exact zR (v := .tuple #[.agg #[.int .i64 0,.bool false],.int .i64 7]) (by simp[results,results196,go_sem,x0,x1]) rfl ⟨rfl,f1⟩
def ZK(h:Nat)(b:UInt8):Nat:=(h ^^^ b.toNat)*1099511628211%18446744073709551616
def ki(h:Nat)(l:List UInt8):Nat:=l.foldl ZK h
theorem zhw{α β:Type}(f:β→α→β)(h:β)(l:List α){i:Nat}{b:α}(hb:l[i]? = some b):(l.take (i+1)).foldl f h=f ((l.take i).foldl f h) b:=by
 rw[uH,hb,Yt]
 rfl
theorem zkH(h:Nat)(l:List UInt8){i:Nat}{b:UInt8}(hb:l[i]? = some b):ki h (l.take (i+1))=ZK (ki h (l.take i)) b:=by
 unfold ki;exact zhw ZK h l hb
theorem zaX(h:Nat)(b:UInt8):ZK h b<18446744073709551616:=vi _ (by decide)
theorem KY{h:Nat}(hh:h<18446744073709551616) : ∀ l:List UInt8,ki h l<18446744073709551616
 | []=>hh
 | b::l=>KY (zaX h b) l
def jZ(w:Nat):Nat:=5*(w ^^^ (w/536870912))%18446744073709551616
def X4(w:Nat):Nat:=jZ w ^^^ (jZ w/4294967296)
theorem zaT(w:Nat):jZ w<18446744073709551616:=vi _ (by decide)
def kL(seed:Nat)(same:Bool)(key:ByteArray):Nat:=X4 (ki seed (if same then[]else key.data.toList))
theorem zcc(h:Nat)(hh:h<18446744073709551616)(key:ByteArray)(hk:key.size≤140737488355328)(w:World):Calls prog 180 #[.int .u64 h,.string key] w fun e w'=>e=.returned (.int .u64 (ki h key.data.toList:Nat))∧w=w':=by
 obtain⟨n,hn⟩:=zf key.size;have HN:=za hn;have hn2:n≤140737488355328:=by omega
 obtain⟨res,hres⟩:=zf (ki h key.data.toList);rw[hres];clear hk;have wn:IntKind.i64.wrap (n:Int)=n:=zt _ (by omega);go_enter func180,ntmps180;go_upto_region 2 with fail
 go_loopw [0,8] (fun v0 v8 wr => ∃ i,v0=.int .u64 (ki h (key.data.toList.take i):Nat)∧v8=.int .i64 (i:Nat)∧i≤n∧wr=w) (fun _ v8 _=>n-(intOf v8).toNat)
 case atStart=>exact⟨0,by rw[List.take_zero,ki,List.foldl_nil],rfl,yq _,rfl⟩
 case round =>
  obtain⟨i,rfl,rfl,hi,rfl⟩:=hrel;have hlen:key.data.toList.length=n:=by rw[← hn];rfl
  by_cases hlt:i<n
  ·have hlt':(i:Int)<(n:Int):=by omega
   obtain⟨b,hb⟩ : ∃ b,key.data.toList[i]? = some b:=⟨_,zO (by omega)⟩;have htk:=zkH h key.data.toList hb;have hq:=KY hh (key.data.toList.take i);have hq2:=zaX (ki h (key.data.toList.take i)) b;have HTK:=za htk;clear htk;generalize ki h (key.data.toList.take i)=q at *;have wi:IntKind.i64.wrap ((i:Int)+1)=(i:Int)+1:=zt _ (by omega);have hki:i<key.size:=by omega
   have hkb:(key[i]'hki).toNat=b.toNat:=by
    have:=zE.1 hb;obtain⟨h1,h2⟩:=this;rw[← h2];exact congrArg UInt8.toNat rfl
   have hb256:b.toNat<256:=UInt8.toNat_lt b;have e1:IntKind.u64.wrap (b.toNat:Int)=(b.toNat:Int):=uG _ (by omega);have e2:bits .xor .u64 (q:Int) (b.toNat:Int)=((q ^^^ b.toNat:Nat):Int):=Yn _ _ hq (by omega);have e3:IntKind.u64.wrap (((q ^^^ b.toNat:Nat):Int)*1099511628211)=((ZK q b:Nat):Int):=by
    unfold ZK;rw[← JP];simp
   generalize ZK q b=r at *;generalize q ^^^ b.toNat=xx at *;clear hb;generalize b.toNat=kb at *;clear hh hq hq2;go_upto_region 5 with fail
   go_wp2;go_roundw
   case rel=>exact⟨i+1,by rw[HTK.out],by go_num,hlt,trivial⟩
   case measure=>simp[intOf];omega
  ·have hlt':(n:Int)≤(i:Int):=by omega
   have htk:key.data.toList.take i=key.data.toList:=jX (by omega);rw[htk,hres];go_wp2;go_ret;exact⟨rfl,rfl⟩
theorem zcq(n:Nat)(hn:n<18446744073709551616)(w:World):Calls prog 179 #[.int .u64 n] w fun e w'=>e=.returned (.int .u64 (X4 n:Nat))∧w=w':=by
 have h29:n/536870912<18446744073709551616:=jm (Y2 _ _) hn;have e1:bits .xor .u64 (n:Int) ((n:Int)/536870912)=((n ^^^ (n/536870912):Nat):Int):=Yn _ _ hn h29;have e2:IntKind.u64.wrap (5*((n ^^^ (n/536870912):Nat):Int))=((jZ n:Nat):Int):=by
  unfold jZ;rw[← JP];simp
 have h5:=zaT n;have h32:jZ n/4294967296<18446744073709551616:=jm (Y2 _ _) h5;have e3:bits .xor .u64 ((jZ n:Nat):Int) (((jZ n:Nat):Int)/4294967296)=((X4 n:Nat):Int):=Yn _ _ h5 h32;generalize X4 n=r at *;generalize jZ n=q at *;generalize n ^^^ (n/536870912)=z at *;have n0:(0:Int)≤n:=by omega
 have q0:(0:Int)≤q:=by omega
 go_enter func179,ntmps179;go_wp2;go_ret;exact⟨by simp[*],rfl⟩
def ux(j t s:Nat)(c:Grp):Grp:=(c.1.set j t,c.2.set j s)
def yy(Gs:List Grp)(i j t s:Nat):List Grp:=Gs.modify i (ux j t s)
theorem jN(Gs:List Grp)(i j t s:Nat):(yy Gs i j t s).length=Gs.length:=by simp[yy]
theorem Yj{Gs:List Grp}{i j t s:Nat}(hi:i<Gs.length)(k:Nat):zn (yy Gs i j t s) k=if k=i then ux j t s (zn Gs i)else zn Gs k:=by
 unfold zn yy;rw[vM,Js];by_cases h:k=i
 ·subst h;rw[zj rfl,vM,zO hi];simp
 ·rw[zh h,vM];have : ¬ i=k:=fun e=>h e.symm
  simp[this]
theorem xX.put{c:Grp}(h:xX c){j t s:Nat}(ht:t<128∨t=128∨t=254)(hs:s≤4294967295):xX (ux j t s c):=by
 refine⟨⟨by simp[ux,h.ctl.1],fun x hx => ?_⟩,by simp[ux,h.len],fun x hx => ?_⟩
 ·rcases jS hx with h' | rfl
  ·exact h.ctl.2 x h'
  ·exact ht
 ·rcases jS hx with h' | rfl
  ·exact h.lt x h'
  ·exact hs
theorem xw.put{Gs:List Grp}(h:xw Gs){i j t s:Nat}(ht:t<128∨t=128∨t=254)(hs:s≤4294967295):xw (yy Gs i j t s):=by
 refine⟨by rw[jN];exact h.pow,fun c hc => ?_⟩;obtain⟨k,hk⟩:=uk hc;unfold yy at hk;rw[Js]at hk
 cases hg:Gs[k]? with
 | none=>rw[hg]at hk;simp at hk
 | some c0 =>
  have h0:=h.grp c0 (ym hg);rw[hg]at hk;by_cases e:i=k
  ·simp[e]at hk;rw[← hk];exact h0.put ht hs
  ·simp[e]at hk;rw[← hk];exact h0
theorem Qv{α:Type}(F:α→Nat)(g:α→α) : ∀(L:List α) (i:Nat) (a:α),L[i]? = some a→((L.modify i g).map F).sum+F a=(L.map F).sum+F (g a)
 | [],_,_,h=>by simp at h
 | b::L,0,a,h=>by simp at h;subst h;simp;omega
 | b::L,i+1,a,h=>by
  have:=Qv F g L i a (by simpa using h);simp only[List.modify_succ_cons,List.map_cons,List.sum_cons];omega
theorem J4(p:Nat→Bool)(t:Nat) : ∀(l:List Nat) (j a:Nat),l[j]? = some a→(l.set j t).countP p+(p a).toNat=l.countP p+(p t).toNat
 | [],_,_,h=>by simp at h
 | b::l,0,a,h=>by
  simp at h;subst h;simp only[List.set_cons_zero,List.countP_cons]
  cases p b<;>cases p t<;>simp
 | b::l,j+1,a,h=>by
  have:=J4 p t l j a (by simpa using h);simp only[List.set_cons_succ,List.countP_cons];omega
theorem VP{Gs:List Grp}{i j t s a:Nat}(hi:i<Gs.length)(ha:(zn Gs i).1[j]? = some a):zD (yy Gs i j t s)+(decide (a<128)).toNat=zD Gs+(decide (t<128)).toNat:=by
 have h1:=Qv (fun c:Grp=>c.1.countP (· < 128)) (ux j t s) Gs i (zn Gs i) (vY hi);have h2:=J4 (fun x=>decide (x<128)) t (zn Gs i).1 j a ha;unfold zD yy;simp only[ux]at h1 h2 ⊢;omega
theorem V6{Gs:List Grp}{i j t s a:Nat}(hi:i<Gs.length)(ha:(zn Gs i).1[j]? = some a):yi (yy Gs i j t s)+(a==254).toNat=yi Gs+(t==254).toNat:=by
 have h1:=Qv (fun c:Grp=>c.1.countP (· == 254)) (ux j t s) Gs i (zn Gs i) (vY hi);have h2:=J4 (fun x=>x==254) t (zn Gs i).1 j a ha;unfold yi yy;simp only[ux]at h1 h2 ⊢;omega
theorem Xm(p:Nat→Bool) : ∀ {Gs:List Grp},(∀ c∈Gs,xX c)→(Gs.map (fun c=>c.1.countP p)).sum≤8*Gs.length
 | [],_=>by simp
 | c::Gs,h=>by
  have h1:=Xm p (Gs:=Gs) (fun c hc=>h c (by simp[hc]));have h2:c.1.countP p≤c.1.length:=UQ;rw[(h c (by simp)).ctl.1]at h2;simp only[List.map_cons,List.sum_cons,List.length_cons];omega
theorem xw.used_le{Gs:List Grp}(h:xw Gs):zD Gs≤8388608:=by have:=Xm (· < 128) h.grp;have:=h.pow.le;unfold zD;omega
theorem xw.tomb_le{Gs:List Grp}(h:xw Gs):yi Gs≤8388608:=by have:=Xm (· == 254) h.grp;have:=h.pow.le;unfold yi;omega
theorem zgo{c:Grp}(h:xX c){j t s:Nat}(hj:j<8):yO (ux j t s c)=((yO c).set 0 (.int .u64 (zC (c.1.set j t)))).set (j+1) (.int .u32 (s:Int)):=by
 unfold yO ux;simp only[List.set_cons_zero,List.set_cons_succ]
 congr 1
 apply uF;intro k;rw[XN];simp only[List.getElem?_map,List.length_map,List.length_range];by_cases hk:k<8
 ·rw[qe hk];simp only[Option.map_some];by_cases e:j=k
  ·subst e;simp[h.len,hj]
  ·simp[e,List.getD_eq_getElem?_getD,List.getElem?_set]
 ·have:(List.range 8)[k]? = none:=by simp;omega
  rw[this];by_cases e:j=k
  ·omega
  ·simp[e]
theorem ziy{Gs:List Grp}{i j t s:Nat}(h:xX (zn Gs i))(hi:i<Gs.length)(hj:j<8) :
  ((Gs.flatMap yO).set (i*9+0) (.int .u64 (zC ((zn Gs i).1.set j t)))).set (i*9+(j+1)) (.int .u32 (s:Int))=(yy Gs i j t s).flatMap yO:=by
 have hR : ∀ r∈Gs.map yO,r.length=9:=fun r hr=>by obtain⟨c,_,rfl⟩:=zI.1 hr;exact qB c
 rw[List.flatMap_def,Zt 9 0 (by omega) _ _ hR,Zt 9 (j+1) (by omega) _ _ (ZY hR i 0 _),List.flatMap_def]
 congr 1
 apply uF;intro k;unfold yy;simp only[List.getElem?_modify,List.getElem?_map];by_cases e:i=k
 ·subst e;rw[vY hi];simp only[if_pos];exact congrArg some (zgo h hj).symm
 ·simp[e]
theorem zb9{Gs:List Grp}{i j t s:Nat}(h:xX (zn Gs i))(hi:i<Gs.length)(hj:j<8)(u:Value)(hu:u=.int .u64 (zC ((zn Gs i).1.set j t))) :
  ((Gs.flatMap yO).set (i*9) u).set (i*9+1+j) (.int .u32 (s:Int))=(yy Gs i j t s).flatMap yO:=by
 subst hu;have:=ziy (t:=t) (s:=s) h hi hj
 rwa [XC,show i*9+(j+1)=i*9+1+j by omega]at this
def yR(n:Nat):Nat:=if n=0 then 0 else Nat.log2 n+1
theorem zdo(n:Nat):n<2 ^ yR n:=by
 unfold yR;split
 ·rename_i h;subst h;decide
 ·exact Nat.lt_log2_self
theorem Qs{n k:Nat}(h:n<2 ^ k):yR n≤k:=by
 unfold yR;split
 ·exact yq _
 ·rename_i h0;exact(Nat.log2_lt h0).2 h
theorem ZH{n j:Nat}(h:2 ^ j≤n):yR n=yR (n/2 ^ j)+j:=by
 have hp:=Nat.pow_pos (n:=j) (show 0<2 by decide);have h0:n≠0:=by omega
 have h1:n/2 ^ j≠0:=by have:=Nat.div_pos h hp;omega
 have e:n.log2=(n/2 ^ j).log2+j:=by
  have h2:(n/2 ^ j)<2 ^ ((n/2 ^ j).log2+1):=Nat.lt_log2_self;have h3:2 ^ (n/2 ^ j).log2≤n/2 ^ j:=Nat.log2_self_le h1;have h4:2 ^ ((n/2 ^ j).log2+j)≤n:=by
   rw[Nat.pow_add];have:=Xd (2 ^ j) h3;exact zF this (Nat.div_mul_le_self n _)
  have h5:n<2 ^ ((n/2 ^ j).log2+j+1):=by
   have h6:=Nat.lt_mul_of_div_lt h2 hp;rw[show(n/2 ^ j).log2+j+1=j+((n/2 ^ j).log2+1) by omega,Nat.pow_add];rw[Nat.mul_comm];exact h6
  have h7:n.log2<(n/2 ^ j).log2+j+1:=(Nat.log2_lt h0).2 h5;have h8 : ¬ n.log2<(n/2 ^ j).log2+j:=fun h=>by have:=(Nat.log2_lt h0).1 h;omega
  omega
 unfold yR;rw[zh h0,zh h1,e];omega
theorem zgL(s:ByteArray)(hs:s.size=256)(h : ∀ k (hk:k<256),wrap64 ((s[k]'(by omega)).toNat:Int)=yR k)(m:Nat)(hm:m<256)(hms:m<s.size):wrap64 ((s[m]'hms).toNat:Int)=yR m:=h m hm
theorem qI(y:Int)(s:ByteArray)(hs:s.size=256)(h : ∀ k (hk:k<256),wrap64 ((s[k]'(by omega)).toNat:Int)=yR k)(m:Nat)(hm:m<256)(hms:m<s.size)(n:Nat)(hb:(yR n:Int)=y+yR m)(h0:0≤y∧y≤100) :
  wrap64 (y+wrap64 ((s[m]'hms).toNat:Int))=(yR n:Int):=by
 rw[zgL s hs h m hm hms,← hb];have:yR m≤8:=Qs (by omega);exact IntWalk.wrap64_in _ (by omega)
theorem zkf(s:ByteArray)(hs:s.size=256)(h : ∀ k (hk:k<256),wrap64 ((s[k]'(by omega)).toNat:Int)=yR k)(m:Nat)(hm:m<256)(hms:m<s.size):wrap64 (wrap64 ((s[m]'hms).toNat:Int))=(yR m:Int):=by
 have:=qI 0 s hs h m hm hms m (by omega) (by omega)
 rwa [Int.zero_add]at this
theorem zaJ(n:Nat)(hn:n<4294967296)(w:World):Calls prog 251 #[.int .u64 n] w fun e w'=>e=.returned (.int .i64 (yR n))∧w=w':=by
 have d0:decide (4294967296≤(n:Int))=false:=zU (by omega);have n0:(0:Int)≤n:=by omega
 by_cases c1:65536≤n
 ·have d1:decide (65536≤(n:Int))=true:=zQ (by omega);have hb:=ZH (n:=n) (j:=16) c1;obtain⟨k,hk⟩:=zf (n/2 ^ 16);have e1:(n:Int)/65536=(k:Int):=by omega
  have hk2:k<65536:=by omega
  rw[hk]at hb;have k0:(0:Int)≤k:=by omega
  by_cases c2:256≤k
  ·have d2:decide (256≤(k:Int))=true:=zQ (by omega);have hb2:=ZH (n:=k) (j:=8) c2;obtain⟨m,hm⟩:=zf (k/2 ^ 8);have e2:(k:Int)/256=(m:Int):=by omega
   have hm2:m<256:=by omega
   rw[hm]at hb2;have m0:(0:Int)≤m:=by omega
   have m1:(m:Int)<256:=by omega
   have w8:IntKind.u8.wrap (m:Int)=m:=by simp[IntKind.wrap,IntKind.signed,IntKind.bits];omega
   go_enter func251,ntmps251;go_wp2;go_ret;exact⟨congrArg (fun x=>Ending.returned (.int .i64 x)) (qI 24 _ (by decide) (by decide +kernel) m hm2 _ n (by omega) (by omega)),rfl⟩
  ·have d2:decide (256≤(k:Int))=false:=zU (by omega);have m1:(k:Int)<256:=by omega
   have w8:IntKind.u8.wrap (k:Int)=k:=by simp[IntKind.wrap,IntKind.signed,IntKind.bits];omega
   go_enter func251,ntmps251;go_wp2;go_ret;exact⟨congrArg (fun x=>Ending.returned (.int .i64 x)) (qI 16 _ (by decide) (by decide +kernel) k (by omega) _ n (by omega) (by omega)),rfl⟩
 ·have d1:decide (65536≤(n:Int))=false:=zU (by omega);by_cases c2:256≤n
  ·have d2:decide (256≤(n:Int))=true:=zQ (by omega);have hb2:=ZH (n:=n) (j:=8) c2;obtain⟨m,hm⟩:=zf (n/2 ^ 8);have e2:(n:Int)/256=(m:Int):=by omega
   have hm2:m<256:=by omega
   rw[hm]at hb2;have m0:(0:Int)≤m:=by omega
   have m1:(m:Int)<256:=by omega
   have w8:IntKind.u8.wrap (m:Int)=m:=by simp[IntKind.wrap,IntKind.signed,IntKind.bits];omega
   go_enter func251,ntmps251;go_wp2;go_ret;exact⟨congrArg (fun x=>Ending.returned (.int .i64 x)) (qI 8 _ (by decide) (by decide +kernel) m hm2 _ n (by omega) (by omega)),rfl⟩
  ·have d2:decide (256≤(n:Int))=false:=zU (by omega);have m1:(n:Int)<256:=by omega
   have w8:IntKind.u8.wrap (n:Int)=n:=by simp[IntKind.wrap,IntKind.signed,IntKind.bits];omega
   go_enter func251,ntmps251;go_wp2;go_ret;exact⟨congrArg (fun x=>Ending.returned (.int .i64 x)) (zkf _ (by decide) (by decide +kernel) n (by omega) _),rfl⟩
theorem ziB(n:Nat)(hn:n<4294967296)(w:World):Calls prog 256 #[.int .u64 n] w fun e w'=>e=.returned (.int .i64 (yR n))∧w=w':=by
 have HL:=za (fun W=>zaJ n hn W);go_enter func256,ntmps256
 go_wp2_with (go_at_call 251;refine(HL.out _).mono ?_;rintro e w' ⟨rfl,rfl⟩)
 go_ret;exact⟨rfl,rfl⟩
theorem zjH(n:Nat)(h1:1≤n)(hn:n≤1073741824)(w:World):Calls prog 237 #[.int .i64 n] w fun e w'=>e=.returned (.int .i64 (2 ^ yR (n-1):Nat))∧w=w':=by
 have HL:=za (fun W=>ziB (n-1) (by omega) W);have e1:IntKind.i64.wrap ((n:Int)-1)=((n-1:Nat):Int):=by rw[zt _ (by omega)];omega
 have e2:IntKind.u64.wrap ((n-1:Nat):Int)=((n-1:Nat):Int):=uG _ (by omega);have hb:yR (n-1)≤30:=Qs (by omega);have b0:(0:Int)≤(yR (n-1):Int):=by omega
 generalize n-1=m at *;generalize yR m=k at *;go_enter func237,ntmps237
 go_wp2_with (go_at_call 256;refine(HL.out _).mono ?_;rintro e w' ⟨rfl,rfl⟩)
 go_ret;refine⟨?_,rfl⟩;have hk:2 ^ k≤2 ^ 30:=ZS (by decide) hb;have e3:(2:Int) ^ k=((2 ^ k:Nat):Int):=by simp
 have e4:wrap64 ((2:Int) ^ k)=((2 ^ k:Nat):Int):=by rw[e3];exact jT _ (by omega)
 exact congrArg (fun x=>Ending.returned (.int .i64 x)) e4
def jL(live:Nat):Nat:=2 ^ yR (4*live+15)
theorem zbh(live:Nat):4*live+16≤jL live:=by have:=zdo (4*live+15);unfold jL;omega
theorem zjN{live:Nat}(hlt:jL live<8388608) : ∃ k,k≤19∧jL live=8*2 ^ k:=by
 have h1:=zbh live;unfold jL at h1 hlt ⊢;obtain⟨b,hb⟩:=zf (yR (4*live+15));rw[hb]at h1 hlt ⊢;have h3:3≤b:=by
  by_cases c:3≤b
  ·exact c
  ·have:2 ^ b≤2 ^ 2:=ZS (by decide) (by omega);omega
 have h23:b<23:=by
  by_cases c:b<23
  ·exact c
  ·have:2 ^ 23≤2 ^ b:=ZS (by decide) (by omega);omega
 refine⟨b-3,by omega,?_⟩;rw[show b=3+(b-3) by omega,Nat.pow_add];simp
theorem zfQ(live:Nat)(hn:live≤7340032)(w:World):Calls prog 187 #[.int .i64 live] w fun e w'=>e=.returned (.int .i64 (jL live))∧w=w':=by
 have HL:=za (fun W=>zjH (4*live+16) (by omega) (by omega) W);have e0:4*live+16-1=4*live+15:=by omega
 rw[e0]at HL;have e1:IntKind.i64.wrap (4*(live:Int))=4*(live:Int):=zt _ (by omega);have e2:IntKind.i64.wrap (4*(live:Int)+16)=((4*live+16:Nat):Int):=by rw[zt _ (by omega)];omega
 unfold jL;generalize 4*live+16=z at *;generalize 2 ^ yR (4*live+15)=r at *;go_enter func187,ntmps187
 go_wp2_with (go_at_call 237;refine(HL.out _).mono ?_;rintro e w' ⟨rfl,rfl⟩)
 go_ret;exact⟨rfl,rfl⟩
def uC(g live:Nat):Nat × Bool:=if live≤7340032∧jL live<8*g then(jL live/8,true)else(g,false)
def zaq(w:World)(x:Nat × Bool)(e:Ending)(w':World):Prop:=e=.returned (.tuple #[.agg #[.int .i64 (x.1:Nat),.bool x.2],.int .i64 0])∧zb w w'
theorem zli{g live:Nat}(hg:Pow g):Pow (uC g live).1∧((uC g live).2=true→live<8*(uC g live).1)∧((uC g live).2=false→(uC g live).1=g):=by
 have hle:=hg.le;unfold uC;split
 ·rename_i h;obtain⟨k,hk,e⟩:=zjN (live:=live) (by omega);have h1:=zbh live;rw[e,show 8*2 ^ k/8=2 ^ k by omega];refine⟨⟨k,by omega,rfl⟩,fun _ => ?_,by simp⟩;dsimp only;omega
 ·exact⟨hg,by simp,fun _=>rfl⟩
theorem Aznee {P:Prop}(h:P:=by
 obtain⟨f1,x0,x1⟩:=jM (v0 := .int .i64 g) (v1 := .bool false) H_hh6.out HP.out (by have:=HB6.out;omega) rfl;obtain⟨Y,hY⟩:=zf ((w1.setCell ⟨b6,0,none⟩ (.int .i64 g)).setCell ⟨b6,1,none⟩ (.bool false));rw[hY]at f1 x0 x1 ⊢;rw[← HR.out];exact zR (v := .tuple #[.agg #[.int .i64 g,.bool false],.int .i64 0]) (by simp[results,results132,go_sem,x0,x1]) rfl ⟨rfl,f1⟩):P:=h
theorem ziP{g live tombs:Nat}(hg:Pow g)(h:live+tombs≤8*g)(w:World):Calls prog 132 #[.int .i64 g,.int .i64 live,.int .i64 tombs] w (zaq w (uC g live)):=by
 have hg1:=hg.le;have HC:=za (fun W=>zaz hg h W);have wg:IntKind.i64.wrap ((g:Int)*8)=(g:Int)*8:=zt _ (by omega);obtain⟨r,hr⟩:=zf (uC g live);rw[hr];unfold uC at hr;have hp0:zb w (w.alloc (.cells #[.int .i64 0,.bool false] 224)):=(Mod.refl _ w).alloc _;have h6:=zk (w:=w) (o := .cells #[.int .i64 0,.bool false] 224 (0,0)) rfl;have HP:=za hp0;by_cases c1:live≤7340032
 ·have d1:decide ((live:Int)≤7340032)=true:=zQ (by omega);have HB:=za (fun W=>zfQ live c1 W);obtain⟨bm,hbm⟩:=zf (jL live);rw[hbm]at HB hr;by_cases c2:bm<8*g
  ·have d2:decide ((bm:Int)<(g:Int)*8)=true:=zQ (by omega);rw[zj ⟨c1,c2⟩]at hr;obtain⟨q,hq⟩:=zf (bm/8);have e8:wrap64 ((bm:Int)/8)=(q:Int):=by
    rw[show(bm:Int)/8=(q:Int) by omega];exact jT _ (by omega)
   rw[hq]at hr;have HR:=za hr;clear hr hp0 hg h c1 c2 hbm;go_enter func132,ntmps132;go_upto_region 1 with fail
   generalize w.alloc (.cells #[.int .i64 0,.bool false] 224)=W1 at *;obtain⟨b6,hb6⟩:=zf w.heap.size;rw[hb6]at h6 ⊢;have HB6:=za hb6;clear hb6;go_upto_region 2 with(go_at_call 186;refine(HC.out _).mono ?_;rintro e w1 ⟨rfl,hp1⟩)
   have hh6:=hp1.heap (fun h=>h) h6;replace HP:=za (HP.out.trans hp1);clear hp1 h6;obtain⟨hh6_0,hh6_1,hh6_f,hh6_l,H_hh6⟩:=cr2 hh6;clear hh6
   go_wp2_with (go_at_call 187;refine(HB.out _).mono ?_;rintro e w' ⟨rfl,rfl⟩)
   obtain⟨f1,x0,x1⟩:=jM (v0 := .int .i64 q) (v1 := .bool true) H_hh6.out HP.out (by have:=HB6.out;omega) rfl;obtain⟨Y,hY⟩:=zf ((w1.setCell ⟨b6,0,none⟩ (.int .i64 q)).setCell ⟨b6,1,none⟩ (.bool true));rw[hY]at f1 x0 x1 ⊢;rw[← HR.out];exact zR (v := .tuple #[.agg #[.int .i64 q,.bool true],.int .i64 0]) (by simp[results,results132,go_sem,x0,x1]) rfl ⟨rfl,f1⟩
  ·have d2:decide ((bm:Int)<(g:Int)*8)=false:=zU (by omega);rw[zh (fun h=>c2 h.2)]at hr;have HR:=za hr;clear hr hp0 hg h c1 c2 hbm;go_enter func132,ntmps132;go_upto_region 1 with fail
   generalize w.alloc (.cells #[.int .i64 0,.bool false] 224)=W1 at *;obtain⟨b6,hb6⟩:=zf w.heap.size;rw[hb6]at h6 ⊢;have HB6:=za hb6;clear hb6;go_upto_region 2 with(go_at_call 186;refine(HC.out _).mono ?_;rintro e w1 ⟨rfl,hp1⟩)
   have hh6:=hp1.heap (fun h=>h) h6;replace HP:=za (HP.out.trans hp1);clear hp1 h6;obtain⟨hh6_0,hh6_1,hh6_f,hh6_l,H_hh6⟩:=cr2 hh6;clear hh6
   go_wp2_with (go_at_call 187;refine(HB.out _).mono ?_;rintro e w' ⟨rfl,rfl⟩)
   exact Aznee
 ·have d1:decide ((live:Int)≤7340032)=false:=zU (by omega);rw[zh (fun h=>c1 h.1)]at hr;have HR:=za hr;clear hr hp0 hg h c1;go_enter func132,ntmps132;go_upto_region 1 with fail
  generalize w.alloc (.cells #[.int .i64 0,.bool false] 224)=W1 at *;obtain⟨b6,hb6⟩:=zf w.heap.size;rw[hb6]at h6 ⊢;have HB6:=za hb6;clear hb6;go_upto_region 2 with(go_at_call 186;refine(HC.out _).mono ?_;rintro e w1 ⟨rfl,hp1⟩)
  have hh6:=hp1.heap (fun h=>h) h6;replace HP:=za (HP.out.trans hp1);clear hp1 h6;obtain⟨hh6_0,hh6_1,hh6_f,hh6_l,H_hh6⟩:=cr2 hh6;clear hh6;go_wp2;exact Aznee
end
section
open Go.RowKit Go.Maps
structure Td where
 slot:Nat
 dl:Nat
 birth:Nat
def tdV(x:Td):Value := .agg #[.int .u32 x.slot,.int .u64 x.dl,.int .u64 x.birth]
def tdD(x:Td):DataW Unit := .agg [.lit (.int .u32 x.slot),.lit (.int .u64 x.dl),.lit (.int .u64 x.birth)]
def kJ(v:Value):Option (DataW Unit × List MemPlace):=match v with
 | .agg cs=>match cs.toList with
  | [.int .u32 a,.int .u64 b,.int .u64 c]=>if 0≤a∧0≤b∧0≤c then some (.agg [.lit (.int .u32 a),.lit (.int .u64 b),.lit (.int .u64 c)],[])else none
  | _=>none
 | _=>none
theorem YD(x:Td):kJ (tdV x)=some (tdD x,[]):=by
 unfold kJ tdV tdD;simp
theorem Qh{v:Value}{z:DataW Unit × List MemPlace}(h:kJ v=some z) : ∃ x,v=tdV x∧z=(tdD x,[]):=by
 unfold kJ at h;split at h
 ·rename_i cs;split at h
  ·rename_i a b c e;split at h
   ·rename_i hp;injection h with h
    refine⟨⟨a.toNat,b.toNat,c.toNat⟩,?_,?_⟩
    ·unfold tdV;have:cs=#[.int .u32 a,.int .u64 b,.int .u64 c]:=by apply Array.ext';exact e
     rw[this];simp only[Int.toNat_of_nonneg hp.1,Int.toNat_of_nonneg hp.2.1,Int.toNat_of_nonneg hp.2.2]
    ·rw[← h];unfold tdD;simp only[Int.toNat_of_nonneg hp.1,Int.toNat_of_nonneg hp.2.1,Int.toNat_of_nonneg hp.2.2]
   ·cases h
  ·cases h
 ·cases h
theorem Qo{x y:Td}(h:tdD x=tdD y):x=y:=by
 unfold tdD at h;injection h with h
 injection h with h1 h
 injection h with h2 h
 injection h with h3 h
 injection h1 with h1;injection h1 with _ h1
 injection h2 with h2;injection h2 with _ h2
 injection h3 with h3;injection h3 with _ h3
 cases x;cases y
 simp only at h1 h2 h3;rw[ZD.1 h1,ZD.1 h2,ZD.1 h3]
def kS(s:Nat):Lit := .int .u32 s
def kB(s:Nat):Lit := .int .u64 s
theorem jB{a b:Nat}(h:kS a=kS b):a=b:=by unfold kS at h;injection h with _ h;exact ZD.1 h
theorem ZF{a b:Nat}(h:kB a=kB b):a=b:=by unfold kB at h;injection h with _ h;exact ZD.1 h
theorem V4(s:Nat):WideAt.IsKeyLit (kS s):=trivial
theorem KS(s:Nat):WideAt.IsKeyLit (kB s):=trivial
theorem uq{s:Nat}(h:s≤4294967295):keyOf prog 89 (.int .u32 s)=some (kS s):=keyOf_int_mk underlying89 (by simp[Lit.wf,IntKind.min,IntKind.max,IntKind.signed,IntKind.bits];omega)
theorem qK{s:Nat}(h:s≤18446744073709551615):keyOf prog 27 (.int .u64 s)=some (kB s):=keyOf_int_mk underlying27 (by simp[Lit.wf,IntKind.min,IntKind.max,IntKind.signed,IntKind.bits];omega)
theorem x9:Keyed prog 89:=int_keyed underlying89
theorem kC:Keyed prog 27:=int_keyed underlying27
theorem YW{H:Type}{P:Program}{k:TypeId}{R:Value→Option (DataW H × List MemPlace)}{w:World}{b n:Nat}{D:DataW H}(h:w.ownsMap P k R b n D):w.ownsMap P k R b (Maps.size D) D:=by
 obtain⟨es,clock,hb,F,_,rfl⟩:=h;exact⟨es,clock,hb,F,by simp[Maps.size,length_sorted],rfl⟩
theorem Xi{H:Type}{P:Program}{k:TypeId}{R:Value→Option (DataW H × List MemPlace)}{S:Nat→Prop}{w w':World}{b n:Nat}{D:DataW H}(h:w.ownsMap P k R b n D)(hm:Mod S w w')(hb : ¬ S b):w'.ownsMap P k R b n D:=by
 obtain⟨es,clock,h1,h2⟩:=h;exact⟨es,clock,hm.heap hb h1,h2⟩
structure yJ(w:World)(b:Nat)(M:List Td)(D:DataW Unit):Prop where
 own:w.ownsMap prog 89 kJ b M.length D
 at_ : ∀ x∈M,∀ zd,D.atKey (kS x.slot) zd=tdD x
 has : ∀ s,Maps.has D (kS s)=true → ∃ x∈M,x.slot=s
 size:Maps.size D=M.length
structure xG(w:World)(b:Nat)(M:List Td)(D:DataW Unit):Prop where
 own:w.ownsMap prog 27 unitElem b M.length D
 has : ∀ s,Maps.has D (kB s)=true ↔ ∃ x∈M,x.birth=s
 size:Maps.size D=M.length
section
variable{w w':World}{b:Nat}{M:List Td}{D:DataW Unit}{S:Nat→Prop}
theorem yJ.mod(h:yJ w b M D)(hm:Mod S w w')(hb : ¬ S b):yJ w' b M D:=⟨Xi h.own hm hb,h.at_,h.has,h.size⟩
theorem xG.mod(h:xG w b M D)(hm:Mod S w w')(hb : ¬ S b):xG w' b M D:=⟨Xi h.own hm hb,h.has,h.size⟩
theorem yJ.new(w:World):yJ (w.alloc (.map #[] 0)) w.heap.size [] (.map []):=⟨XF _ _ _ _,(fun _ h=>by cases h),(fun s h=>by cases h),rfl⟩
theorem xG.new(w:World):xG (w.alloc (.map #[] 0)) w.heap.size [] (.map []):=⟨XF _ _ _ _,(fun s=>⟨(fun h=>by cases h),(fun⟨x,hx,_⟩=>by cases hx)⟩),rfl⟩
theorem yJ.has_mem(h:yJ w b M D){x:Td}(hx:x∈M):Maps.has D (kS x.slot)=true:=Maps.has_true_of_atKey (h.at_ x hx)
theorem Az5du {P:Prop}(h:P:=by
 cases hh:Maps.has D (kS s)with
 | false=>rfl
 | true=>obtain⟨x,hx,e⟩:=h.has s hh;exact absurd e (hs x hx)):P:=h
theorem yJ.not_has(h:yJ w b M D){s:Nat}(hs : ∀ x∈M,x.slot≠s):Maps.has D (kS s)=false:=by
 exact Az5du
theorem Xk(w:World):(zeroValue 198).run prog w=.ok (tdV ⟨0,0,0⟩) w:=by kernel_rfl
theorem yJ.look(h:yJ w b M D){x:Td}(hx:x∈M)(hs:x.slot≤4294967295):(Instr.lookup 186 (.map (some b)) (.int .u32 x.slot) true).run prog w=.ok (.tuple #[tdV x,.bool true]) w:=by
 obtain⟨v,ps,hrun,hv⟩:=h.own.look_ok x9 underlying186 (Xk w) (YD _) (uq hs);rw[h.at_ x hx]at hv;obtain⟨y,rfl,e⟩:=Qh hv;have:=Qo (congrArg Prod.fst e);subst this;rw[hrun,h.has_mem hx]
theorem yJ.look_no(h:yJ w b M D){s:Nat}(hs:s≤4294967295)(hn : ∀ x∈M,x.slot≠s):(Instr.lookup 186 (.map (some b)) (.int .u32 s) true).run prog w=.ok (.tuple #[tdV ⟨0,0,0⟩,.bool false]) w:=by
 obtain⟨v,ps,hrun,hv⟩:=h.own.look_ok x9 underlying186 (Xk w) (YD _) (uq hs);have h0:=h.not_has hn;rw[Maps.atKey_of_not_has h0]at hv;obtain⟨y,rfl,e⟩:=Qh hv;have:=Qo (congrArg Prod.fst e);subst this;rw[hrun,h0]
theorem yJ.look1(h:yJ w b M D){x:Td}(hx:x∈M)(hs:x.slot≤4294967295):(Instr.lookup 186 (.map (some b)) (.int .u32 x.slot) false).run prog w=.ok (tdV x) w:=by
 obtain⟨v,ps,hrun,hv⟩:=h.own.lookup x9 underlying186 (Xk w) (YD _) (uq hs);rw[h.at_ x hx]at hv;obtain⟨y,rfl,e⟩:=Qh hv;have:=Qo (congrArg Prod.fst e);subst this;exact hrun
theorem xG.look(h:xG w b M D){s:Nat}(hs:s≤18446744073709551615):(Instr.lookup 263 (.map (some b)) (.int .u64 s) true).run prog w=.ok (.tuple #[.agg #[],.bool (Maps.has D (kB s))]) w:=by
 obtain⟨v,ps,hrun,hv⟩:=h.own.look_ok kC underlying263 (z := .agg #[]) (by kernel_rfl) (unitElem_mk) (qK hs);obtain⟨rfl,_⟩:=unitElem_inv hv;exact hrun
theorem Azbit {P:Prop}(h:P:=by
 have hm:=h.own.isMap;refine⟨ho,fun y hy zd => ?_,fun s hs => ?_,?_⟩
 ·rcases yx.1 hy with rfl | hy
  ·exact atKey_put_same hm (V4 _) _ _
  ·rw[atKey_put_other (fun e=>hn y hy (jB e))];exact h.at_ y hy zd
 ·by_cases e:s=x.slot
  ·exact⟨x,yD,e.symm⟩
  ·rw[has_put_other (fun c=>e (jB c))]at hs;obtain⟨y,hy,e2⟩:=h.has s hs;exact⟨y,yE _ hy,e2⟩
 ·rw[Zz (h.own.tidy x9),h.not_has hn,h.size];rfl):P:=h
theorem yJ.put{x:Td}(h:yJ w b M D)(hn : ∀ y∈M,y.slot≠x.slot)(ho:w'.ownsMap prog 89 kJ b (M.length+1) (D.put (kS x.slot) (tdD x))):yJ w' b (x::M) (D.put (kS x.slot) (tdD x)):=by
 exact Azbit
theorem yJ.again{x:Td}(h:yJ w b M D)(hx:x∈M)(hu : ∀ y∈M,y.slot=x.slot→y=x)(ho:w'.ownsMap prog 89 kJ b (M.length+1) (D.put (kS x.slot) (tdD x))):yJ w' b M (D.put (kS x.slot) (tdD x)):=by
 have hm:=h.own.isMap;have hsz:Maps.size (D.put (kS x.slot) (tdD x))=M.length:=by rw[Zz (h.own.tidy x9),h.has_mem hx,h.size];rfl
 refine⟨by have:=YW ho;rw[hsz]at this;exact this,fun y hy zd => ?_,fun s hs => ?_,hsz⟩
 ·by_cases e:y.slot=x.slot
  ·rw[hu y hy e,atKey_put_same hm (V4 _)]
  ·rw[atKey_put_other (fun c=>e (jB c))];exact h.at_ y hy zd
 ·by_cases e:s=x.slot
  ·exact⟨x,hx,e.symm⟩
  ·rw[has_put_other (fun c=>e (jB c))]at hs;exact h.has s hs
theorem Azl4r {P:Prop}(h:P:=by
 have hsz:Maps.size (D.del (kS x.slot))=M'.length:=by
  have:=Maps.size_del (k:=kS x.slot) (h.own.tidy x9);rw[h.has_mem hx,h.size]at this;simp at this;omega
 refine⟨by have:=YW ho;rw[hsz]at this;exact this,fun y hy zd => ?_,fun s hs => ?_,hsz⟩
 ·obtain⟨h1,h2⟩:=(hM y).1 hy;rw[atKey_del_other (fun c=>h2 (jB c))];exact h.at_ y h1 zd
 ·by_cases e:s=x.slot
  ·subst e;rw[has_del_same]at hs
   cases hs
  ·rw[has_del_other (fun c=>e (jB c))]at hs;obtain⟨y,hy,e2⟩:=h.has s hs;exact⟨y,(hM y).2 ⟨hy,fun c=>e (by rw[← e2,c])⟩,e2⟩):P:=h
theorem yJ.del{x:Td}{M':List Td}(h:yJ w b M D)(hx:x∈M)(hM : ∀ y,y∈M'↔y∈M∧y.slot≠x.slot)(hl:M'.length+1=M.length){n:Nat}(ho:w'.ownsMap prog 89 kJ b n (D.del (kS x.slot))):yJ w' b M' (D.del (kS x.slot)):=by
 exact Azl4r
theorem xG.put{x:Td}(h:xG w b M D)(hn : ∀ y∈M,y.birth≠x.birth)(ho:w'.ownsMap prog 27 unitElem b (M.length+1) (D.put (kB x.birth) (.agg []))):xG w' b (x::M) (D.put (kB x.birth) (.agg [])):=by
 have hm:=h.own.isMap;have h0:Maps.has D (kB x.birth)=false:=by
  cases hh:Maps.has D (kB x.birth)with
  | false=>rfl
  | true=>obtain⟨y,hy,e⟩:=(h.has _).1 hh;exact absurd e (hn y hy)
 refine⟨ho,fun s => ?_,?_⟩
 ·by_cases e:s=x.birth
  ·subst e;exact⟨fun _=>⟨x,yD,rfl⟩,fun _=>has_put_same hm (KS _) _⟩
  ·rw[has_put_other (fun c=>e (ZF c)),h.has];constructor
   ·rintro⟨y,hy,e2⟩;exact⟨y,yE _ hy,e2⟩
   ·rintro⟨y,hy,e2⟩;rcases yx.1 hy with rfl | hy
    ·exact absurd e2.symm e
    ·exact⟨y,hy,e2⟩
 ·rw[Zz (h.own.tidy kC),h0,h.size];rfl
theorem xG.again{x:Td}(h:xG w b M D)(hx:x∈M)(ho:w'.ownsMap prog 27 unitElem b (M.length+1) (D.put (kB x.birth) (.agg []))):xG w' b M (D.put (kB x.birth) (.agg [])):=by
 have hm:=h.own.isMap;have h0:Maps.has D (kB x.birth)=true:=(h.has _).2 ⟨x,hx,rfl⟩;have hsz:Maps.size (D.put (kB x.birth) (.agg []))=M.length:=by rw[Zz (h.own.tidy kC),h0,h.size];rfl
 refine⟨by have:=YW ho;rw[hsz]at this;exact this,fun s => ?_,hsz⟩;by_cases e:s=x.birth
 ·subst e;exact⟨fun _=>⟨x,hx,rfl⟩,fun _=>has_put_same hm (KS _) _⟩
 ·rw[has_put_other (fun c=>e (ZF c)),h.has]
theorem xG.del{x:Td}{M':List Td}(h:xG w b M D)(hx:x∈M)(hM : ∀ y,y∈M'↔y∈M∧y.birth≠x.birth)(hl:M'.length+1=M.length){n:Nat}(ho:w'.ownsMap prog 27 unitElem b n (D.del (kB x.birth))):xG w' b M' (D.del (kB x.birth)):=by
 have h0:Maps.has D (kB x.birth)=true:=(h.has _).2 ⟨x,hx,rfl⟩;have hsz:Maps.size (D.del (kB x.birth))=M'.length:=by
  have:=Maps.size_del (k:=kB x.birth) (h.own.tidy kC);rw[h0,h.size]at this;simp at this;omega
 refine⟨by have:=YW ho;rw[hsz]at this;exact this,fun s => ?_,hsz⟩;by_cases e:s=x.birth
 ·subst e;rw[has_del_same];exact⟨fun c=>(by cases c),fun⟨y,hy,e2⟩=>absurd e2 ((hM y).1 hy).2⟩
 ·rw[has_del_other (fun c=>e (ZF c)),h.has];constructor
  ·rintro⟨y,hy,e2⟩;exact⟨y,(hM y).2 ⟨hy,fun c=>e (by rw[← e2,c])⟩,e2⟩
  ·rintro⟨y,hy,e2⟩;exact⟨y,((hM y).1 hy).1,e2⟩
end
def nD(x:Td):DataW Unit := .lit (.int .u32 x.slot)
def Zo(v:Value):Option (DataW Unit × List MemPlace):=match v with
 | .int .u32 a=>if 0≤a then some (.lit (.int .u32 a),[])else none
 | _=>none
theorem Ut(s:Nat):Zo (.int .u32 s)=some (.lit (.int .u32 s),[]):=by
 unfold Zo;simp
theorem Azvwu {P:Prop}(h:P:=by
 split at h
 ·rename_i a;split at h
  ·rename_i hp;injection h with h
   exact⟨a.toNat,by rw[Yk hp],by rw[← h,Yk hp]⟩
  ·cases h
 ·cases h):P:=h
theorem Q1{v:Value}{z:DataW Unit × List MemPlace}(h:Zo v=some z) : ∃ s:Nat,v=.int .u32 s∧z=(.lit (.int .u32 s),[]):=by
 unfold Zo at h;exact Azvwu
theorem zaZ{a b:Nat}(h:(DataW.lit (.int .u32 a):DataW Unit)=.lit (.int .u32 b)):a=b:=by
 injection h with h;injection h with _ h;exact ZD.1 h
structure xP(w:World)(b:Nat)(M:List Td)(D:DataW Unit):Prop where
 own:w.ownsMap prog 27 Zo b M.length D
 at_ : ∀ x∈M,∀ zd,D.atKey (kB x.birth) zd=nD x
 has : ∀ s,Maps.has D (kB s)=true → ∃ x∈M,x.birth=s
 size:Maps.size D=M.length
section
variable{w w':World}{b:Nat}{M:List Td}{D:DataW Unit}{S:Nat→Prop}
theorem xP.mod(h:xP w b M D)(hm:Mod S w w')(hb : ¬ S b):xP w' b M D:=⟨Xi h.own hm hb,h.at_,h.has,h.size⟩
theorem xP.new(w:World):xP (w.alloc (.map #[] 0)) w.heap.size [] (.map []):=⟨XF _ _ _ _,(fun _ h=>by cases h),(fun s h=>by cases h),rfl⟩
theorem xP.has_mem(h:xP w b M D){x:Td}(hx:x∈M):Maps.has D (kB x.birth)=true:=Maps.has_true_of_atKey (h.at_ x hx)
theorem xP.not_has(h:xP w b M D){s:Nat}(hs : ∀ x∈M,x.birth≠s):Maps.has D (kB s)=false:=by
 cases hh:Maps.has D (kB s)with
 | false=>rfl
 | true=>obtain⟨x,hx,e⟩:=h.has s hh;exact absurd e (hs x hx)
theorem UE(w:World):(zeroValue 89).run prog w=.ok (.int .u32 (0:Nat)) w:=by kernel_rfl
theorem xP.look(h:xP w b M D){x:Td}(hx:x∈M)(hs:x.birth≤18446744073709551615):(Instr.lookup 162 (.map (some b)) (.int .u64 x.birth) true).run prog w=.ok (.tuple #[.int .u32 x.slot,.bool true]) w:=by
 obtain⟨v,ps,hrun,hv⟩:=h.own.look_ok kC underlying162 (UE w) (Ut _) (qK hs);rw[h.at_ x hx]at hv;obtain⟨y,rfl,e⟩:=Q1 hv;have:=zaZ (congrArg Prod.fst e);subst this;rw[hrun,h.has_mem hx]
theorem xP.look_no(h:xP w b M D){s:Nat}(hs:s≤18446744073709551615)(hn : ∀ x∈M,x.birth≠s):(Instr.lookup 162 (.map (some b)) (.int .u64 s) true).run prog w=.ok (.tuple #[.int .u32 0,.bool false]) w:=by
 obtain⟨v,ps,hrun,hv⟩:=h.own.look_ok kC underlying162 (UE w) (Ut _) (qK hs);have h0:=h.not_has hn;rw[Maps.atKey_of_not_has h0]at hv;obtain⟨y,rfl,e⟩:=Q1 hv;have:=zaZ (congrArg Prod.fst e);subst this;rw[hrun,h0]
 rfl
theorem xP.put{x:Td}(h:xP w b M D)(hn : ∀ y∈M,y.birth≠x.birth)(ho:w'.ownsMap prog 27 Zo b (M.length+1) (D.put (kB x.birth) (nD x))):xP w' b (x::M) (D.put (kB x.birth) (nD x)):=by
 have hm:=h.own.isMap;refine⟨ho,fun y hy zd => ?_,fun s hs => ?_,?_⟩
 ·rcases yx.1 hy with rfl | hy
  ·exact atKey_put_same hm (KS _) _ _
  ·rw[atKey_put_other (fun e=>hn y hy (ZF e))];exact h.at_ y hy zd
 ·by_cases e:s=x.birth
  ·exact⟨x,yD,e.symm⟩
  ·rw[has_put_other (fun c=>e (ZF c))]at hs;obtain⟨y,hy,e2⟩:=h.has s hs;exact⟨y,yE _ hy,e2⟩
 ·rw[Zz (h.own.tidy kC),h.not_has hn,h.size];rfl
theorem xP.del{x:Td}{M':List Td}(h:xP w b M D)(hx:x∈M)(hM : ∀ y,y∈M'↔y∈M∧y.birth≠x.birth)(hl:M'.length+1=M.length){n:Nat}(ho:w'.ownsMap prog 27 Zo b n (D.del (kB x.birth))):xP w' b M' (D.del (kB x.birth)):=by
 have hsz:Maps.size (D.del (kB x.birth))=M'.length:=by
  have:=Maps.size_del (k:=kB x.birth) (h.own.tidy kC);rw[h.has_mem hx,h.size]at this;simp at this;omega
 refine⟨by have:=YW ho;rw[hsz]at this;exact this,fun y hy zd => ?_,fun s hs => ?_,hsz⟩
 ·obtain⟨h1,h2⟩:=(hM y).1 hy;rw[atKey_del_other (fun c=>h2 (ZF c))];exact h.at_ y h1 zd
 ·by_cases e:s=x.birth
  ·subst e;rw[has_del_same]at hs
   cases hs
  ·rw[has_del_other (fun c=>e (ZF c))]at hs;obtain⟨y,hy,e2⟩:=h.has s hs;exact⟨y,(hM y).2 ⟨hy,fun c=>e (by rw[← e2,c])⟩,e2⟩
end
end
section
open Go.RowKit
def inL(Ls:List (List Nat))(n:Nat):Prop := ∃(k:Nat) (l:List Nat),Ls[k]? = some l∧n∈l
section
variable{w w':World}{p gF gL cF cL N:Nat}{Ls:List (List Nat)}{F:List Nd}{D:Nat→Prop}
theorem xz.free0(h:xz N Ls F){n:Nat}(hn:n<N)(hf : ¬ inL Ls n):(nd F n).ow=0:=by
 by_cases h0:(nd F n).ow=0
 ·exact h0
 ·obtain⟨k,l,h1,h2,_⟩:=h.free n hn h0;exact absurd ⟨k,l,h1,h2⟩ hf
theorem zil(h:xf w p gF gL cF cL N Ls F){n k:Nat}{l:List Nat}(hn:n<N)(hl:Ls[k]? = some l)(hf : ¬ inL Ls n) :
    Calls prog 282 #[lkP p,.int .i64 k,.int .u32 n,.bool false] w fun e w'=>e=.returned (.int .i64 0)∧xf w' p gF gL cF cL N (Ls.set k (l++[n])) (uZ F n (N+k))∧Mod (fun b=>b=gF∨b=gL) w w':=by
  have h0:=h.ok.free0 hn hf;obtain⟨a1,a2,a3,a4,a5,a6⟩:=h.ok.back hn h0 hl;have hk:k<Ls.length:=(zE.1 hl).1;have hk4:k≤4096:=by have:=h.hm;omega
  have HP:=za (zjk h hn a3 a2 a4 a5 a6 hl);have HLi:=za (Vn h hk);have HNo:=za (zaj h hn);have HRi:=za (J7 h hk4);have hb:=h.box;obtain⟨FL,hFL⟩:=zf F.length;have hnF:n<FL:=by rw[← hFL,h.ok.len];omega
  obtain⟨c0,c1,c2⟩:=h.at_ (i:=n) (by rw[hFL];exact hnF);rw[h0]at c2;rw[hFL]at hb;have dn:decide (n<FL)=true:=zQ hnF;have hend : ∀(w':World),w'.heap[gF]? = some (.cells (xg (uZ F n (N+k))).toArray 315 (0,0))→w'.heap[gL]? = some (.cells ((uc Ls).set k (.int .i64 ((l.length+1:Nat):Int))).toArray 3 (0,0))→Mod (fun b=>b=gF∨b=gL) w w'→xf w' p gF gL cF cL N (Ls.set k (l++[n])) (uZ F n (N+k)):=fun w' g1 g2 g3=>by
    obtain⟨n1,n2,n3⟩:=h.ne;refine⟨?_,g1,?_,a1,h.n1,h.nm,by rw[xC];exact h.hm⟩
    · rw[Jk,xC];exact g3.heap (fun e=>by rcases e with e | e;exact n1 e;exact n2 e) h.box
    · rw[← zad,zT];exact g2
  have HE:=za hend;have hFb:FL≤4198400:=by rw[← hFL,h.ok.len];have:=h.nm;have:=h.hm;omega
  clear h hend hFL a1 a2 a3 a4 a5 a6 c0 c1 hl hf h0;obtain⟨hb_0,hb_1,hb_2,hb_f,hb_l,H_hb⟩:=cr3 hb;clear hb;go_enter func282,ntmps282
  go_wp2_with (first
    | (go_at_call 283;refine HLi.out.mono ?_;rintro e w' ⟨rfl,rfl⟩)
    | (go_at_call 278;refine HNo.out.mono ?_;rintro e w' ⟨rfl,rfl⟩)
    | (go_at_call 203;refine HRi.out.mono ?_;rintro e w' ⟨rfl,rfl⟩)
    | (go_at_call 303;refine HP.out.mono ?_;rintro e w2 ⟨rfl,q1,q2,q3⟩))
  go_ret;exact⟨rfl,HE.out _ q1 q2 q3,q3⟩
theorem Kj(h:yl w D p N Ls){n k:Nat}{l:List Nat}(hn:n<N)(hl:Ls[k]? = some l)(hf : ¬ inL Ls n) :
  Calls prog 240 #[lkP p,.int .i64 k,.int .u32 n] w fun e w'=>e=.returned (.int .i64 0)∧yl w' D p N (Ls.set k (l++[n]))∧Mod D w w':=by
 obtain⟨gF,gL,cF,cL,F,h1,h2⟩:=h;have HA:=za (zil h1 hn hl hf);have H2:=za h2;clear h1 h2 hl hf hn;go_enter func240,ntmps240
 go_wp2_with (go_at_call 282;refine HA.out.mono ?_;rintro e w2 ⟨rfl,q1,q2⟩)
 go_ret;exact⟨rfl,⟨gF,gL,cF,cL,_,q1,H2.out⟩,q2.mono (fun k _ hk=>(H2.out k).2 (.inr hk))⟩
def Jw(Ls:List (List Nat))(n:Nat)(e:Ending):Prop:=(∃(k:Nat) (l:List Nat),Ls[k]? = some l∧n∈l∧e=.returned (.tuple #[.int .i64 k,.int .i64 0]))∨(¬ inL Ls n ∧ ∃ er:Int,er≠0∧e=.returned (.tuple #[.int .i64 0,.int .i64 er]))
theorem zbx(h:yl w D p N Ls){n:Nat}(h32:n≤4294967295):Calls prog 190 #[lkP p,.int .u32 n] w fun e w'=>Jw Ls n e∧w=w':=by
 obtain⟨gF,gL,cF,cL,F,h,h2⟩:=h;have HI:=za (za4 h h32);have hb:=h.box;by_cases hn:n<N∧(nd F n).ow≠0
 ·obtain⟨k,l,hl,hm,how⟩:=h.ok.free n hn.1 hn.2;have e0:inE N F n=0:=by unfold inE;rw[zj hn.1,zh hn.2]
  rw[e0]at HI;obtain⟨FL,hFL⟩:=zf F.length;have hnF:n<FL:=by rw[← hFL,h.ok.len];omega
  obtain⟨c0,c1,c2⟩:=h.at_ (i:=n) (by rw[hFL];exact hnF);rw[how]at c2;rw[hFL]at hb;have dn:decide (n<FL)=true:=zQ hnF;have hk:k<Ls.length:=(zE.1 hl).1;have hk4:k<4096:=by have:=h.hm;omega
  have HE:Hid (Jw Ls n (.returned (.tuple #[.int .i64 k,.int .i64 0]))):=za (Or.inl ⟨k,l,hl,hm,rfl⟩);obtain⟨kk,hkk⟩:=zf (k+1);rw[hkk]at c2;have wk:IntKind.i64.wrap ((kk:Int)-1)=(k:Int):=by rw[show(kk:Int)-1=(k:Int) by omega];exact zt _ (by omega)
  have wkk:IntKind.i64.wrap (kk:Int)=(kk:Int):=zt _ (by omega);clear h c0 c1 hl hm hn how e0 hFL hkk h2;obtain⟨hb_0,hb_1,hb_2,hb_f,hb_l,H_hb⟩:=cr3 hb;clear hb;go_enter func190,ntmps190
  go_wp2_with (go_at_call 238;refine HI.out.mono ?_;rintro e w' ⟨rfl,rfl⟩)
  go_ret2;exact⟨HE.out,rfl⟩
 ·have hni : ¬ inL Ls n:=fun⟨k,l,hl,hm⟩=>by
   have:=h.ok.own k l hl n hm;exact hn ⟨this.1,by omega⟩
  have e0:inE N F n≠0:=by
   unfold inE;split
   ·rename_i h1;have:(nd F n).ow=0:=by
     by_cases h0:(nd F n).ow=0
     ·exact h0
     ·exact absurd ⟨h1,h0⟩ hn
    rw[zj this];decide
   ·decide
  have HE : ∀ er,er≠0→Jw Ls n (.returned (.tuple #[.int .i64 0,.int .i64 er])):=fun er he=>Or.inr ⟨hni,er,he,rfl⟩
  have HE2:=za (HE _ e0);obtain⟨er,her⟩:=zf (inE N F n);rw[her]at HI HE2 e0;have b0:(er==0)=false:=by simpa using e0
  have b1:(er != 0)=true:=by simpa using e0
  clear h h2 hn HE her hni hb e0;go_enter func190,ntmps190
  go_wp2_with (go_at_call 238;refine HI.out.mono ?_;rintro e w' ⟨rfl,rfl⟩)
  go_ret2;exact⟨HE2.out,rfl⟩
theorem zc2(h:yl w D p N Ls){k:Nat}{l:List Nat}(hl:Ls[k]? = some l):Calls prog 241 #[lkP p,.int .i64 k] w fun e w'=>e=.returned (.int .i64 l.length)∧w=w':=by
 obtain⟨gF,gL,cF,cL,F,h,h2⟩:=h;have hk:k<Ls.length:=(zE.1 hl).1;have HLi:=za (Vn h hk);have hb:=h.box;have hc:=h.lenAt hl;obtain⟨H,hH⟩:=zf Ls.length;rw[hH]at hb hk;have hm:=h.hm;rw[hH]at hm;have dn:decide (k<H)=true:=zQ hk;clear h h2 hl hH;generalize l.length=n at *;obtain⟨hb_0,hb_1,hb_2,hb_f,hb_l,H_hb⟩:=cr3 hb;clear hb;go_enter func241,ntmps241
 go_wp2_with (go_at_call 283;refine HLi.out.mono ?_;rintro e w' ⟨rfl,rfl⟩)
 go_ret;exact⟨rfl,rfl⟩
theorem zcI(h:yl w D p N Ls):Calls prog 279 #[lkP p] w fun e w'=>e=.returned (.int .i64 N)∧w=w':=by
 obtain⟨gF,gL,cF,cL,F,h,h2⟩:=h;have HN:=za (XH h);have hb:=h.box;clear h h2;obtain⟨hb_0,hb_1,hb_2,hb_f,hb_l,H_hb⟩:=cr3 hb;clear hb;go_enter func279,ntmps279;exact Azmqn
end
theorem zkF:(prog.info? 315).map (fun i=>(i.zero,i.size,i.bytes))=some (some (.agg #[.int .u32 0,.int .u32 0,.int .u32 0]),3,12):=by kernel_rfl
theorem zkU:(prog.info? 3).map (fun i=>(i.zero,i.size,i.bytes))=some (some (.int .i64 0),1,8):=by kernel_rfl
def uv(N H i:Nat):List Nd:=(List.range (N+H)).map (fun j=>if N≤j∧j<N+i then⟨j,j,j-N+1⟩else ndZ)
theorem qg(N H i:Nat):(uv N H i).length=N+H:=by simp[uv]
theorem X7{N H i j:Nat}(hj:j<N+H):nd (uv N H i) j=if N≤j∧j<N+i then⟨j,j,j-N+1⟩else ndZ:=by
 unfold nd uv;rw[yz,qe hj]
 rfl
theorem zho{N H i:Nat}(hi:i<H):(uv N H i).set (N+i) ⟨N+i,N+i,i+1⟩=uv N H (i+1):=by
 refine uF (fun j => ?_);by_cases hj:j<N+H
 ·have h1:(uv N H (i+1))[j]? = some (nd (uv N H (i+1)) j):=U0 (by rw[qg];exact hj);rw[h1,X7 hj];by_cases e:N+i=j
  ·subst e;rw[yt (by rw[qg];omega),zj (by omega)]
   congr 2
   omega
  ·rw[yw e,U0 (by rw[qg];exact hj),X7 hj]
   congr 1
   by_cases c:N≤j∧j<N+i
   ·rw[zj c,zj (by omega)]
   ·rw[zh c,zh (by omega)]
 ·rw[xM (by rw[xC,qg];omega),xM (by rw[qg];omega)]
theorem zlm(N H:Nat):uv N H 0=List.replicate (N+H) ndZ:=by
 unfold uv;refine uF (fun j => ?_);rw[yz,vU];by_cases hj:j<N+H
 ·rw[qe hj,zj hj]
  show some (if _ then _ else _)=_
  rw[zh (by omega)]
 ·rw[xM (by simpa using hj),zh hj];rfl
theorem zhR(m:Nat):xg (List.replicate m ndZ)=List.replicate (m*3) (.int .u32 0):=by
 induction m with
 | zero=>rfl
 | succ m ih =>
  rw[ZO]
  show ndC ndZ++xg _=_
  rw[ih,show(m+1)*3=m*3+1+1+1 by omega,ZO,ZO,ZO]
  rfl
theorem zjz(m:Nat):madeCells (Value.agg #[.int .u32 0,.int .u32 0,.int .u32 0]).cells (m*3)=(xg (List.replicate m ndZ)).toArray:=by
 rw[zhR,show(Value.agg #[.int .u32 0,.int .u32 0,.int .u32 0]).cells=#[.int .u32 0,.int .u32 0,.int .u32 0]from rfl];apply Array.ext_getElem?;intro k;unfold madeCells;rw[Array.getElem?_map,show(List.replicate (m*3) (Value.int .u32 0)).toArray[k]? = (List.replicate (m*3) (Value.int .u32 0))[k]? from vK,vU];by_cases hk:k<m*3
 ·rw[zj hk];rw[YQ,zj hk]
  show some (#[Value.int .u32 0,.int .u32 0,.int .u32 0][k%3]!)=_
  have:k%3=0∨k%3=1∨k%3=2:=by omega
  rcases this with e | e | e<;>rw[e]<;>rfl
 ·rw[zh hk,YQ,zh hk];rfl
theorem zjc(m:Nat):madeCells (Value.int .i64 0).cells (m*1)=(uc (List.replicate m [])).toArray:=by
 rw[show(Value.int .i64 0).cells=#[.int .i64 0]from rfl];apply Array.ext_getElem?;intro k;unfold madeCells uc;rw[Array.getElem?_map,List.map_replicate,show(List.replicate m (Value.int .i64 (([]:List Nat).length:Nat))).toArray[k]? = (List.replicate m (Value.int .i64 (([]:List Nat).length:Nat)))[k]? from vK,vU,je];by_cases hk:k<m
 ·rw[zj hk,YQ,zj hk]
  show some (#[Value.int .i64 0][k%1]!)=_
  rw[Nat.mod_one];rfl
 ·rw[zh hk,YQ,zh hk];rfl
theorem ziC(N H:Nat):xz N (List.replicate H []) (uv N H H):=by
 have hl : ∀(h:Nat) (l:List Nat),(List.replicate H [])[h]? = some l→l=[]∧h<H:=fun h l hh=>by
  rw[vU]at hh;split at hh
  ·cases hh;exact⟨rfl,‹_›⟩
  ·cases hh
 refine⟨by rw[qg,vz],fun h l hh => ?_,fun h l hh => ?_,fun h l hh a ha => ?_,fun h hh => ?_,fun a ha hw => ?_⟩
 ·obtain⟨rfl,h1⟩:=hl h l hh;have:=X7 (N:=N) (H:=H) (i:=H) (j:=N+h) (by omega);rw[zj (by omega)]at this;exact⟨by rw[this],by rw[this],trivial⟩
 ·obtain⟨rfl,h1⟩:=hl h l hh;exact jR
 ·obtain⟨rfl,h1⟩:=hl h l hh;cases ha
 ·rw[vz]at hh;rw[X7 (by omega),zj (by omega)]
  show N+h-N+1=h+1
  omega
 ·rw[X7 (by omega),zh (by omega)]at hw;exact absurd rfl hw
structure jb(w:World)(p gF gL N H i:Nat)(W:World):Prop where
 pu:zb w W
 box:W.heap[p]? = some (.cells #[.slice (some ⟨gF,0,none⟩) (N+H) (N+H),.int .i64 N,.slice (some ⟨gL,0,none⟩) H H] 311 (0,0))
 fld:W.heap[gF]? = some (.cells (xg (uv N H i)).toArray 315 (0,0))
 len:W.heap[gL]? = some (.cells (uc (List.replicate H [])).toArray 3 (0,0))
 fp:w.heap.size≤p
 fF:w.heap.size≤gF
 fL:w.heap.size≤gL
theorem zbI(w:World)(N H:Nat):jb w (w.heap.size+1+1) w.heap.size (w.heap.size+1) N H 0 (((w.alloc (.cells (xg (uv N H 0)).toArray 315)).alloc (.cells (uc (List.replicate H [])).toArray 3)).alloc
  (.cells #[.slice (some ⟨w.heap.size,0,none⟩) (N+H) (N+H),.int .i64 N,.slice (some ⟨w.heap.size+1,0,none⟩) H H] 311)) :=
 ⟨(((Mod.refl _ w).alloc _).alloc _).alloc _,zk (by simp),zK (zK (zk rfl)),zK (zk (by simp)),by omega,zN _,by omega⟩
theorem zat(w:World)(N H:Nat):jb w (w.heap.size+1+1) (w.heap.size+1) w.heap.size N H 0 (((w.alloc (.cells (uc (List.replicate H [])).toArray 3)).alloc (.cells (xg (uv N H 0)).toArray 315)).alloc
  (.cells #[.slice (some ⟨w.heap.size+1,0,none⟩) (N+H) (N+H),.int .i64 N,.slice (some ⟨w.heap.size,0,none⟩) H H] 311)) :=
 ⟨(((Mod.refl _ w).alloc _).alloc _).alloc _,zk (by simp),zK (zk (by simp)),zK (zK (zk rfl)),by omega,by omega,zN _⟩
theorem jb.drew{w W:World}{p gF gL N H i:Nat}(h:jb w p gF gL N H i W):jb w p gF gL N H i W.drew :=
 ⟨h.pu.drew,h.box,h.fld,h.len,h.fp,h.fF,h.fL⟩
theorem jb.ring{w W:World}{p gF gL N H i:Nat}(h:jb w p gF gL N H i W)(k:Nat):Calls prog 203 #[.int .i64 k,lkP p] W fun e w'=>k≤4096→N≤4194304→e=.returned (.int .u32 (N+k:Nat))∧W=w':=by
 have hb:=h.box;clear h;by_cases hk:k≤4096∧N≤4194304
 ·obtain⟨hb_0,hb_1,hb_2,hb_f,hb_l,H_hb⟩:=cr3 hb;clear hb;obtain⟨hk,hm⟩:=hk;have ws:IntKind.i64.wrap ((N:Int)+(k:Int))=(N:Int)+(k:Int):=zt _ (by omega);have wu:IntKind.u32.wrap ((N:Int)+(k:Int))=(N:Int)+(k:Int):=by simp[IntKind.wrap,IntKind.signed,IntKind.bits];omega
  have wk:IntKind.i64.wrap (k:Int)=k:=zt _ (by omega);go_enter func203,ntmps203;go_wp2;go_ret;exact fun _ _=>⟨by go_num,rfl⟩
 ·obtain⟨hb_0,hb_1,hb_2,hb_f,hb_l,H_hb⟩:=cr3 hb;clear hb;go_enter func203,ntmps203;go_wp2;go_ret;exact fun h1 h2=>absurd ⟨h1,h2⟩ hk
theorem jb.next{w W:World}{p gF gL N H i:Nat}(h:jb w p gF gL N H i W)(hi:i<H) :
  jb w p gF gL N H (i+1) (((W.setCell ⟨gF,(N+i)*3,none⟩ (.int .u32 (N+i:Nat))).setCell ⟨gF,(N+i)*3+1,none⟩ (.int .u32 (N+i:Nat))).setCell ⟨gF,(N+i)*3+2,none⟩ (.int .u32 (i+1:Nat))):=by
 have hf:=Jd h.fld (i:=N+i) (by rw[qg];omega) (N+i) (N+i) (i+1);rw[zho hi]at hf;have hm:Mod (fun k=>k=gF) W (((W.setCell ⟨gF,(N+i)*3,none⟩ (.int .u32 (N+i:Nat))).setCell ⟨gF,(N+i)*3+1,none⟩ (.int .u32 (N+i:Nat))).setCell ⟨gF,(N+i)*3+2,none⟩ (.int .u32 (i+1:Nat))) :=
  (((Mod.refl (fun b=>b=gF) W).setCell (p:=⟨gF,(N+i)*3,none⟩) (fun _=>rfl) _).setCell (p:=⟨gF,(N+i)*3+1,none⟩) (fun _=>rfl) _).setCell (p:=⟨gF,(N+i)*3+2,none⟩) (fun _=>rfl) _
 have n1:p≠gF:=by rintro rfl;have:=h.box.symm.trans h.fld;injection this with this;injection this with _ this;exact absurd this (by decide)
 have n2:gL≠gF:=by rintro rfl;have:=h.len.symm.trans h.fld;injection this with this;injection this with _ this;exact absurd this (by decide)
 exact⟨h.pu.then hm (fun k hk e=>by have:=h.fF;omega),hm.heap n1 h.box,hf,hm.heap n2 h.len,h.fp,h.fF,h.fL⟩
theorem JE(w:World){N H:Nat}(hN:1≤N)(hN2:N≤4194304)(hH:1≤H)(hH2:H≤4096) :
  Calls prog 157 #[.int .i64 N,.int .i64 H] w fun e w' => ∃ p D,e=.returned (.tuple #[lkP p,.int .i64 0])∧yl w' D p N (List.replicate H [])∧zb w w' ∧ ∀ k,D k→w.heap.size≤k:=by
 obtain⟨iN,hi,iz0,iz1,iz2⟩:=xB zkF;obtain⟨iL,hj,jz0,jz1,jz2⟩:=xB zkU;have ws:IntKind.i64.wrap ((N:Int)+(H:Int))=(N:Int)+(H:Int):=zt _ (by omega);have hmF : ∀ W:World,(Instr.makeSlice 308 (.int .i64 ((N:Int)+(H:Int))) (.int .i64 ((N:Int)+(H:Int)))).run prog W=.ok (.slice (some ⟨W.heap.size,0,none⟩) (N+H) (N+H)) (W.alloc (.cells (xg (uv N H 0)).toArray 315)):=fun W=>by
  have:=run_make W 308 315 iN _ underlying308 hi iz0 .i64 .i64 ((N:Int)+(H:Int)) ((N:Int)+(H:Int)) (by omega) (Int.le_refl _) (by rw[iz2];omega) (by omega);rw[iz1,show((N:Int)+(H:Int)).toNat=N+H by omega,zjz,← zlm]at this;exact this
 have hmL : ∀ W:World,(Instr.makeSlice 309 (.int .i64 (H:Int)) (.int .i64 (H:Int))).run prog W=.ok (.slice (some ⟨W.heap.size,0,none⟩) H H) (W.alloc (.cells (uc (List.replicate H [])).toArray 3)):=fun W=>by
  have:=run_make W 309 3 iL _ underlying309 hj jz0 .i64 .i64 (H:Int) (H:Int) (by omega) (Int.le_refl _) (by rw[jz2];omega) (by omega);rw[jz1,show((H:Int)).toNat=H by omega,zjc]at this;exact this
 have d1:decide ((N:Int)<1)=false:=zU (by omega);have d2:decide ((4194304:Int)<(N:Int))=false:=zU (by omega);have d3:decide ((H:Int)<1)=false:=zU (by omega);have d4:decide ((4096:Int)<(H:Int))=false:=zU (by omega);clear hi iz0 iz1 iz2 hj jz0 jz1 jz2;go_enter func157,ntmps157;go_upto_region 3 with fail
 go_cut [6] (fun v wx => ∃ p gF gL,v=lkP p∧jb w p gF gL N H 0 wx)
 case first =>
  clear d1 d2 d3 d4
  go_region
  all_goals
   (try go_wp2)
   go_meet
   first
    | exact⟨_,_,_,rfl,zbI w N H⟩
    | exact⟨_,_,_,rfl,zat w N H⟩
    | exact⟨_,_,_,rfl,(zbI w N H).drew⟩
    | exact⟨_,_,_,rfl,(zat w N H).drew⟩
 case rest =>
  obtain⟨p,gF,gL,rfl,hinv⟩:=hcut;have HI:=za hinv;clear hinv hmF hmL ws d1 d2 d3 d4;go_upto_region 5 with fail
  go_loopw [33] (fun v wr => ∃ i,v=.int .i64 (i:Nat)∧i≤H∧jb w p gF gL N H i wr) (fun v _=>H-(intOf v).toNat)
  case atStart=>exact⟨0,rfl,yq _,HI.out⟩
  case round =>
   clear HI;obtain⟨i,rfl,hi,hinv⟩:=hrel;have HI:=za hinv;have hb:=hinv.box;by_cases hlt:i<H
   ·have hlt':(i:Int)<(H:Int):=by omega
    have i0:(0:Int)≤(i:Int):=by omega
    have wi:IntKind.i64.wrap ((i:Int)+1)=(i:Int)+1:=zt _ (by omega);have wi0:IntKind.i64.wrap (i:Int)=(i:Int):=zt _ (by omega);have wu:IntKind.u32.wrap ((i:Int)+1)=(i:Int)+1:=by have:=XY (i+1) (by omega);simpa using this
    have HR:=za (hinv.ring i);have HNx:=za (hinv.next hlt);obtain⟨r,hr⟩:=zf (N+i);rw[hr]at HR HNx;have hrl:r<N+H:=by omega
    obtain⟨q0,q1,q2⟩:=Zq hinv.fld (i:=r) (by rw[qg];exact hrl);have g0:=yS wr gF (r*3) _ _ hinv.fld;have g1:=yS wr gF (r*3+1) _ _ hinv.fld;have g2:=yS wr gF (r*3+2) _ _ hinv.fld;have hX:gF<wr.heap.size:=zm hinv.fld;obtain⟨M,hM⟩:=zf (N+H);rw[hM]at hb hrl;have hMb:M≤4198400:=by omega
    have dr:decide (r<M)=true:=zQ hrl;clear hinv hr hM;obtain⟨hb_0,hb_1,hb_2,hb_f,hb_l,H_hb⟩:=cr3 hb;clear hb
    go_wp2_with (go_at_call 203;refine HR.out.mono ?_;rintro e w' he;obtain⟨rfl,rfl⟩:=he (by omega) (by omega))
    go_roundw
    case rel=>exact⟨i+1,by go_num,hlt,by have:=HNx.out;simpa using this⟩
    case measure=>simp[intOf];omega
   ·have e:H=i:=by omega
    subst e;have hend:yl wr (fun k=>k=p∨k=gF∨k=gL) p N (List.replicate H []):=⟨gF,gL,N+H,H,uv N H H,⟨by rw[qg,vz];exact hinv.box,hinv.fld,hinv.len,ziC N H,hN,hN2,by rw[vz];exact hH2⟩,fun k=>xZ⟩;have HE:=za hend;clear hend hinv hlt hi hb;go_wp2;go_ret2;exact⟨p,_,rfl,HE.out,HI.out.pu,fun k hk=>by rcases hk with rfl | rfl | rfl;exact HI.out.fp;exact HI.out.fF;exact HI.out.fL⟩
end
section
open Go.Shelf Go.Proofs
def zgl:Go.Shelf.Ren:=⟨fun | 6=>209 | 15=>256 | 14=>255 | 28=>299 | 29=>251 | 20=>291 | 21=>292 | 22=>293 | 23=>294 | 24=>295 | 25=>296 | 26=>297 | 27=>298 | 46=>306 | 47=>307 | 48=>308 | 49=>309 | 50=>310 | 57=>312 | n=>n,fun | 22=>195 | 24=>198 | 25=>326 | 3=>3 | 39=>345 | 0=>0 | 53=>89 | 55=>27 | 4=>4 | 46=>382 | 45=>381 | 50=>149 | 5=>5 | 9=>9 | 66=>392 | 70=>395 | 76=>399 | 77=>199 | n=>n,fun | n=>n⟩
theorem QU:Go.Proofs.SlLaysF0.n6 prog zgl := {
 mixed:=by kernel_rfl
 f6:=⟨f209.name,by decide,func209.trans (congrArg some (by kernel_rfl))⟩
 f14:=⟨f255.name,by decide,func255.trans (congrArg some (by kernel_rfl))⟩
 f15:=func256.trans (congrArg some (by kernel_rfl))
 f20:=⟨f291.name,by decide,func291.trans (congrArg some (by kernel_rfl))⟩
 f21:=⟨f292.name,by decide,func292.trans (congrArg some (by kernel_rfl))⟩
 f22:=⟨f293.name,by decide,func293.trans (congrArg some (by kernel_rfl))⟩
 f23:=⟨f294.name,by decide,func294.trans (congrArg some (by kernel_rfl))⟩
 f24:=⟨f295.name,by decide,func295.trans (congrArg some (by kernel_rfl))⟩
 f25:=⟨f296.name,by decide,func296.trans (congrArg some (by kernel_rfl))⟩
 f26:=⟨f297.name,by decide,func297.trans (congrArg some (by kernel_rfl))⟩
 f27:=⟨f298.name,by decide,func298.trans (congrArg some (by kernel_rfl))⟩
 f28:=func299.trans (congrArg some (by kernel_rfl))
 f29:=func251.trans (congrArg some (by kernel_rfl))
 f46:=⟨f306.name,by decide,func306.trans (congrArg some (by kernel_rfl))⟩
 f47:=func307.trans (congrArg some (by kernel_rfl))
 f48:=func308.trans (congrArg some (by kernel_rfl))
 f49:=⟨f309.name,by decide,func309.trans (congrArg some (by kernel_rfl))⟩
 f50:=⟨f310.name,by decide,func310.trans (congrArg some (by kernel_rfl))⟩
 f57:=⟨f312.name,by decide,func312.trans (congrArg some (by kernel_rfl))⟩
 t0:=underlying0
 a0:=isAgg0
 z0:=sizeOf0
 v0:=zeroValue0
 t3:=underlying3
 a3:=isAgg3
 z3:=sizeOf3
 v3:=zeroValue3
 t4:=underlying4
 a4:=isAgg4
 z4:=sizeOf4
 v4:=zeroValue4
 t5:=underlying5
 a5:=isAgg5
 z5:=sizeOf5
 v5:=zeroValue5
 t9:=underlying9
 a9:=isAgg9
 z9:=sizeOf9
 v9:=zeroValue9
 t22:=underlying195
 a22:=isAgg195
 z22:=sizeOf195
 v22:=zeroValue195
 t25:=underlying326
 a25:=isAgg326
 z25:=sizeOf326
 v25:=zeroValue326
 t39:=underlying345
 a39:=isAgg345
 z39:=sizeOf345
 v39:=zeroValue345
 t45:=underlying381
 a45:=isAgg381
 z45:=sizeOf381
 v45:=zeroValue381
 t46:=underlying382
 a46:=isAgg382
 z46:=sizeOf382
 v46:=zeroValue382
 t50:=underlying149
 a50:=isAgg149
 z50:=sizeOf149
 v50:=zeroValue149
 t53:=underlying89
 a53:=isAgg89
 z53:=sizeOf89
 v53:=zeroValue89
 t55:=underlying27
 a55:=isAgg27
 z55:=sizeOf27
 v55:=zeroValue27
 t66:=underlying392
 a66:=isAgg392
 z66:=sizeOf392
 v66:=zeroValue392
 t70:=underlying395
 a70:=isAgg395
 z70:=sizeOf395
 v70:=zeroValue395
 t76:=underlying399
 a76:=isAgg399
 z76:=sizeOf399
 v76:=zeroValue399
 t77:=underlying199
 a77:=isAgg199
 z77:=sizeOf199
 v77:=zeroValue199}
end
section
open Go.RowKit Go.Maps Go.MapKept Go.ChangeMaps Go.WideElems
variable{H:Type}{P:Program}{k e t:TypeId}{R:Value→Option (DataW H × List MemPlace)}{w:World}{b n:Nat}{D:DataW H}
theorem Azvlv {P:Prop}(h:P:=by
 simp[Instr.entryStore,MapKept.run_getObj_map hw2,asInt,asIntOf,hidx,hmod,MapKept.run_setObj_map _ hw2,Result.andThen,setBlock]):P:=h
theorem Vt(h:w.ownsMap P k R b n D)(K:Keyed P k)(ht:P.underlying t=some (.map k e)){z:Value}(hz : ∀ u:World,(zeroValue e).run P u=.ok z u)(hn:n<maxLen){key:Value}{kl:Lit}(hkey:keyOf P k key=some kl) :
  ∃(v0:Value) (st:Nat) (w1:World) (o1:Obj),(Instr.mapEntry t (.map (some b)) key).run P w=.ok (.tuple #[v0,.int .i64 (st:Int)]) w1∧w1.heap[b]? = some o1∧w.grownBy w1 (some b) ∧
   ∀(w2:World) (val:Value) (d:DataW H) (ps:List MemPlace),w2.heap[b]? = some o1→R val=some (d,ps) → ∃ w3,(Instr.entryStore t (.map (some b)) (.int .i64 (st:Int)) val).run P w2=.ok () w3∧w3.ownsMap P k R b (n+1) (D.put kl d)∧w2.grownBy w3 (some b):=by
 have hput : ∀ val d ps,R val=some (d,ps) → ∃ w',(Instr.mapUpdate t (.map (some b)) key val).run P w=.ok () w'∧w'.ownsMap P k R b (n+1) (D.put kl d):=fun val d ps hv=>by
  obtain⟨w',h1,h2,_⟩:=h.update K ht hn hkey hv;exact⟨w',h1,h2⟩
 obtain⟨es,clock,hb,F,hs,hD⟩:=h;obtain⟨s1,s2,_⟩:=F.stamped;have fin : ∀(w2:World) (val:Value) (d:DataW H) (ps:List MemPlace) (es2:Array MapEntry) (c2:Nat) (es':Array MapEntry) (clock':Nat),w2.heap[b]? = some (.map es2 c2)→R val=some (d,ps)→(Instr.mapUpdate t (.map (some b)) key val).run P w=.ok () (setBlock w b (.map es' clock')) →
   (setBlock w2 b (.map es' clock')).ownsMap P k R b (n+1) (D.put kl d)∧w2.grownBy (setBlock w2 b (.map es' clock')) (some b):=fun w2 val d ps es2 c2 es' clock' hw2 hv hup=>by
  obtain⟨w',h1,h2⟩:=hput val d ps hv;rw[hup]at h1;injection h1 with _ h1
  subst h1;obtain⟨e1,c1,k1,k2,k3,k4⟩:=h2;rw[heap_setBlock_same hb]at k1;injection k1 with k1
  injection k1 with k1 k5
  subst k1 k5;exact⟨⟨_,_,heap_setBlock_same hw2 _,k2,k3,k4⟩,⟨rfl,rfl,rfl,by simp[setBlock],fun i _ hi=>heap_setBlock_other hw2 _ (fun e=>hi (by rw[e]))⟩⟩
 have hgr : ∀(o:Obj),w.grownBy (setBlock w b o) (some b):=fun o=>⟨rfl,rfl,rfl,by simp[setBlock],fun i _ hi=>heap_setBlock_other hb _ (fun e=>hi (by rw[e]))⟩
 rcases K.find w hkey es.toList F.keys with⟨h1,h2⟩ | ⟨j,e0,h1,h2,h3⟩
 ·refine⟨z,clock,setBlock w b (.map (es.push ⟨key,z,clock⟩) (clock+1)),_,?_,heap_setBlock_same hb _,hgr _,fun w2 val d ps hw2 hv=>⟨setBlock w2 b (.map (es.push ⟨key,val,clock⟩) (clock+1)),?_,?_⟩⟩
  ·simp[Instr.mapEntry,run_underlying ht,MapKept.run_getObj_map hb,K.check w false hkey,h1,hz,MapKept.run_setObj_map _ hb,Result.andThen,setBlock,goInt]
  ·have hidx:(es.push ⟨key,z,clock⟩).findIdx? (fun e=>((e.born:Nat):Int)==((clock:Nat):Int))=some es.size:=by
    rw[WideElems.findIdx_arr];exact WideElems.findIdx_born (l:=(es.push ⟨key,z,clock⟩).toList) (j:=es.size) (e0:=⟨key,z,clock⟩) (by
     simp only[Array.toList_push,List.map_append,List.map_cons,List.map_nil];refine xy.2 ⟨s2,by simp,fun a ha c hc e1 => ?_⟩;simp only[List.mem_singleton]at hc;obtain⟨x,hx,rfl⟩:=zI.1 ha;have:=s1 x hx;omega) (by simp)
   have hmod:(es.push ⟨key,z,clock⟩).modify es.size (fun e => {e with val:=val})=es.push ⟨key,val,clock⟩:=by
    apply Array.ext';rw[Vp,Array.toList_push,Array.toList_push,← Array.length_toList,WideElems.modify_last]
   exact Azvlv
  ·refine fin w2 val d ps _ _ _ _ hw2 hv ?_;simp[Instr.mapUpdate,run_underlying ht,MapKept.run_getObj_map hb,K.check w false hkey,h1,MapKept.run_setObj_map _ hb,Result.andThen,setBlock]
 ·have hj:es[j]? = some e0:=by simpa using h2
  have hsame:es.modify j (fun e => {e with key:=key})=es:=by
   apply Array.ext';rw[Vp,modify_eq_set _ _ _ _ h2,show({e0 with key:=key}:MapEntry)=e0 by rw[← h3]];exact WideElems.set_self _ _ _ h2
  refine⟨e0.val,e0.born,setBlock w b (.map es clock),_,?_,heap_setBlock_same hb _,hgr _,fun w2 val d ps hw2 hv=>⟨setBlock w2 b (.map (es.modify j (fun e' => {e' with key:=key,val:=val})) clock),?_,?_⟩⟩
  ·simp[Instr.mapEntry,run_underlying ht,MapKept.run_getObj_map hb,K.check w false hkey,h1,hj,h3,K.stays w hkey,hsame,MapKept.run_setObj_map _ hb,Result.andThen,setBlock,goInt]
  ·have hidx:es.findIdx? (fun e=>((e.born:Nat):Int)==((e0.born:Nat):Int))=some j:=by
    rw[WideElems.findIdx_arr];exact WideElems.findIdx_born s2 h2
   have hmod:es.modify j (fun e => {e with val:=val})=es.modify j (fun e' => {e' with key:=key,val:=val}):=by
    apply Array.ext';rw[Vp,Vp,modify_eq_set _ _ _ _ h2,modify_eq_set _ _ _ _ h2,← h3]
   exact Azvlv
  ·refine fin w2 val d ps _ _ _ _ hw2 hv ?_;simp[Instr.mapUpdate,run_underlying ht,MapKept.run_getObj_map hb,K.check w false hkey,h1,hj,h3,K.stays w hkey,MapKept.run_setObj_map _ hb,Result.andThen,setBlock]
end
end Go.Proofs.YtifbnponicgplaaGreatDoor
