/- Lemmas and contracts of functions. No condition. -/
import Derived.Test.YtifbnponicgplaaGreatDoorJPfBoth4211
import Derived.Lib.AppendZerosOnto
import Derived.Deep.Slices
import Derived.Laws.CopyRow
namespace Go.Proofs.YtifbnponicgplaaGreatDoor
open _root_.Go.Proofs.Tryz
set_option maxRecDepth 100000
set_option maxHeartbeats 20000000
set_option linter.all false
section
open Go.RowKit
theorem ZX(xs:List Wt) : ∀ u∈xs.flatMap wtC,u.oneCell'=true:=by
 intro u hu;obtain⟨x,_,hu⟩:=Zb.1 hu;simp[wtC]at hu;rcases hu with rfl | rfl<;>rfl
theorem jD(xs:List Wt):(xs.flatMap wtC).length=xs.length*2:=by
 induction xs with
 | nil=>rfl
 | cons x r ih=>rw[qE,zT,ih];simp[wtC];omega
@[go_sem] theorem zmo (w : World) (a : Option Addr) (n c : Nat) : (binOp .eql 202 (.slice a n c) (.slice none 0 0)).run prog w=.ok (.bool a.isNone) w :=
 Lib.run_eql_slice_nil w _ _ a n c 0 0 underlying202
section
variable{w:World}
def zfS(w:World)(e:Ending)(w':World):Prop := ∃ a c,e=.returned (.slice a 0 c)∧w'.ownsRow 0 247 2 (.slice a 0 c) 0 []∧xq w (.slice a 0 c)∧zb w w'
theorem zhl(n:Nat)(hn:n≤8388608):Calls prog 259 #[.slice none 0 0,.int .i64 n] w (zfS w):=by
 obtain⟨i0,hi,iz0,iz1,iz2⟩:=xB Xg;have h1 : ¬ ((n:Int)<0):=by omega
 by_cases h0:n=0
 ·subst h0;go_enter func259,ntmps259;go_wp2;go_ret;exact⟨none,0,rfl,vV _ _ _ _,(fun g e=>by cases e),Mod.refl _ _⟩
 ·have h4:(n:Int)>0:=by omega
  have w0:IntKind.i64.wrap ((0:Int)-0)=0:=by rfl
  have w1:IntKind.i64.wrap ((n:Int)-0)=n:=by rw[Int.sub_zero];exact zt _ (by omega)
  have hrz : ∀ ty,(Builtin.append_ #[202,3] ty #[.slice none 0 0,.int .i64 (n:Nat)]).run prog w=.ok (.slice (some ⟨w.heap.size,0,none⟩) n (grownCap w n 0 247)) (w.drew.alloc (.cells (#[]++Builtin.zeroCells #[.int .u32 0,.int .i64 0] n++Builtin.zeroCells #[.int .u32 0,.int .i64 0] (grownCap w n 0 247-n)) 247)):=fun ty=>by
   have h:=Lib.run_append_grow_zeros (P:=prog) w 202 3 ty 247 i0 _ .i64 .i64 underlying202 underlying3 hi iz0 none 0 0 [] (run_firstCells_none w.drew i0.size 0 0 0) n (by omega) (by rw[iz1];decide) (by omega) (by omega)
    (by rw[iz2];omega) (growslice_fits (by omega) (by rw[iz2];omega))
   rw[ZM]at h;exact h
  have hGn:n≤grownCap w n 0 247:=grownCap_ge w _ _ _;have hG63:=grownCap_le_maxLen w n 0 247 (by unfold maxLen;omega);obtain⟨G,hG⟩:=zf (grownCap w n 0 247);rw[hG]at hrz hGn hG63;have hG64:G≤9223372036854775807:=by unfold maxLen at hG63;omega
  have hG65:(0:Int)≤(G:Int):=by omega
  have HG:=za hG63;clear hG hG63;go_enter func259,ntmps259
  go_wp2_with (at_builtin;refine Lib.wpList_append_run _ rfl _ _ _ _ rfl _ _ rfl rfl _ _ (hrz _) ?_)
  go_ret;refine⟨some ⟨w.heap.size,0,none⟩,G,rfl,World.ownsRow_made w.drew _ G (yq _) HG.out ?_,fun g e=>by cases e;exact zN _,((Mod.refl _ w).drew).alloc _⟩;simp[size_zeroCells];omega
theorem ziE(a:Option Addr)(n c:Nat)(xs:List Value)(hx:zr w (.slice a n c) 2 xs)(hn:n≤4294967295) :
  Calls prog 261 #[.slice a n c] w (Jr 247 2 xs w):=by
 obtain⟨i0,hi,hz0,hz1,hz2⟩:=xB Xg;have hlen:xs.length=n*2:=jY hx
 cases a with
 | none =>
  have h0:=QA _ _ _ _ _ hx;have H:=za hx;clear hx;go_enter func261,ntmps261;exact Azole
 | some ad =>
  have H:=za (hx.frame ((Mod.refl (fun _=>False) w).alloc (.cells #[] 247)) (fun _ _ h=>h));clear hx;have HO:=za (zcB w 247 2);go_enter func261,ntmps261
  go_wp2_with (at_builtin;refine uX _ rfl _ _ 202 rfl 247 i0 _ 2 16 underlying202 hi hz0 hz1 hz2 rfl (by decide) _ 0 [] rfl HO.out _ xs n rfl H.out hlen (by unfold maxLen;omega) (by omega) ?_;intro a' c' w1 ho hg hb)
  exact Az2jg
def zdg(xs ys:List Wt):Nat→List Wt
 | 0=>[]
 | 1=>xs
 | _=>xs++ys
structure XJ(w:World)(zs:List Wt)(a:Option Addr)(c:Nat)(wr:World):Prop where
 row:Z5 wr a c zs
 fr:xq w (.slice a zs.length c)
 pu:zb w wr
theorem XJ.app{zs ys:List Wt}{a a':Option Addr}{c c':Nat}{wr w':World}(h:XJ w zs a c wr)(ho:w'.ownsRow 0 247 2 (.slice a' (zs.length+ys.length) c') (zs.length+ys.length) (zs.flatMap wtC++ys.flatMap wtC))(hg:wr.grownBy w' (Value.slice a zs.length c).ownBlock)
  (hb:(Value.slice a' (zs.length+ys.length) c').ownBlock=(Value.slice a zs.length c).ownBlock∨(Value.slice a' (zs.length+ys.length) c').ownBlock=some wr.heap.size):XJ w (zs++ys) a' c' w':=by
 refine⟨?_,?_,h.pu.then (Mod.of_grown (S:=fun k=>(Value.slice a zs.length c).ownBlock=some k) hg (fun k e _=>e)) (fun i hi e=>by have:=h.fr i e;omega)⟩
 ·show World.ownsRow _ _ _ _ _ _ _
  rw[zT,ZQ];exact ho
 ·rw[zT];intro g e;rcases hb with hb | hb
  ·exact h.fr g (hb ▸ e)
  ·rw[hb]at e;cases e;exact h.pu.size
theorem zhH{b:Nat}{a1 a2:Option Addr}{c1 c2:Nat}{xs ys:List Wt}(hb:w.heap[b]? = some (.cells #[.slice a1 xs.length c1,.slice a2 ys.length c2] 202 (0,0)))
  (h1:zr w (.slice a1 xs.length c1) 2 (xs.flatMap wtC)) (h2:zr w (.slice a2 ys.length c2) 2 (ys.flatMap wtC)) (hx:xs.length≤4194304) (hy:ys.length≤4194304) :
  Calls prog 214 #[.slice (some ⟨b,0,none⟩) 2 2] w (ZT w (xs++ys)):=by
 obtain⟨i0,hi,iz0,iz1,iz2⟩:=xB Xg;have HB:=za hb;have H1:=za h1;have H2:=za h2;have l1:=jD xs;have l2:=jD ys;obtain⟨n1,hn1⟩:=zf xs.length;obtain⟨n2,hn2⟩:=zf ys.length;have HN1:=za hn1;have HN2:=za hn2;have HL1:=za l1;have HL2:=za l2;rw[hn1]at hb hx;rw[hn2]at hb hy;clear h1 h2 hn1 hn2 l1 l2;have HGR:=za (zhl (w:=w) (n1+n2) (by omega));go_enter func214,ntmps214;obtain⟨hb_0,hb_1,hb_f,hb_l,H_hb⟩:=cr2 hb;clear hb;go_wp2;go_loopw [3,11] (fun v3 v11 wr => ∃(k s:Nat),k≤2∧v11=.int .i64 (k:Nat)∧v3=.int .i64 (s:Nat)∧(k=0→s=0)∧(k=1→s=n1)∧(k=2→s=n1+n2)∧wr=w) (fun _ v11 _=>2-(intOf v11).toNat)
 case atStart=>exact⟨0,0,by omega,rfl,rfl,by omega,by omega,by omega,rfl⟩
 case round =>
  obtain⟨k,s,hk,rfl,rfl,hs0,hs1,hs2,rfl⟩:=hrel;obtain rfl | rfl | rfl:k=0∨k=1∨k=2:=by omega
  ·obtain rfl:=hs0 rfl;clear hs0 hs1 hs2 hk;have e1:IntKind.i64.wrap (0+(n1:Int))=n1:=by rw[Int.zero_add];exact zt _ (by omega)
   have e2 : ¬ ((n1:Int)<0):=by omega
   go_wp2;go_roundw
   case rel=>exact⟨1,n1,by omega,rfl,rfl,by omega,by omega,by omega,by first | rfl | trivial⟩
   case measure=>simp[intOf]
  ·obtain rfl:=hs1 rfl;clear hs0 hs1 hs2 hk;have e1:IntKind.i64.wrap ((s:Int)+(n2:Int))=((s+n2:Nat):Int):=by rw[zt _ (by omega)];omega
   have e2 : ¬ (((s+n2:Nat):Int)<0):=by omega
   go_wp2;go_roundw
   case rel=>exact⟨2,s+n2,by omega,rfl,rfl,by omega,by omega,by omega,by first | rfl | trivial⟩
   case measure=>simp[intOf]
  ·obtain rfl:=hs2 rfl;clear hs0 hs1 hs2 hk;clear hb_0 hb_1 hb_f hb_l;clear H_hb
   go_wp2_with (go_at_call 259;refine HGR.out.mono ?_;rintro e w3 ⟨a3,c3,rfl,ho3,hf3,hp3⟩)
   have hb3:=hp3.heap (fun h=>h) HB.out;have HI0:Hid (XJ wr [] a3 c3 w3):=za ⟨ho3,hf3,hp3⟩;have hr1:=H1.out.frame hp3 (fun _ _ h=>h);have hr2:=H2.out.frame hp3 (fun _ _ h=>h);have HP3:=za hp3;have HR1:=za H1.out;have HR2:=za H2.out;rw[HN1.out]at HR1;rw[HN2.out]at HR2;rw[HN1.out,HN2.out]at hb3;clear hr1 hr2 ho3 hf3 hp3;obtain⟨hb3_0,hb3_1,hb3_f,hb3_l,H_hb3⟩:=cr2 hb3;clear hb3;go_loopw [6,27] (fun v6 v27 wx => ∃(k m:Nat) (a:Option Addr) (c:Nat),k≤2∧v27=.int .i64 (k:Nat)∧v6=.slice a m c∧m=(zdg xs ys k).length∧XJ wr (zdg xs ys k) a c wx) (fun _ v27 _=>2-(intOf v27).toNat)
   case atStart=>exact⟨0,0,a3,c3,by omega,rfl,rfl,rfl,HI0.out⟩
   case round =>
    obtain⟨k,m,a,c,hk,rfl,rfl,hm,hI⟩:=hrel;have HI:=za hI;have HM:=za hm;have hbx:=hI.pu.heap (fun h=>h) HB.out;rw[HN1.out,HN2.out]at hbx;clear hI hm;obtain rfl | rfl | rfl:k=0∨k=1∨k=2:=by omega
    ·obtain⟨hbx_0,hbx_1,hbx_f,hbx_l,H_hbx⟩:=cr2 hbx;clear hbx;obtain rfl:m=0:=HM.out;go_upto_region 14 with(at_builtin;refine uX _ rfl _ _ 202 rfl 247 i0 _ 2 16 underlying202 hi iz0 iz1 iz2 rfl (by decide) (.slice a 0 c) 0 _ rfl HI.out.row _ (xs.flatMap wtC) n1 rfl (HR1.out.frame HI.out.pu (fun _ _ h=>h)) (by rw[jD,HN1.out]) (by unfold maxLen;omega) (by omega) ?_;intro a7 c7 w7 hr7 hg7 hb7)
     rw[← HN1.out]at hr7 hb7;have HI7:=za (HI.out.app hr7 hg7 hb7);clear hr7 hg7 hb7 hk;clear hbx_0 hbx_1 hbx_f hbx_l;clear H_hbx;go_wp2;go_roundw
     case rel=>exact⟨1,_,a7,c7,by omega,rfl,rfl,HN1.out.symm,HI7.out⟩
     case measure=>simp[intOf]
    ·obtain⟨hbx_0,hbx_1,hbx_f,hbx_l,H_hbx⟩:=cr2 hbx;clear hbx;have HMX:=za (show m=n1 from HM.out.trans HN1.out);go_upto_region 14 with(at_builtin;refine uX _ rfl _ _ 202 rfl 247 i0 _ 2 16 underlying202 hi iz0 iz1 iz2 rfl (by decide) (.slice a m c) m _ rfl (by rw[HM.out];exact HI.out.row) _ (ys.flatMap wtC) n2 rfl (HR2.out.frame HI.out.pu (fun _ _ h=>h)) (by rw[jD,HN2.out]) (by have:=HMX.out;unfold maxLen;omega) (by have:=HMX.out;omega) ?_;intro a7 c7 w7 hr7 hg7 hb7)
     rw[HM.out,← HN2.out]at hr7 hb7;rw[HM.out]at hg7;have HI7:=za (HI.out.app hr7 hg7 hb7);clear hr7 hg7 hb7 hk;clear hbx_0 hbx_1 hbx_f hbx_l;clear H_hbx;go_wp2;go_roundw
     case rel=>exact⟨2,m+n2,a7,c7,by omega,rfl,rfl,by rw[HMX.out,← HN1.out,← HN2.out];exact(zT ..).symm,HI7.out⟩
     case measure=>simp[intOf]
    ·clear hbx hk;go_wp2;go_ret;refine⟨a,c,by rw[HM.out];rfl,HI.out.row,HI.out.fr,HI.out.pu⟩
end
theorem zbX{W:World}{ad:Addr}{k j:Nat}{u:Value}(h:W.cell? (ad.add (k+(j+1)))=some u):W.cell? ⟨(ad.add k).block,(ad.add k).off+(j+1),none⟩=some u:=by
 rw[← Go.Deep.add_add]at h;unfold Addr.add at h ⊢;rw[zh (by omega)]at h;exact h
theorem YP{L:List Wt}{j:Nat}{x:Wt}(hx:L[j]? = some x):(L.flatMap wtC)[j*2]? = some (.int .u32 x.slot)∧(L.flatMap wtC)[j*2+1]? = some (.int .i64 x.cost):=by
 have g:=fun i (hi:i<2)=>uO wtC 2 (fun _=>rfl) i hi L j
 exact⟨by have:=g 0 (by omega);rw[XC]at this;rw[this,hx];rfl,by rw[g 1 (by omega),hx];rfl⟩
theorem Ka{w:World}{a:Option Addr}{n c:Nat}{L:List Wt}(h:zr w (.slice a n c) 2 (L.flatMap wtC)){j:Nat}{x:Wt}(hx:L[j]? = some x) :
  ∃ ad,a=some ad∧w.cell? (ad.add (j*2))=some (.int .u32 x.slot)∧w.cell? ⟨(ad.add (j*2)).block,(ad.add (j*2)).off+1,none⟩=some (.int .i64 x.cost):=by
 obtain⟨a',n',c',e,hl,_,h0,hc⟩:=h;injection e with e1 e2 e3
 subst e1 e2 e3;have hj:=(zE.1 hx).1
 cases a with
 | none =>
  have:=h0 rfl;subst this;rw[jD]at hl;omega
 | some ad=>exact⟨ad,rfl,hc ad rfl _ _ (YP hx).1,zbX (j:=0) (hc ad rfl _ _ (YP hx).2)⟩
section
variable{w w':World}{bc keep:Nat}{cv:Value}
abbrev ChC(w:World)(bc:Nat)(cv:Value)(keep:Nat):Prop:=w.heap[bc]? = some (.cells #[cv,.int .u32 keep] 272 (0,0))
theorem zaa(h:ChC w bc cv keep)(s:Nat)(k:Int):Calls prog 262 #[.agg #[.int .u32 s,.int .i64 k],.pointer (some ⟨bc,0,none⟩)] w fun e w'=>e=.returned (.bool (decide (s=keep)))∧zb w w':=by
 have hc:w.cell? ⟨bc,1,none⟩=some (.int .u32 keep):=zi w bc 1 _ _ (0,0) h;have hlt:=zm h;clear h;by_cases e:s=keep
 ·subst e;go_enter func262,ntmps262;go_wp2;go_ret;exact⟨by simp,(Mod.refl _ w).alloc _⟩
 ·have e1:((s:Int)==(keep:Int))=false:=kQ.2 (by omega);go_enter func262,ntmps262;go_wp2;go_ret;exact⟨by simp[e],(Mod.refl _ w).alloc _⟩
def vt(keep:Nat)(x:Wt):Bool:=decide (x.slot=keep)
def Za(keep:Nat)(L:List Wt):Int:=match L.findIdx? (vt keep)with | some i=>(i:Nat) | none => -1
theorem zeS{L:List Wt}{j:Nat}{x:Wt}(hx:L[j]? = some x)(hs:x.slot=keep)(hno : ∀(i:Nat) (y:Wt),i<j→L[i]? = some y→y.slot≠keep):Za keep L=(j:Nat):=by
 have hj:=(zE.1 hx).1;have h1:L.findIdx? (vt keep)=some j:=by
  rw[Jf];refine⟨hj,?_,fun i hi => ?_⟩
  ·rw[zO hj]at hx;injection hx with hx
   rw[hx];simp[vt,hs]
  ·have:=hno i L[i] hi (zO (by omega));simp[vt,this]
 unfold Za;rw[h1]
theorem zeR{L:List Wt}(hno : ∀(i:Nat) (y:Wt),L[i]? = some y→y.slot≠keep):Za keep L = -1:=by
 have h1:L.findIdx? (vt keep)=none:=by
  rw[Ua];intro x hx;obtain⟨i,hi⟩:=uk hx;simp[vt,hno i x hi]
 unfold Za;rw[h1]
abbrev kpF(bc:Nat):Value := .func (.func 262) #[] #[.pointer (some ⟨bc,0,none⟩)]
theorem zf7{a:Option Addr}{n c:Nat}{L:List Wt}(h:zr w (.slice a n c) 2 (L.flatMap wtC))(hn:L.length=n)(hl:n≤8388608)(hc:ChC w bc cv keep) :
  Calls prog 300 #[.slice a n c,kpF bc] w fun e w'=>e=.returned (.int .i64 (Za keep L))∧zb w w':=by
 have HR:=za h;have HN:=za hn;have HC:=za hc;clear h hn hc;go_enter func300,ntmps300;go_upto_region 2 with fail
 go_loopw [8] (fun v8 wr => ∃ j:Nat,v8=.int .i64 (j:Nat)∧j≤n∧zb w wr ∧ ∀ i y,i<j→L[i]? = some y→y.slot≠keep) (fun v8 _=>n-(intOf v8).toNat)
 case atStart=>exact⟨0,rfl,yq _,Mod.refl _ _,fun i y h=>by omega⟩
 case round =>
  obtain⟨j,rfl,hj,hpu,hno⟩:=hrel;have HNO:=za hno;have HPU:=za hpu;clear hno hpu;by_cases hlt:j<n
  ·have hlt':(j:Int)<(n:Int):=by omega
   have j0:(0:Int)≤(j:Int):=by omega
   have wj:IntKind.i64.wrap ((j:Int)+1)=(j:Int)+1:=zt _ (by omega);obtain⟨x,hx⟩ : ∃ x,L[j]? = some x:=⟨_,zO (by rw[HN.out];exact hlt)⟩;obtain⟨ad,rfl,z0,z1⟩:=Ka (HR.out.frame HPU.out (fun _ _ h=>h)) hx;have HX:=za hx;have HCl:=za (zaa (HPU.out.heap (fun h=>h) HC.out) x.slot x.cost);clear hx;by_cases hs:x.slot=keep
   ·have hd:decide (x.slot=keep)=true:=zQ hs;rw[hd]at HCl;have HF:=za (zeS HX.out hs HNO.out);clear hd hs
    go_wp2_with (go_at_call 262;refine HCl.out.mono ?_;rintro e w3 ⟨rfl,hp3⟩)
    go_ret;exact⟨by rw[HF.out];rfl,HPU.out.trans hp3⟩
   ·have hd:decide (x.slot=keep)=false:=zU hs;rw[hd]at HCl;have HS:=za hs;clear hd hs
    go_wp2_with (go_at_call 262;refine HCl.out.mono ?_;rintro e w3 ⟨rfl,hp3⟩)
    go_roundw
    case rel=>exact⟨j+1,by first | rfl | simp,hlt,HPU.out.trans hp3,fun i y hi hy=>by
     by_cases e:i=j
     ·subst e;rw[HX.out]at hy;injection hy with hy;exact hy ▸ HS.out
     ·exact HNO.out i y (by omega) hy⟩
    case measure=>simp[intOf];omega
  ·have hlt' : ¬ (j:Int)<(n:Int):=by omega
   obtain rfl:j=n:=by omega
   have HF:=za (zeR (keep:=keep) (L:=L) (fun i y hy=>HNO.out i y (by have:=(zE.1 hy).1;rw[HN.out]at this;exact this) hy));go_wp2;go_ret;exact⟨by rw[HF.out];rfl,HPU.out⟩
end
theorem zba : ∀(L:List Wt) (i:Nat) (x:Wt),i<L.length→((L.flatMap wtC).set (i*2) (.int .u32 x.slot)).set (i*2+1) (.int .i64 x.cost)=(L.set i x).flatMap wtC
 | [],i,x,h=>by simp at h
 | y::L,0,x,_=>by simp[wtC]
 | y::L,i+1,x,h=>by
  have ih:=zba L i x (by simpa using h);have e1:(i+1)*2=(i*2+1)+1:=by omega
  rw[qE,ZR,qE,← ih];simp only[wtC,List.cons_append,List.nil_append];rw[e1,ZR,ZR,ZR,ZR]
theorem zcv : ∀(L:List Wt) (m:Nat),(L.flatMap wtC).take (m*2)=(L.take m).flatMap wtC
 | [],m=>by simp
 | y::L,0=>by simp
 | y::L,m+1=>by
  have ih:=zcv L m;rw[qE,YM,qE,← ih];simp only[wtC,List.cons_append,List.nil_append];rw[show(m+1)*2=(m*2+1)+1 by omega,YM,YM]
section
variable{w w':World}{bc keep:Nat}{cv:Value}
theorem zaD(w:World):(zeroValue 247).run prog w=.ok (.agg #[.int .u32 0,.int .i64 0]) w:=by
 obtain⟨i0,hi,iz0,iz1,iz2⟩:=xB Xg;simp[zeroValue,typeInfo,hi,iz0]
theorem zlk{g n c m:Nat}{L:List Wt}(h:w.ownsRow 0 247 2 (.slice (some ⟨g,0,none⟩) n c) n (L.flatMap wtC))(hm:m<n)(ty:TypeId) :
  ∃ w',(Builtin.clear_ #[202] ty #[.slice (some ⟨g,m*2,none⟩) (n-m) (c-m)]).run prog w=.ok (.tuple #[]) w'∧w'.ownsRow 0 247 2 (.slice (some ⟨g,0,none⟩) m c) m ((L.take m).flatMap wtC)∧Mod (fun k=>k=g) w w':=by
 obtain⟨hl,hv⟩:=h;rcases hv with⟨hv,_⟩ | ⟨g',cap,cur,hv,hb,hg,hnc,hcm,hcs,ht⟩
 ·cases hv
 ·cases hv
  have hz:(Builtin.zeroCells (Value.agg #[.int .u32 0,.int .i64 0]).cells (n-m)).toList.length=(n-m)*2:=by rw[Array.length_toList,size_zeroCells];rfl
  have h1 : ∀ v∈(Builtin.zeroCells (Value.agg #[.int .u32 0,.int .i64 0]).cells (n-m)).toList,v.oneCell'=true:=by
   intro v hv;simp[Builtin.zeroCells]at hv;obtain⟨i,_,hv⟩:=hv;rcases Nat.mod_two_eq_zero_or_one i with e | e<;>(simp[Value.cells,e]at hv;subst hv;rfl)
  have hst:=run_storeCells_at prog g (m*2) 247 (Builtin.zeroCells (Value.agg #[.int .u32 0,.int .i64 0]).cells (n-m)).toList 0 cur w hg (by rw[hz,hcs];omega) h1;obtain⟨q,hq⟩ : ∃ q,n-m=q+1:=⟨n-m-1,by omega⟩;have hh:(w.setRow g (cur.toList.take (m*2+0)++(Builtin.zeroCells (Value.agg #[.int .u32 0,.int .i64 0]).cells (n-m)).toList++cur.toList.drop (m*2+0+(Builtin.zeroCells (Value.agg #[.int .u32 0,.int .i64 0]).cells (n-m)).toList.length)).toArray).heap[g]? = _:=setRow_heap w g cur _ 247 _ hg;refine⟨_,?_,⟨?_,.inr ⟨g,c,_,rfl,hb,hh,by omega,hcm,?_,?_⟩⟩,?_⟩
  ·rw[hq]at hst ⊢;simp only[Builtin.clear_,run_underlying underlying202,zaD,Sem.run_bind,Result.andThen_ok,hst];simp[underlying202,underlying,hst,zaD]
  ·rw[jD,Zi];have:=jD L;omega
  ·simp only[List.size_toArray,List.length_append,List.length_take,List.length_drop,hz];have:cur.toList.length=cur.size:=by simp
   omega
  ·simp only[List.append_assoc,Nat.add_zero];rw[List.take_append_of_le_length (by rw[Zi];have:cur.toList.length=cur.size:=(by simp);omega),List.take_take,Nat.min_self,← zcv,← ht,List.take_take,Nat.min_eq_left (by omega)]
  ·refine⟨?_,?_,?_,?_,fun k _ hk=>setRow_other w g k _ hk⟩<;>simp[World.setRow,hg]
structure Z7(w:World)(g n c:Nat)(zs:List Wt)(keep i j:Nat)(L:List Wt)(wr:World):Prop where
 len:L.length=n
 row:wr.ownsRow 0 247 2 (.slice (some ⟨g,0,none⟩) n c) n (L.flatMap wtC)
 tk:L.take i=(zs.take j).filter (fun x => !vt keep x)
 dr : ∀ q,j≤q→L[q]? = zs[q]?
 lt:i<j
 mod:Mod (fun k=>k=g) w wr
theorem Z7.skip{g n c i j:Nat}{zs L:List Wt}{wr w3:World}(h:Z7 w g n c zs keep i j L wr){x:Wt}(hx:zs[j]? = some x)(hs:x.slot=keep)(hp:zb wr w3):Z7 w g n c zs keep i (j+1) L w3:=by
 refine⟨h.len,zz h.row hp (fun _ _ h=>h),?_,fun q hq=>h.dr q (by omega),by have:=h.lt;omega,h.mod.trans (Mod.of_pure hp)⟩;rw[uH,hx,YN,← h.tk];simp[vt,hs]
theorem Z7.kept{g n c i j:Nat}{zs L:List Wt}{wr w3:World}(h:Z7 w g n c zs keep i j L wr){x:Wt}(hx:zs[j]? = some x)(hj:j<n)(hs:x.slot≠keep)(hp:zb wr w3):Z7 w g n c zs keep (i+1) (j+1) (L.set i x) ((w3.setCell ⟨g,i*2,none⟩ (.int .u32 x.slot)).setCell ⟨g,i*2+1,none⟩ (.int .i64 x.cost)):=by
 have hl:=h.lt;have hle:=h.len;have h1:=uT (uT (zz h.row hp (fun _ _ h=>h)) (i*2) (.int .u32 x.slot) (by omega)) (i*2+1) (.int .i64 x.cost) (by omega);rw[zba L i x (by omega)]at h1;refine⟨by rw[xC];exact hle,h1,?_,fun q hq => ?_,by omega,((h.mod.trans (Mod.of_pure hp)).setCell (fun _=>rfl) _).setCell (fun _=>rfl) _⟩
 ·rw[uH (l:=zs),hx,YN,← h.tk,uH,List.take_set_of_le (zN i),yt (by omega)];simp[vt,hs]
 ·rw[yw (by omega)];exact h.dr q (by omega)
theorem zk6(zs:List Wt)(keep:Nat):(Za keep zs = -1∧zs.filter (fun x => !vt keep x)=zs) ∨ ∃ k,k<zs.length∧Za keep zs=(k:Nat)∧zs.take k=(zs.take (k+1)).filter (fun x => !vt keep x):=by
 unfold Za
 cases h:zs.findIdx? (vt keep)with
 | none =>
  rw[Ua]at h;exact .inl ⟨rfl,jo.2 (fun x hx=>by rw[h x hx];rfl)⟩
 | some k =>
  rw[Jf]at h;obtain⟨hk,h1,h2⟩:=h;refine .inr ⟨k,hk,rfl,?_⟩;rw[uH,zO hk,YN];have e1:(zs.take k).filter (fun x => !vt keep x)=zs.take k:=jo.2 (fun x hx=>by
   obtain⟨i,hi⟩:=uk hx;have hlt:i<k:=by have:=(zE.1 hi).1;rw[Zi]at this;omega
   rw[j4,zj hlt]at hi;have:=h2 i hlt;rw[zO (by omega)]at hi;injection hi with hi
   rw[hi]at this;simpa using this)
  rw[e1];simp[h1]
def zjC(w:World)(a:Option Addr)(n c:Nat)(ys:List Wt)(e:Ending)(w':World):Prop :=
 e=.returned (.slice a ys.length c)∧Z5 w' a c ys∧Mod (fun k=>(Value.slice a n c).ownBlock=some k) w w'
theorem zj1{a:Option Addr}{n c:Nat}{zs:List Wt}(h:w.ownsRow 0 247 2 (.slice a n c) n (zs.flatMap wtC))(hn:zs.length=n)(hl:n≤8388608)(hc:ChC w bc cv keep) :
  Calls prog 260 #[.slice a n c,kpF bc] w (zjC w a n c (zs.filter (fun x => !vt keep x))):=by
 have HI:=za (zf7 (zr.of_owns h (ZX zs)) hn hl hc);have HR:=za h;have HN:=za hn;have HC:=za hc;have hcap:n≤c:=by obtain⟨a',c',e,h'⟩:=jc h;injection e with _ _ e;rw[e];exact h'
 rcases zk6 zs keep with⟨e1,e2⟩ | ⟨k0,hk0,e1,e2⟩
 ·rw[e1]at HI;rw[e2];have HE:=za e2;clear h hn hc e1 e2;go_enter func260,ntmps260
  go_wp2_with (go_at_call 300;refine HI.out.mono ?_;rintro e w3 ⟨rfl,hp3⟩)
  go_ret;exact⟨by rw[HN.out];rfl,by have:=zz HR.out hp3 (fun _ _ h=>h);unfold Z5;rw[HN.out];exact this,Mod.of_pure hp3⟩
 ·rw[e1]at HI
  cases a with
  | none =>
   rcases h.2 with⟨_,h0⟩ | ⟨g',cap,cur,hv,_⟩
   ·omega
   ·cases hv
  | some ad =>
  obtain⟨g,rfl⟩ : ∃ g,ad=⟨g,0,none⟩:=by
   rcases h.2 with⟨hv,_⟩ | ⟨g',cap,cur,hv,_⟩
   ·cases hv
   ·cases hv;exact⟨_,rfl⟩
  have hgb:bc≠g:=fun e=>by
   obtain⟨cur,h9⟩:=yd h (g:=g) rfl;subst e;rw[hc]at h9;injection h9 with h9
   injection h9 with _ h9
   exact absurd h9 (by decide)
  have HGB:=za hgb;have hne1:((k0:Int) == -1)=false:=kQ.2 (by omega);have wk:IntKind.i64.wrap ((k0:Int)+1)=(k0:Int)+1:=zt _ (by omega);have HE:=za e2;have HK:=za hk0;clear h hn hc e1 e2 hk0 hgb;go_enter func260,ntmps260
  go_wp2_with (go_at_call 300;refine HI.out.mono ?_;rintro e w3 ⟨rfl,hp3⟩)
  go_loopw [5,6] (fun v5 v6 wr => ∃(i j:Nat) (L:List Wt),v5=.int .i64 (i:Nat)∧v6=.int .i64 (j:Nat)∧j≤n∧Z7 w g n c zs keep i j L wr) (fun _ v6 _=>n-(intOf v6).toNat)
  case atStart=>exact⟨k0,k0+1,zs,rfl,by first | rfl | simp,by have:=HK.out;have:=HN.out;omega,⟨HN.out,zz HR.out hp3 (fun _ _ h=>h),HE.out,fun _ _=>rfl,by omega,Mod.of_pure hp3⟩⟩
  case round =>
   obtain⟨i,j,L,rfl,rfl,hj,hI⟩:=hrel;have HDI:=za hI;have hij:=hI.lt;clear hI;have j0:(0:Int)≤(j:Int):=by omega
   have i0:(0:Int)≤(i:Int):=by omega
   by_cases hlt:j<n
   ·have hlt':(j:Int)<(n:Int):=by omega
    have hil':(i:Int)<(n:Int):=by omega
    have wj:IntKind.i64.wrap ((j:Int)+1)=(j:Int)+1:=zt _ (by omega);have wi:IntKind.i64.wrap ((i:Int)+1)=(i:Int)+1:=zt _ (by omega);obtain⟨x,hx⟩ : ∃ x,zs[j]? = some x:=⟨_,zO (by rw[HN.out];exact hlt)⟩;have hLx:L[j]? = some x:=(HDI.out.dr j (zN _)).trans hx;have z0:wr.cell? ⟨g,j*2,none⟩=some (.int .u32 x.slot):=(HDI.out.row.cellAt (j*2) (by omega)).trans (YP hLx).1;have z1:wr.cell? ⟨g,j*2+1,none⟩=some (.int .i64 x.cost):=(HDI.out.row.cellAt (j*2+1) (by omega)).trans (YP hLx).2;have hal:zb wr (wr.alloc (.cells #[.int .u32 x.slot,.int .i64 x.cost] 247)):=(Mod.refl _ wr).alloc _;have hbx:=zk (w:=wr) (o := .cells #[.int .u32 x.slot,.int .i64 x.cost] 247 (0,0)) rfl;have hcw:=HDI.out.mod.heap HGB.out HC.out;have HX:=za hx;have HAL:=za hal;have hglt:g<wr.heap.size:=xV HDI.out.row rfl;have HGL:=za hglt;clear hx hLx;go_upto_region 8 with fail
    generalize wr.alloc (.cells #[.int .u32 x.slot,.int .i64 x.cost] 247)=W1 at *;have hcw1:=HAL.out.heap (fun h=>h) hcw;have HCl:=za (zaa hcw1 x.slot x.cost);have HBX:=za hbx;obtain⟨b7,hb7⟩:=zf wr.heap.size;rw[hb7]at hbx HBX ⊢;have HB7:=za hb7;clear hb7 z0 z1 hcw hcw1 hal hglt;obtain⟨hbx_0,hbx_1,hbx_f,hbx_l,H_hbx⟩:=cr2 hbx;clear hbx;by_cases hs:x.slot=keep
    ·have hd:decide (x.slot=keep)=true:=zQ hs;rw[hd]at HCl;have HS:=za hs;clear hd hs
     go_wp2_with (go_at_call 262;refine HCl.out.mono ?_;rintro e w4 ⟨rfl,hp4⟩)
     go_roundw
     case rel=>exact⟨i,j+1,L,rfl,by first | rfl | simp,hlt,HDI.out.skip HX.out HS.out (HAL.out.trans hp4)⟩
     case measure=>simp[intOf];omega
    ·have hd:decide (x.slot=keep)=false:=zU hs;rw[hd]at HCl;have HS:=za hs;clear hd hs;go_upto_region 9 with(go_at_call 262;refine HCl.out.mono ?_;rintro e w4 ⟨rfl,hp4⟩)
     have hb4:=hp4.heap (fun h=>h) HBX.out;clear hbx_0 hbx_1 hbx_f hbx_l;clear H_hbx;have HP4:=za (HAL.out.trans hp4);clear hp4;have hr4:=zz HDI.out.row HP4.out (fun _ _ h=>h);have hle:=HDI.out.len;obtain⟨y,hy⟩ : ∃ y,L[i]? = some y:=⟨_,zO (by omega)⟩;have y0:w4.cell? ⟨g,i*2,none⟩=some (.int .u32 y.slot):=(hr4.cellAt (i*2) (by omega)).trans (YP hy).1;have y1:w4.cell? ⟨g,i*2+1,none⟩=some (.int .i64 y.cost):=(hr4.cellAt (i*2+1) (by omega)).trans (YP hy).2;have f0:=hr4.frozenAt (i*2);have f1:=hr4.frozenAt (i*2+1);have hglt4:g<w4.heap.size:=xV hr4 rfl;clear hr4 hy hle;obtain⟨hb4_0,hb4_1,hb4_f,hb4_l,H_hb4⟩:=cr2 hb4;clear hb4;go_wp2;go_roundw
     case rel=>exact⟨i+1,j+1,L.set i x,by first | rfl | simp,by first | rfl | simp,hlt,HDI.out.kept HX.out hlt HS.out HP4.out⟩
     case measure=>simp[intOf];omega
   ·have hlt' : ¬ (j:Int)<(n:Int):=by omega
    obtain rfl:j=n:=by omega
    have hin:i<j:=hij;have hil':(i:Int)≤(j:Int):=by omega
    have hic':(i:Int)≤(c:Int):=by omega
    have hic : ¬ c=i:=by omega
    have hjc:(j:Int)≤(c:Int):=by omega
    obtain⟨W5,hcl,hr5,hm5⟩:=zlk HDI.out.row hin 3;have hcl' : ∀ ty,(Builtin.clear_ #[202] ty #[.slice (some ⟨g,i*2,none⟩) (j-i) (c-i)]).run prog wr=.ok (.tuple #[]) W5:=fun ty=>hcl
    have HR5:=za hr5;have HM5:=za hm5;clear hcl hr5 hm5;go_wp2;go_ret;have htk:=HDI.out.tk;rw[show zs.take j=zs from jX (by rw[HN.out];exact zN _)]at htk;have hle:=HDI.out.len;have hl2:(zs.filter (fun x => !vt keep x)).length=i:=by rw[← htk,Zi];omega
    refine⟨by rw[hl2];rfl,?_,(HDI.out.mod.trans HM5.out).mono (fun k _ e=>by subst e;rfl)⟩;unfold Z5;rw[hl2,← htk];exact HR5.out
def k9(keep:Nat)(zs:List Wt):List Wt:=zs.filter (fun x => !vt keep x)
theorem zh7{a:Option Addr}{c:Nat}{zs:List Wt}(h:zr w (.slice a zs.length c) 2 (zs.flatMap wtC))(hl:zs.length≤8388608) :
  Calls prog 215 #[.agg #[.slice a zs.length c,.int .u32 keep]] w (ZT w (k9 keep zs)):=by
 have hal:zb w (w.alloc (.cells #[.slice a zs.length c,.int .u32 keep] 272)):=(Mod.refl _ w).alloc _;have hbx:ChC _ w.heap.size (.slice a zs.length c) keep:=zk (w:=w) (o := .cells #[.slice a zs.length c,.int .u32 keep] 272 (0,0)) rfl;have HCl:=za (ziE a zs.length c _ (h.frame hal (fun _ _ h=>h)) (by omega));have HAL:=za hal;have HBX:=za hbx;have HL:=za hl;clear h hl;obtain⟨n,hn⟩:=zf zs.length;have HN:=za hn;rw[hn]at hbx hal HBX HAL HCl HL ⊢;clear hn;go_enter func215,ntmps215;go_upto_region 1 with fail
 generalize w.alloc (.cells #[.slice a n c,.int .u32 keep] 272)=W1 at *;obtain⟨b1,hb1⟩:=zf w.heap.size;rw[hb1]at hbx HBX ⊢;have HB1:=za hb1;clear hb1 hal;obtain⟨hbx_0,hbx_1,hbx_f,hbx_l,H_hbx⟩:=cr2 hbx;clear hbx
 go_wp2_with (first | (go_at_call 261;refine HCl.out.mono ?_;rintro e w3 ⟨a3,n3,c3,rfl,ho3,hf3,hp3⟩;obtain rfl:n3=n:=(by have h1:=ho3.1;rw[jD]at h1;have:=HN.out;omega);have HDe:=za (zj1 ho3 HN.out HL.out (hp3.heap (fun h=>h) HBX.out));have HF3:=za hf3;have HP3:=za (HAL.out.trans hp3);clear ho3 hf3 hp3) | (go_at_call 260;refine HDe.out.mono ?_;rintro e w5 ⟨rfl,hr5,hm5⟩))
 go_ret;exact⟨a3,c3,rfl,hr5,fun g hg=>by
  have h1:=HF3.out g (by cases a3<;>exact hg);have:=HAL.out.size;have:=HB1.out;omega,HP3.out.then hm5 (fun k hk e=>by
  have h1:=HF3.out k (by cases a3<;>exact e);have:=HAL.out.size;omega)⟩
end
end
section
open Go.RowKit Go.Maps Go.Shelf
structure jP(w:World)(b:Nat)(M:List Nat)(D:DataW Unit):Prop where
 own:w.ownsMap prog 89 unitElem b M.length D
 has : ∀ s,Maps.has D (kS s)=true↔s∈M
 size:Maps.size D=M.length
section
variable{w w':World}{b:Nat}{M:List Nat}{D:DataW Unit}{S:Nat→Prop}
theorem jP.mod(h:jP w b M D)(hm:Mod S w w')(hb : ¬ S b):jP w' b M D:=⟨Xi h.own hm hb,h.has,h.size⟩
theorem jP.new(w:World):jP (w.alloc (.map #[] 0)) w.heap.size [] (.map []):=⟨XF _ _ _ _,(fun s=>⟨(fun h=>by cases h),(fun h=>by cases h)⟩),rfl⟩
theorem jP.put{x:Nat}(h:jP w b M D)(hn:x∉M)(ho:w'.ownsMap prog 89 unitElem b (M.length+1) (D.put (kS x) (.agg []))):jP w' b (M++[x]) (D.put (kS x) (.agg [])):=by
 have hm:=h.own.isMap;have h0:Maps.has D (kS x)=false:=by
  cases hh:Maps.has D (kS x)with
  | false=>rfl
  | true=>exact absurd ((h.has _).1 hh) hn
 refine⟨by rw[zT];exact ho,fun s => ?_,?_⟩
 ·by_cases e:s=x
  ·subst e;exact⟨fun _=>by simp,fun _=>has_put_same hm (V4 _) _⟩
  ·rw[has_put_other (fun c=>e (jB c)),h.has];simp[e]
 ·rw[Zz (h.own.tidy x9),h0,h.size];simp
end
section
variable{w:World}
def zfq(w:World)(keep:Nat)(zs:List Wt)(e:Ending)(w':World):Prop :=
 ∃ a c,e=.returned (.tuple #[.agg #[.slice a zs.length c,.int .u32 keep],.int .i64 0])∧Z5 w' a c zs∧xq w (.slice a zs.length c)∧zb w w'
structure K8(w:World)(zs:List Wt)(br bc bs n k:Nat)(a:Option Addr)(c keep:Nat)(wr:World):Prop where
 res:wr.heap[br]? = some (.cells #[.slice none 0 0,.int .u32 0] 272 (0,0))
 box:ChC wr bc (.slice a n c) keep
 row:wr.ownsRow 0 247 2 (.slice a n c) n (zs.flatMap wtC)
 map : ∃ D,jP wr bs (zA (zs.take k)) D
 mod:Mod (fun i=>w.heap.size≤i) w wr
theorem zkc{a1 a2:Option Addr}{c1 c2 keep:Nat}{xs ys:List Wt}(h1:zr w (.slice a1 xs.length c1) 2 (xs.flatMap wtC))(h2:zr w (.slice a2 ys.length c2) 2 (ys.flatMap wtC))
  (hl:(xs++ys).length≤2097152) (hr : ∀ x∈xs++ys,x.slot<4194304∧0≤x.cost∧x.cost≤1099511627776) (hnd:(zA (xs++ys)).Nodup) :
  Calls prog 164 #[.slice a1 xs.length c1,.slice a2 ys.length c2,.int .u32 keep] w (zfq w keep (xs++ys)):=by
 have hb0:=zk (w:=w) (o := .cells #[.slice none 0 0,.int .u32 0] 272 (0,0)) rfl;have hal0:zb w (w.alloc (.cells #[.slice none 0 0,.int .u32 0] 272)):=(Mod.refl _ w).alloc _;have hs0:(w.alloc (.cells #[.slice none 0 0,.int .u32 0] 272)).heap.size=w.heap.size+1:=by simp
 have hb1:=zk (w:=w.alloc (.cells #[.slice none 0 0,.int .u32 0] 272)) (o := .cells #[.slice a1 xs.length c1,.slice a2 ys.length c2] 202 (0,0)) hs0.symm;have hal1:zb w ((w.alloc (.cells #[.slice none 0 0,.int .u32 0] 272)).alloc (.cells #[.slice a1 xs.length c1,.slice a2 ys.length c2] 202)):=hal0.alloc _;have HCc:=za (zhH hb1 (h1.frame hal1 (fun _ _ h=>h)) (h2.frame hal1 (fun _ _ h=>h)) (by rw[zT]at hl;omega) (by rw[zT]at hl;omega));have HB0:=za (zK (o := .cells #[.slice a1 xs.length c1,.slice a2 ys.length c2] 202) hb0);have HAL:=za hal1;have HL:=za hl;have HRG:=za hr;have HND:=za hnd;clear h1 h2 hl hr hnd hb0 hb1 hal0 hal1 hs0;obtain⟨zs,hzs⟩:=zf (xs++ys);rw[hzs]at HCc HL HRG HND ⊢;clear hzs;obtain⟨n1,hn1⟩:=zf xs.length;obtain⟨n2,hn2⟩:=zf ys.length;rw[hn1,hn2]at HCc HB0 HAL ⊢;clear hn1 hn2;have hmm := @run_makeMap prog;go_enter func164,ntmps164;go_upto_region 3 with(go_at_call 214;refine HCc.out.mono ?_;rintro e w3 ⟨a3,c3,rfl,hr3,hf3,hp3⟩)
 obtain⟨br,hbr⟩:=zf w.heap.size;have HBR:=za hbr;have hf3 : ∀ g,(Value.slice a3 zs.length c3).ownBlock=some g→br+2≤g:=fun g hg=>by have:=hf3 g hg;simp at this;omega
 have hsz5:br+2≤w3.heap.size:=by have:=hp3.size;simp at this;omega
 rw[hbr]at HB0 ⊢;clear hbr;have hb3:=zk (w:=w3) (o := .cells #[.slice a3 zs.length c3,.int .u32 keep] 272 (0,0)) rfl;have hs3:(w3.alloc (.cells #[.slice a3 zs.length c3,.int .u32 keep] 272)).heap.size=w3.heap.size+1:=by simp
 have ha3:zb w3 ((w3.alloc (.cells #[.slice a3 zs.length c3,.int .u32 keep] 272)).alloc (.map #[] 0)):=((Mod.refl _ w3).alloc _).alloc _;have hu3:=jP.new (w3.alloc (.cells #[.slice a3 zs.length c3,.int .u32 keep] 272));have hsz3:=HAL.out.size;have hsz4:=hp3.size;have HI0:Hid (K8 w zs br w3.heap.size (w3.heap.size+1) zs.length 0 a3 c3 keep ((w3.alloc (.cells #[.slice a3 zs.length c3,.int .u32 keep] 272)).alloc (.map #[] 0))):=za
  ⟨ha3.heap (fun h=>h) (hp3.heap (fun h=>h) HB0.out),zK hb3,zz hr3 ha3 (fun _ _ h=>h),⟨_,hs3 ▸ hu3⟩,Mod.of_pure ((HAL.out.trans hp3).trans ha3)⟩
 have HF3:Hid (xq w (.slice a3 zs.length c3)):=za (fun g hg=>by have:=hf3 g hg;have:=HBR.out;omega);have hne:a3=none ∨ ∃ g,a3=some ⟨g,0,none⟩∧br+2≤g∧g<w3.heap.size:=by
  rcases hr3.2 with⟨hv,_⟩ | ⟨g',cap,cur,hv,_,hg,_⟩
  ·injection hv with h1;exact .inl h1
  ·injection hv with h1;refine .inr ⟨g',h1,?_,(kr.1 hg).1⟩
   exact hf3 g' (by rw[h1];rfl)
 have HNE:=za hne;generalize hX:(w3.alloc (.cells #[.slice a3 zs.length c3,.int .u32 keep] 272)).alloc (.map #[] 0)=W0 at *;obtain⟨bc,hbc⟩:=zf w3.heap.size;rw[hbc]at HI0 HNE hsz5 ⊢;obtain⟨n,hn⟩:=zf zs.length;rw[hn]at HI0 HF3 HL ⊢;have HN:=za hn;clear hn hbc hne hb3 hs3 ha3 hu3 hsz3 hsz4 hr3 hf3 hp3 hX hmm;have hbx:=HI0.out.box;obtain⟨hbx_0,hbx_1,hbx_f,hbx_l,H_hbx⟩:=cr2 hbx;clear hbx;go_upto_region 4 with fail
 clear hbx_0 hbx_1 hbx_f hbx_l;clear H_hbx;go_loopw [11,22] (fun v11 v22 wr => ∃ k:Nat,v22=.int .i64 (k:Nat)∧k≤n∧K8 w zs br bc (bc+1) n k a3 c3 keep wr) (fun _ v22 _=>n-(intOf v22).toNat)
 case atStart=>exact⟨0,rfl,yq _,HI0.out⟩
 case round =>
  obtain⟨k,rfl,hk,hI⟩:=hrel;have HI:=za hI;clear hI;by_cases hlt:k<n
  ·have hlt':(k:Int)<(n:Int):=by omega
   have k0:(0:Int)≤(k:Int):=by omega
   have wk:IntKind.i64.wrap ((k:Int)+1)=(k:Int)+1:=zt _ (by have:=HL.out;omega);obtain⟨x,hx⟩ : ∃ x,zs[k]? = some x:=⟨_,zO (by rw[HN.out];exact hlt)⟩;obtain⟨ad,had,z0,z1⟩:=Ka (zr.of_owns HI.out.row (ZX zs)) hx;subst had;obtain⟨r0,r1,r2⟩:=HRG.out x (ym hx);have HX:=za hx;obtain⟨s,hs⟩:=zf x.slot;obtain⟨cs,hcs⟩:=zf x.cost;rw[hs]at z0 r0;rw[hcs]at z1 r1 r2;have HS:=za hs;have HCS:=za hcs;have R0:=za r0;have R1:=za r1;have R2:=za r2;clear r0 r1 r2;have hbx:=zk (w:=wr) (o := .cells #[.int .u32 s,.int .i64 cs] 247 (0,0)) rfl;have hal:zb wr (wr.alloc (.cells #[.int .u32 s,.int .i64 cs] 247)):=(Mod.refl _ wr).alloc _;obtain⟨Dm,hU⟩:=HI.out.map;have HU:=za (hU.mod hal (fun h=>h));have HAL1:=za hal;clear hx hs hcs hU;go_upto_region 6 with fail
   generalize wr.alloc (.cells #[.int .u32 s,.int .i64 cs] 247)=W1 at *;obtain⟨b1,hb1⟩:=zf wr.heap.size;rw[hb1]at hbx ⊢;have HB1:=za hb1;clear hb1 hal z0 z1;obtain⟨hbx_0,hbx_1,hbx_f,hbx_l,H_hbx⟩:=cr2 hbx;clear hbx;have q0 : ¬ (4194304:Int)≤(s:Int):=by have:=R0.out;omega
   have q1 : ¬ cs<0:=by have:=R1.out;omega
   have q2 : ¬ (1099511627776:Int)<cs:=by have:=R2.out;omega
   go_upto_region 8 with fail
   have hnn:s∉zA (zs.take k):=by
    have h1:=HND.out;have h2:zs=zs.take k++(x::zs.drop (k+1)):=by
     obtain⟨g1,g2⟩:=zE.1 HX.out;exact(Yl k zs).symm.trans (by rw[jK g1,g2])
    rw[h2]at h1;unfold zA at h1 ⊢;rw[vr,xy]at h1;exact fun hm=>h1.2.2 s hm s (by rw[← HS.out];simp) rfl
   have htk:zA (zs.take (k+1))=zA (zs.take k)++[s]:=by
    unfold zA;rw[uH,HX.out,vr];simp[HS.out]
   have hul:(zA (zs.take k)).length<maxLen:=by unfold zA;rw[yH,Zi];have:=HN.out;have:=HL.out;unfold maxLen;omega
   have HNN:=za hnn;have HTK:=za htk;have HUL:=za hul;clear hnn htk hul q0 q1 q2
   go_wp2_with (at_mapUpdate;refine XS _ rfl _ _ _ 328 rfl 89 329 x9 underlying328 unitElem (bc+1) (zA (zs.take k)).length Dm rfl HU.out.own HUL.out (.int .u32 s) (.agg #[]) (kS s) rfl rfl (uq (by have:=R0.out;omega)) (.agg []) [] unitElem_mk ?_;intro w4 ho4 hg4;go_frame)
   have hm4:Mod (fun k=>k=bc+1) W1 w4:=Mod.of_grown hg4 (fun k e _=>by cases e;rfl);have HI4:Hid (K8 w zs br bc (bc+1) n (k+1) (some ad) c3 keep w4):=za
    ⟨hm4.heap (by omega) (HAL1.out.heap (fun h=>h) HI.out.res),hm4.heap (by omega) (HAL1.out.heap (fun h=>h) HI.out.box),zz (zz HI.out.row HAL1.out (fun _ _ h=>h)) hm4 (fun g hg e=>by
     rcases HNE.out with h | ⟨g',h,h2,h3⟩
     ·cases h
     ·rw[h]at hg;cases hg;have e2:g'=bc+1:=e;omega),⟨_,by rw[HTK.out];exact HU.out.put HNN.out ho4⟩,(HI.out.mod.trans (Mod.of_pure HAL1.out)).then hm4 (fun i _ e=>by subst e;have:=HBR.out;omega)⟩
   clear hbx_0 hbx_1 hbx_f hbx_l;clear H_hbx ho4 hg4 hm4;go_wp2;go_roundw
   case rel=>exact⟨k+1,by first | rfl | simp,hlt,HI4.out⟩
   case measure=>simp[intOf];omega
  ·have hlt' : ¬ (k:Int)<(n:Int):=by omega
   obtain rfl:k=n:=by omega
   have hbb:=HI.out.box;have hrr:=HI.out.res;obtain⟨Dm,hU⟩:=HI.out.map;have hlen:=fun ty=>hU.own.len underlying328 ty
   rw[hU.size]at hlen;have hsl:(zA (zs.take k)).length=k:=by unfold zA;rw[yH,Zi];have:=HN.out;omega
   rw[hsl]at hlen;have q0 : ¬ (2097152:Int)<(k:Int):=by have:=HL.out;omega
   have HBB:=za hbb;have HRR:=za hrr;clear hU hsl;obtain⟨hbb_0,hbb_1,hbb_f,hbb_l,H_hbb⟩:=cr2 hbb;clear hbb;obtain⟨hrr_0,hrr_1,hrr_f,hrr_l,H_hrr⟩:=cr2 hrr;clear hrr;go_wp2;have h8:=zX wr br 0 _ _ (.slice a3 k c3) HRR.out;have h9:=zX _ br 1 _ _ (.int .u32 keep) h8;have hm9:Mod (fun i=>i=br) wr ((wr.setCell ⟨br,0,none⟩ (.slice a3 k c3)).setCell ⟨br,1,none⟩ (.int .u32 keep)):=((Mod.refl (fun i=>i=br) wr).setCell (p:=⟨br,0,none⟩) (fun _=>rfl) _).setCell (p:=⟨br,1,none⟩) (fun _=>rfl) _;generalize(wr.setCell ⟨br,0,none⟩ (.slice a3 k c3)).setCell ⟨br,1,none⟩ (.int .u32 keep)=W9 at *;simp only[List.setIfInBounds_toArray,List.set_cons_succ,List.set_cons_zero,Array.setIfInBounds]at h9;clear hbb_0 hbb_1 hbb_f hbb_l;clear hrr_0 hrr_1 hrr_f hrr_l;clear H_hbb H_hrr h8;have c0:W9.cell? ⟨br,0,none⟩=some (.slice a3 k c3):=zi W9 br 0 _ _ (0,0) (by simpa using h9);have c1:W9.cell? ⟨br,1,none⟩=some (.int .u32 keep):=zi W9 br 1 _ _ (0,0) (by simpa using h9);refine zR (v := .tuple #[.agg #[.slice a3 k c3,.int .u32 keep],.int .i64 0]) (by simp[results,results164,go_sem,c0,c1]) rfl ?_;refine⟨a3,c3,by rw[HN.out],?_,by rw[HN.out];exact HF3.out,(HI.out.mod.mono (fun i hi h=>absurd h (by omega))).then hm9 (fun i hi e=>by subst e;have:=HBR.out;omega)⟩;have hr9:=zz HI.out.row hm9 (fun g hg e=>by
    rcases HNE.out with h | ⟨g',h,h2,h3⟩
    ·rw[h]at hg;cases hg
    ·rw[h]at hg;cases hg;have e2:g'=br:=e;omega)
   unfold Z5;rw[HN.out];exact hr9
end
end
end Go.Proofs.YtifbnponicgplaaGreatDoor
