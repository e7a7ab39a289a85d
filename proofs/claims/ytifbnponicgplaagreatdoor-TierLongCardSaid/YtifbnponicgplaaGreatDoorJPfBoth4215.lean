/- Lemmas and contracts of functions. No condition. -/
import Derived.Test.YtifbnponicgplaaGreatDoorJPfBoth4212
namespace Go.Proofs.YtifbnponicgplaaGreatDoor
open _root_.Go.Proofs.Tryz
set_option maxRecDepth 100000
set_option maxHeartbeats 20000000
set_option linter.all false
section
open Go.RowKit Go.Maps Go.Shelf
theorem zk3 : ∀ w,(Go.sizeOf 247).run prog w=.ok 2 w:=fun w=>by kernel_rfl
theorem zgT:(prog.info? 89).map (fun i=>(i.zero,i.size,i.bytes))=some (some (.int .u32 0),1,4):=by kernel_rfl
def vA(cnt byt:Nat):List Wt→Nat→Nat→List Nat
 | [],_,_=>[]
 | x::r,n,cost=>if cnt<n∨byt<cost then x.slot::vA cnt byt r (n-1) (cost-x.cost)else[]
def ud(cnt byt keep:Nat)(zs:List Wt):List Nat:=vA cnt byt (k9 keep zs) zs.length (zw zs)
section
variable{w:World}
theorem zbV{a:Option Addr}{n c:Nat}{x:Wt}{R:List Wt}(h:zr w (.slice a (n+1) c) 2 ((x::R).flatMap wtC))(hc:n+1≤c) :
  ∃ ad,a=some ad∧w.cell? ad=some (.int .u32 x.slot)∧w.cell? ⟨ad.block,ad.off+1,none⟩=some (.int .i64 x.cost)∧zr w (.slice (if c=1 then some ad else some (ad.add 2)) n (c-1)) 2 (R.flatMap wtC):=by
 obtain⟨a',n',c',e,hl,h1,h0,hc'⟩:=h;injection e with e1 e2 e3
 subst e1 e2 e3
 cases a with
 | none=>have:=h0 rfl;omega
 | some ad =>
  have z0:=hc' ad rfl 0 (.int .u32 x.slot) rfl;have z1:=hc' ad rfl (0+(0+1)) (.int .i64 x.cost) rfl;have e0:ad.add 0=ad:=by simp[Addr.add]
  rw[e0]at z0;have z1':=zbX (k:=0) z1;rw[e0]at z1';rw[jD]at hl;have hRl:R.length=n:=by simp at hl;omega
  refine⟨ad,rfl,z0,z1',?_⟩;have h1' : ∀ u∈R.flatMap wtC,u.oneCell'=true:=ZX R;by_cases e:c=1
  ·rw[zj e];have:n=0:=by omega
   subst this;obtain rfl:R=[]:=qk hRl;exact⟨some ad,0,c-1,rfl,rfl,h1',(fun h=>by cases h),fun ad' _ i u hu=>by cases hu⟩
  ·rw[zh e];refine⟨some (ad.add 2),n,c-1,rfl,by rw[jD,hRl],h1',(fun h=>by cases h),fun ad' ha i u hu => ?_⟩;injection ha with ha
   subst ha;rw[Go.Deep.add_add];refine hc' ad rfl (2+i) u ?_;rw[qE,jn (by simp[wtC])];simpa[wtC]using hu
theorem zd8{ad:Addr}{n c:Nat}(W:World):(Instr.slice 202 (.slice (some ad) (n+1) c) (some (.int .i64 1)) none none).run prog W=.ok (.slice (if c=1 then some ad else some (ad.add 2)) n (c-1)) W:=by
 have hb:(0:Int)≤1∧(1:Int)≤((n+1:Nat):Int):=by omega
 have hb2:(1:Int)≤(n:Int)+1:=by omega
 have hs:=zk3 W;simp[Instr.slice,run_underlying underlying202,Instr.sliceBounds,Instr.sliceBound,asIntOf,hb,hb2,hs,Result.andThen]
structure VcI(w3:World)(cnt byt:Nat)(tot:List Nat)(R:List Wt)(out:List Nat)(a:Option Addr)(c n cost:Nat)(ao:Option Addr)(co:Nat)(wr:World):Prop where
 rd:zr w3 (.slice a R.length c) 2 (R.flatMap wtC)
 cap:R.length≤c
 row:yu wr ao co out
 fr:xq w3 (.slice ao out.length co)
 pu:zb w3 wr
 tot:out++vA cnt byt R n cost=tot
 le:R.length≤n
 cs:zw R≤cost
 ol:out.length+R.length≤2097152
def za3(w:World)(l:List Nat)(e:Ending)(w':World):Prop := ∃ a c,e=.returned (.slice a l.length c)∧yu w' a c l∧xq w (.slice a l.length c)∧zb w w'
theorem KG(keep:Nat)(zs:List Wt):(k9 keep zs).length≤zs.length:=List.length_filter_le _ _
theorem zeQ(keep:Nat)(zs:List Wt):zw (k9 keep zs)≤zw zs:=by
 induction zs with
 | nil=>exact zN _
 | cons x r ih =>
  unfold k9 at ih ⊢;rw[jh];split
  ·rw[kj,kj];omega
  ·rw[kj];omega
theorem Az39m {P:Prop}(h:P:=by
 go_upto_region 10 with fail
 go_region
 go_upto_region 11 with fail
 refine rHd (S:=fun X=>X.cell? ad=some (.int .u32 x.slot)) z0 (fun h_ => ?_);refine hTk 0 ?_;refine hTk 1 ?_;refine hTk 2 ?_;refine hTk 3 ?_;refine hLd 4 ?_;refine hTk 7 ?_;refine hTk 8 ?_;refine uY (rs:=[5]) (by kernel_rfl) (by simp) ?_;refine ue rfl (fun K1 hK1 => ?_) kw;go_simp;have hpa:zb wr (wr.drew.drew.alloc (.cells #[.int .u32 x.slot] 89)):=((Mod.refl _ wr).drew.drew).alloc _;refine hK1.out _ _ (hpa.cell (fun h=>h) z0) (fun h_ => ?_);clear hK1 K1;refine clA ?_;refine uY (rs:=[6]) (by kernel_rfl) (by simp) ?_;refine ue rfl (fun K2 hK2 => ?_) kw;have hrow0:wr.ownsRow 0 89 1 (.slice ao o co) o (zY out):=by have:=HI.out.row;unfold yu at this;rw[HOO.out]at this;exact this
 refine YI _ (by rfl) _ _ 157 (by rfl) 89 i0 _ 1 4 underlying157 hi iz0 iz1 iz2 rfl (by decide) (.slice ao o co) o _ (by rfl) (zz hrow0 hpa (fun _ _ h=>h)) _ [.int .u32 x.slot] 1 (by rfl) (zr.of_block 1 1 1 (zk (by simp)) (by rfl) (by simp[Value.oneCell'])) (by rfl) (by have:=HOL.out;unfold maxLen;omega) (by have:=HOL.out;omega) ?_;intro a7 c7 w5 hr7 hg7 hb7;have hfo:xq w3 (.slice ao o co):=by have:=HI.out.fr;rw[HOO.out]at this;exact this
 have hm5:Mod (fun k=>(Value.slice ao o co).ownBlock=some k) wr w5:=(Mod.of_pure hpa).trans (Mod.of_grown (S:=fun k'=>(Value.slice ao o co).ownBlock=some k') hg7 (fun k e _=>e));have hp5:zb w3 w5:=HI.out.pu.then hm5 (fun i hi e=>by have:=hfo i e;omega);have z5:w5.cell? ad=some (.int .u32 x.slot):=hp5.cell (fun h=>h) z3;have hn7:yu w5 a7 c7 (out++[x.slot]):=by
  unfold yu;rw[zT,HOO.out,qz];exact hr7
 have hf7:xq w3 (.slice a7 (out++[x.slot]).length c7):=fun g hg=>by
  rw[zT,HOO.out]at hg;rcases hb7 with e | e
  ·exact hfo g (e ▸ hg)
  ·rw[show(Value.slice a7 (o + [x.slot].length) c7).ownBlock=_ from e]at hg;cases hg;exact(HI.out.pu.trans hpa).size
 have HN5:=za (HST.out HOR.out w5 a7 c7 hn7 hf7 hp5);refine hK2.out _ _ z5 (fun h_ => ?_);clear hK2 K2 hr7 hg7 hb7 hrow0 hfo hm5 hp5 hn7 hf7 z0 z1 z5;refine clA ?_;refine hTk 9 ?_;refine hTk 10 ?_;refine hDn ?_;clear h_;go_wp2;go_roundw
 case rel=>exact⟨R,out++[x.slot],sv,cR-1,r',n-1,cost-x.cost,a7,c7,o+1,rfl,rfl,rfl,by first | rfl | simp,HRL.out,by rw[zT,HOO.out];rfl,by omega,by omega,HN5.out⟩
 case measure=>simp):P:=h
theorem ze5{a:Option Addr}{c keep cnt byt:Nat}{zs:List Wt}(h:zr w (.slice a zs.length c) 2 (zs.flatMap wtC))(hl:zs.length≤2097152)(hr : ∀ x∈zs,x.cost≤1099511627776)(hcn:cnt≤4611686018427387904)(hby:byt≤4611686018427387904) :
  Calls prog 165 #[.agg #[.slice a zs.length c,.int .u32 keep],.int .i64 cnt,.int .i64 byt] w (za3 w (ud cnt byt keep zs)):=by
 have hal:zb w (w.alloc (.cells #[.slice a zs.length c,.int .u32 keep] 272)):=(Mod.refl _ w).alloc _;have hbx:ChC _ w.heap.size (.slice a zs.length c) keep:=zk (w:=w) (o := .cells #[.slice a zs.length c,.int .u32 keep] 272 (0,0)) rfl;have HRD:=za (h.frame hal (fun _ _ h=>h));have hsum:=Xt hr;have HO:=za (fun(W:World) (hW:zb (w.alloc (.cells #[.slice a zs.length c,.int .u32 keep] 272)) W)=>zh7 (keep:=keep) ((h.frame hal (fun _ _ h=>h)).frame hW (fun _ _ h=>h)) (by omega));have HAL:=za hal;have HBX:=za hbx;have HL:=za hl;have HSU:=za hsum;have HR:=za hr;obtain⟨tot,htot⟩:=zf (ud cnt byt keep zs);rw[htot];have HT:=za htot;clear h hl hr hsum htot;obtain⟨n,hn⟩:=zf zs.length;have HN:=za hn;rw[hn]at hbx hal HBX HAL HRD HO HL HSU ⊢;clear hn;go_enter func165,ntmps165;go_upto_region 1 with fail
 generalize w.alloc (.cells #[.slice a n c,.int .u32 keep] 272)=W1 at *;obtain⟨b1,hb1⟩:=zf w.heap.size;rw[hb1]at hbx HBX ⊢;have HB1:=za hb1;clear hb1 hal;obtain⟨hbx_0,hbx_1,hbx_f,hbx_l,H_hbx⟩:=cr2 hbx;clear hbx;go_upto_region 3 with fail
 go_loopw [8,19] (fun v8 v19 wr => ∃ k:Nat,v19=.int .i64 (k:Nat)∧v8=.int .i64 ((zw (zs.take k):Nat):Int)∧k≤n∧zb W1 wr) (fun _ v19 _=>n-(intOf v19).toNat)
 case atStart=>exact⟨0,rfl,rfl,yq _,Mod.refl _ _⟩
 case round =>
  obtain⟨k,rfl,rfl,hk,hpu⟩:=hrel;have HPU:=za hpu;clear hpu;by_cases hlt:k<n
  ·have hlt':(k:Int)<(n:Int):=by omega
   have k0:(0:Int)≤(k:Int):=by omega
   have wk:IntKind.i64.wrap ((k:Int)+1)=(k:Int)+1:=zt _ (by have:=HL.out;omega);obtain⟨x,hx⟩ : ∃ x,zs[k]? = some x:=⟨_,zO (by rw[HN.out];exact hlt)⟩;have htk:zw (zs.take (k+1))=zw (zs.take k)+x.cost:=by rw[uH,hx,vT];simp[zw]
   have hle:zw (zs.take k)+x.cost≤4611686018427387904:=by
    rw[← htk];have h1:zw (zs.take (k+1))≤(zs.take (k+1)).length*1099511627776:=Xt (fun y hy=>HR.out y (List.mem_of_mem_take hy));have h2:(zs.take (k+1)).length≤2097152:=by rw[Zi,HN.out];have:=HL.out;omega
    omega
   have ws:IntKind.i64.wrap (((zw (zs.take k):Nat):Int)+(x.cost:Int))=((zw (zs.take (k+1)):Nat):Int):=by rw[htk,zt _ (by omega)];omega
   obtain⟨ad,had,z0,z1⟩:=Ka (HRD.out.frame HPU.out (fun _ _ h=>h)) hx;subst had;have hal2:zb wr (wr.alloc (.cells #[.int .u32 x.slot,.int .i64 x.cost] 247)):=(Mod.refl _ wr).alloc _;have HAL2:=za hal2;have hb2:=zk (w:=wr) (o := .cells #[.int .u32 x.slot,.int .i64 x.cost] 247 (0,0)) rfl;clear hx htk hle;go_upto_region 5 with fail
   generalize wr.alloc (.cells #[.int .u32 x.slot,.int .i64 x.cost] 247)=W2 at *;generalize wr.heap.size=b2 at *;clear z0 z1 hal2;obtain⟨hb2_0,hb2_1,hb2_f,hb2_l,H_hb2⟩:=cr2 hb2;clear hb2;go_wp2;go_roundw
   case rel=>exact⟨k+1,by first | rfl | simp,by first | rfl | (rw[← ws]) | simp,hlt,HPU.out.trans HAL2.out⟩
   case measure=>simp[intOf];omega
  ·have hlt' : ¬ (k:Int)<(n:Int):=by omega
   obtain rfl:k=n:=by omega
   have htk:zw (zs.take k)=zw zs:=by rw[jX (by rw[HN.out];exact zN _)]
   rw[htk];obtain⟨cs,hcs⟩:=zf (zw zs);rw[hcs];have HCS:=za hcs;clear htk hcs;have hbr:=HPU.out.heap (fun h=>h) HBX.out;have HO2:=za (HO.out wr HPU.out);clear hbx_0 hbx_1 hbx_f hbx_l;clear H_hbx;obtain⟨hbr_0,hbr_1,hbr_f,hbr_l,H_hbr⟩:=cr2 hbr;clear hbr;go_upto_region 9 with(go_at_call 215;refine HO2.out.mono ?_;rintro e w3 ⟨a3,c3,rfl,hr3,hf3,hp3⟩)
   clear hbr_0 hbr_1 hbr_f hbr_l;clear H_hbr;have hI0:VcI w3 cnt byt tot (k9 keep zs) [] a3 c3 k cs none 0 w3:=by
    obtain⟨a',c',e,hcap⟩:=jc hr3;injection e with e1 e2 e3
    subst e3;refine⟨zr.of_owns hr3 (ZX _),hcap,vV _ _ _ _,(fun g hg=>by cases hg),Mod.refl _ _,?_,by rw[← HN.out];exact KG keep zs,by rw[← HCS.out];exact zeQ keep zs,?_⟩
    ·rw[Yp,← HT.out];unfold ud;rw[HCS.out,HN.out]
    ·have:=KG keep zs;have:=HN.out;have:=HL.out;simp;omega
   have HI0:=za hI0;have HP3:=za ((HAL.out.trans HPU.out).trans hp3);have hcs0:cs≤4611686018427387904:=by have:=HSU.out;have:=HL.out;have:=HCS.out;omega
   clear hr3 hf3 hp3 hI0;obtain⟨r0,hr0⟩:=zf ((k9 keep zs).length);rw[hr0];have HR0:=za hr0;clear hr0;obtain⟨i0,hi,iz0,iz1,iz2⟩:=xB zgT;go_loopw [7,8,11,12] (fun v7 v8 v11 v12 wx => ∃(R:List Wt) (out:List Nat) (aR:Option Addr) (cR r n cost:Nat) (ao:Option Addr) (co o:Nat),v7=.int .i64 (n:Nat)∧v8=.int .i64 (cost:Nat)∧v11=.slice ao o co∧v12=.slice aR r cR∧R.length=r∧out.length=o∧n≤k∧cost≤cs∧VcI w3 cnt byt tot R out aR cR n cost ao co wx) (fun _ _ _ v12 _=>match v12 with | .slice _ m _=>m | _=>0)
   case atStart=>exact⟨k9 keep zs,[],a3,c3,r0,k,cs,none,0,0,rfl,rfl,rfl,rfl,HR0.out,rfl,zN _,zN _,HI0.out⟩
   case round =>
    obtain⟨R,out,aR,cR,r,n,cost,ao,co,o,rfl,rfl,rfl,rfl,hRr,hoo,hnk,hcc,hI⟩:=hrel;have HI:=za hI;have HRr:=za hRr;have HOO:=za hoo;clear hI hRr hoo;have hend:vA cnt byt R n cost=[]→za3 w tot (.returned (.slice ao o co)) wr:=fun h0=>by
     have ht:=HI.out.tot;rw[h0,jt]at ht;subst ht;exact⟨ao,co,by rw[HOO.out],HI.out.row,fun g hg=>by have:=HI.out.fr g hg;have:=HP3.out.size;omega,HP3.out.trans HI.out.pu⟩
    have HEN:=za hend;clear hend
    cases R with
    | nil =>
     obtain rfl:r=0:=HRr.out.symm;have he:=HEN.out rfl;clear HEN;go_wp2;go_ret;exact he
    | cons x R =>
     obtain⟨r',rfl⟩ : ∃ q,r=q+1:=⟨R.length,HRr.out.symm⟩;have hrl:R.length=r':=by have:=HRr.out;simp at this;exact this
     have hrd:=HI.out.rd;rw[qu,hrl]at hrd;have hcap:=HI.out.cap;rw[qu,hrl]at hcap;have hle:=HI.out.le;rw[qu,hrl]at hle;have hcs2:=HI.out.cs;rw[kj]at hcs2;have hol:=HI.out.ol;rw[qu,hrl,HOO.out]at hol;obtain⟨ad,had,z0,z1,ht⟩:=zbV (hrd.frame HI.out.pu (fun _ _ h=>h)) hcap;obtain⟨ad',had',z3,_,ht3⟩:=zbV hrd hcap;subst had;injection had' with had'
     subst had';clear ht;obtain⟨sv,hsv⟩:=zf ((if cR=1 then some ad else some (ad.add 2)));have hsl:=fun W=>zd8 (ad:=ad) (n:=r') (c:=cR) W
     rw[hsv]at ht3;simp only[hsv]at hsl;have hvic:(cnt<n∨byt<cost)→vA cnt byt (x::R) n cost=x.slot::vA cnt byt R (n-1) (cost-x.cost):=fun h=>by rw[vA,zj h]
     have HV:=za hvic;have HT3:=za ht3;have HSV:=za hsv;have HRL:=za hrl;have HOL:=za hol;have HCP:=za hcap;have HLE:=za hle;have HC2:=za hcs2;have hstep:(cnt<n∨byt<cost) → ∀(W:World) (a7:Option Addr) (c7:Nat),yu W a7 c7 (out++[x.slot])→xq w3 (.slice a7 (out++[x.slot]).length c7)→zb w3 W→VcI w3 cnt byt tot R (out++[x.slot]) sv (cR-1) (n-1) (cost-x.cost) a7 c7 W:=fun h W a7 c7 q1 q2 q3=>by
      refine⟨by rw[HRL.out];exact HT3.out,by rw[HRL.out];have:=HCP.out;omega,q1,q2,q3,?_,by rw[HRL.out];have:=HLE.out;omega,by have:=HC2.out;omega,by rw[HRL.out,zT,HOO.out];have:=HOL.out;simp;omega⟩;rw[← HI.out.tot,HV.out h];simp
     have HST:=za hstep;have e1:(0:Int)<(r':Int)+1:=by omega
     have e2:IntKind.i64.wrap ((n:Int)-1)=((n-1:Nat):Int):=by rw[zt _ (by have:=HL.out;omega)];omega
     have e3:IntKind.i64.wrap ((cost:Int)-(x.cost:Int))=((cost-x.cost:Nat):Int):=by rw[zt _ (by omega)];omega
     have e4:(1:Int)≤(r':Int)+1:=by omega
     have e5:(r':Int)+1≤(cR:Int):=by omega
     clear hvic ht3 hsv hrl hol hcap hle hcs2 hstep hrd;by_cases h1:cnt<n
     ·have hor:cnt<n∨byt<cost := .inl h1;have d1:(cnt:Int)<(n:Int):=by omega
      have HOR:=za hor;clear hor h1 HEN;exact Az39m
     ·by_cases h2:byt<cost
      ·have hor:cnt<n∨byt<cost := .inr h2;have d1 : ¬ (cnt:Int)<(n:Int):=by omega
       have d2:(byt:Int)<(cost:Int):=by omega
       have HOR:=za hor;clear hor h1 h2 HEN;exact Az39m
      ·have d1 : ¬ (cnt:Int)<(n:Int):=by omega
       have d2 : ¬ (byt:Int)<(cost:Int):=by omega
       have he:=HEN.out (by rw[vA,zh (by omega)]);clear HEN h1 h2;go_wp2;go_ret;exact he
def zj2(w:World)(l:List Nat)(e:Ending)(w':World):Prop := ∃ a c,e=.returned (.tuple #[.slice a l.length c,.int .i64 0])∧yu w' a c l∧xq w (.slice a l.length c)∧zb w w'
theorem zeb{a1 a2:Option Addr}{c1 c2 keep cnt byt:Nat}{xs ys:List Wt}(h1:zr w (.slice a1 xs.length c1) 2 (xs.flatMap wtC))(h2:zr w (.slice a2 ys.length c2) 2 (ys.flatMap wtC))
  (hl:(xs++ys).length≤2097152) (hr : ∀ x∈xs++ys,x.slot<4194304∧x.cost≤1099511627776) (hnd:(zA (xs++ys)).Nodup) (hcn:cnt≤4611686018427387904) (hby:byt≤4611686018427387904) :
  Calls prog 108 #[.slice a1 xs.length c1,.slice a2 ys.length c2,.int .u32 keep,.int .i64 cnt,.int .i64 byt] w (zj2 w (ud cnt byt keep (xs++ys))):=by
 have HOf:=za (zkc (keep:=keep) h1 h2 hl (fun x hx=>by obtain⟨h3,h4⟩:=hr x hx;omega) hnd);have HVi:=za (fun(W:World) (a:Option Addr) (c:Nat) (h:zr W (.slice a (xs++ys).length c) 2 ((xs++ys).flatMap wtC))=>ze5 (keep:=keep) h hl (fun x hx=>(hr x hx).2) hcn hby);obtain⟨tot,htot⟩:=zf (ud cnt byt keep (xs++ys));rw[htot]at HVi ⊢;have d1 : ¬ (cnt:Int)<0:=by omega
 have d2 : ¬ (byt:Int)<0:=by omega
 obtain⟨zs,hzs⟩:=zf (xs++ys);rw[hzs]at HVi HOf;obtain⟨n1,hn1⟩:=zf xs.length;obtain⟨n2,hn2⟩:=zf ys.length;rw[hn1,hn2]at HOf ⊢;clear h1 h2 hl hr hnd htot hzs hn1 hn2;go_enter func108,ntmps108;go_upto_region 2 with(go_at_call 164;refine HOf.out.mono ?_;rintro e w3 ⟨a3,c3,rfl,hr3,hf3,hp3⟩)
 have hbx:=zk (w:=w3) (o := .cells #[.slice a3 zs.length c3,.int .u32 keep] 272 (0,0)) rfl;have hal:zb w3 (w3.alloc (.cells #[.slice a3 zs.length c3,.int .u32 keep] 272)):=(Mod.refl _ w3).alloc _;have HV:=za (HVi.out _ a3 c3 ((zr.of_owns hr3 (ZX zs)).frame hal (fun _ _ h=>h)));have HP:=za (hp3.trans hal);generalize w3.alloc (.cells #[.slice a3 zs.length c3,.int .u32 keep] 272)=W4 at *;generalize w3.heap.size=b4 at *;generalize zs.length=nz at *;clear hr3 hf3 hp3 hal;obtain⟨hbx_0,hbx_1,hbx_f,hbx_l,H_hbx⟩:=cr2 hbx;clear hbx
 go_wp2_with (go_at_call 165;refine HV.out.mono ?_;rintro e w5 ⟨a5,c5,rfl,hr5,hf5,hp5⟩)
 go_ret2;exact⟨a5,c5,rfl,hr5,fun g hg=>by have:=hf5 g hg;have:=HP.out.size;omega,HP.out.trans hp5⟩
end
end
end Go.Proofs.YtifbnponicgplaaGreatDoor
