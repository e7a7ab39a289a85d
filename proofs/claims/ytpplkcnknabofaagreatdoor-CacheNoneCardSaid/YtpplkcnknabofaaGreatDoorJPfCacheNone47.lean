/- Lemmas and contracts of functions. No condition. -/
import Derived.Test.YtpplkcnknabofaaGreatDoorJPfCacheNone46
import Derived.Test.YtpplkcnknabofaaGreatDoorJPfCacheNone45
import Derived.Lib.SlBytesConst
namespace Go.Proofs.YtpplkcnknabofaaGreatDoor
open _root_.Go.Proofs.Tryz
set_option maxRecDepth 100000
set_option maxHeartbeats 20000000
set_option linter.all false
section
open Go.RowKit Go.Shelf
section
variable{w w':World}{P:World→Prop}
theorem zcM{pv:Value}{tt:Nat}{key:ByteArray}{vs:List UInt8}{is:Bool}{er:Int}(h:Calls prog 18 #[pv,.int .u64 tt,.string key] w fun e w' => ∃ a n c,e=.returned (.tuple #[.slice a n c,.bool is,.int .i64 er])∧zn w' (.slice a n c) 1 (zJ vs)∧P w') :
  Calls prog 41 #[pv,.int .u64 tt,.string key,.string (yp vs),.bool is,.int .i64 er] w fun e w'=>e=.returned (.bool true)∧P w':=by
 have H:=za h;unfold yp;clear h;go_enter func41,ntmps41
 go_wp2_with (go_at_call 18;refine H.out.mono ?_;rintro e w1 ⟨a,n,c,rfl,hr,hP⟩;have k1:=qk vs hr)
 go_ret;exact⟨by simp,hP⟩
theorem zbC{pv:Value}{tt ttl:Nat}{key:ByteArray}{is:Bool}{er:Int}(h:Calls prog 19 #[pv,.int .u64 tt,.string key,.int .u64 ttl] w fun e w'=>e=.returned (.tuple #[.bool is,.int .i64 er])∧P w') :
  Calls prog 42 #[pv,.int .u64 tt,.string key,.int .u64 ttl,.bool is,.int .i64 er] w fun e w'=>e=.returned (.bool true)∧P w':=by
 have H:=za h;clear h;go_enter func42,ntmps42
 go_wp2_with (go_at_call 19;refine H.out.mono ?_;rintro e w1 ⟨rfl,hP⟩)
 go_ret;exact⟨by simp,hP⟩
theorem zc0{pv:Value}{tt:Nat}{key:ByteArray}{is:Bool}{er:Int}(h:Calls prog 20 #[pv,.int .u64 tt,.string key] w fun e w'=>e=.returned (.tuple #[.bool is,.int .i64 er])∧P w') :
  Calls prog 32 #[pv,.int .u64 tt,.string key,.bool is,.int .i64 er] w fun e w'=>e=.returned (.bool true)∧P w':=by
 have H:=za h;clear h;go_enter func32,ntmps32
 go_wp2_with (go_at_call 20;refine H.out.mono ?_;rintro e w1 ⟨rfl,hP⟩)
 go_ret;exact⟨by simp,hP⟩
theorem zci{pv:Value}{tt:Nat}{n er:Int}(h:Calls prog 21 #[pv,.int .u64 tt] w fun e w'=>e=.returned (.tuple #[.int .i64 n,.int .i64 er])∧P w') :
  Calls prog 37 #[pv,.int .u64 tt,.int .i64 n,.int .i64 er] w fun e w'=>e=.returned (.bool true)∧P w':=by
 have H:=za h;clear h;go_enter func37,ntmps37
 go_wp2_with (go_at_call 21;refine H.out.mono ?_;rintro e w1 ⟨rfl,hP⟩)
 go_ret;exact⟨by simp,hP⟩
theorem zcD{w:World}(x:CE)(a1 a2:Option Addr)(n1 n2 c1 c2:Nat)(h1:zn w (.slice a1 n1 c1) 1 (zJ x.val))(h2:zn w (.slice a2 n2 c2) 1 (zJ x.val)) :
  Calls prog 93 #[ceV x (.slice a1 n1 c1),ceV x (.slice a2 n2 c2)] w fun e w'=>e=.returned (.bool true)∧zb w w':=by
 have hp:zb w ((w.alloc (.cells #[.string x.key,.slice a1 n1 c1,.int .u64 x.dl,.int .u64 x.birth] 57)).alloc (.cells #[.string x.key,.slice a2 n2 c2,.int .u64 x.dl,.int .u64 x.birth] 57)):=((Mod.refl _ w).alloc _).alloc _;have k1:=qk x.val (h1.frame hp (fun _ _ h=>h));have k2:=qk x.val (h2.frame hp (fun _ _ h=>h));have HP:=za hp;clear h1 h2 hp;go_enter func93,ntmps93;go_wp2;go_ret;exact⟨rfl,HP.out⟩
theorem Az3gc {P:Prop}(h:P:=by
 have hal2:zb w2 (w2.alloc (.cells #[.string x.key,.slice a n c,.int .u64 x.dl,.int .u64 x.birth] 57)):=(Mod.refl _ w2).alloc _;have hz2:=zi (w:=w2) (o := .cells #[.string x.key,.slice a n c,.int .u64 x.dl,.int .u64 x.birth] 57 (0,0)) rfl;have hzz:w2.heap[q]? = some (.cells #[.string x.key,.slice a2 n2 c2,.int .u64 x.dl,.int .u64 x.birth] 57 (0,0)):=(hk2 q (zG _) HSZ.out).trans Z.out;have hzq:=hal2.heap (fun h=>h) hzz;have HEn:=za (zcD x a a2 n n2 c c2 (hr1.frame hal2 (fun _ _ h=>h)) (hr2.frame hal2 (fun _ _ h=>h)));have HPw:=za (HP.out _ _ hPw hal2);clear hr1 hr2 hPw hal2 hzz hk2 hs2;generalize w2.alloc (.cells #[.string x.key,.slice a n c,.int .u64 x.dl,.int .u64 x.birth] 57)=W3 at *;generalize w2.heap.size=q2 at hz2 ⊢;obtain⟨hz2_0,hz2_1,hz2_2,hz2_3,hz2_f,hz2_l,H_hz2⟩:=cr4 hz2;clear hz2;obtain⟨hzq_0,hzq_1,hzq_2,hzq_3,hzq_f,hzq_l,H_hzq⟩:=cr4 hzq;clear hzq
 go_wp2_with (go_at_call 93;refine HEn.out.mono ?_;rintro e w4 ⟨rfl,hp4⟩)
 go_ret;exact⟨by simp,HP.out _ _ HPw.out hp4⟩):P:=h
theorem zcs{pv:Value}{tt:Nat}{key:ByteArray}{x:CE}{is:Bool}{er:Int}{a2:Option Addr}{n2 c2:Nat}(hP : ∀ W W',P W→zb W W'→P W')(h : ∀ W,zb w W→Calls prog 102 #[pv,.int .u64 tt,.string key] W fun e w' => ∃ a n c,e=.returned (.tuple #[ceV x (.slice a n c),.bool is,.int .i64 er])∧zn w' (.slice a n c) 1 (zJ x.val)∧zn w' (.slice a2 n2 c2) 1 (zJ x.val)∧W.heap.size≤w'.heap.size∧(∀ k,w.heap.size≤k→k<W.heap.size→w'.heap[k]? = W.heap[k]?)∧P w') :
  Calls prog 36 #[pv,.int .u64 tt,.string key,ceV x (.slice a2 n2 c2),.bool is,.int .i64 er] w fun e w'=>e=.returned (.bool true)∧P w':=by
 have hal:zb w (w.alloc (.cells #[.string x.key,.slice a2 n2 c2,.int .u64 x.dl,.int .u64 x.birth] 57)):=(Mod.refl _ w).alloc _;have hz:=zi (w:=w) (o := .cells #[.string x.key,.slice a2 n2 c2,.int .u64 x.dl,.int .u64 x.birth] 57 (0,0)) rfl;have H:=za (h _ hal);have HP:=za hP;have Z:=za hz;have hsz:w.heap.size<(w.alloc (.cells #[.string x.key,.slice a2 n2 c2,.int .u64 x.dl,.int .u64 x.birth] 57)).heap.size:=by simp
 have HSZ:=za hsz;clear h hP hal hz hsz;go_enter func36,ntmps36;go_upto_region 1 with fail
 generalize w.alloc (.cells #[.string x.key,.slice a2 n2 c2,.int .u64 x.dl,.int .u64 x.birth] 57)=W1 at *;obtain⟨q,hq⟩:=zc w.heap.size;rw[hq]at Z H HSZ ⊢;clear hq;go_upto_region 2 with(go_at_call 102;refine H.out.mono ?_;rintro e w2 ⟨a,n,c,rfl,hr1,hr2,hs2,hk2,hPw⟩)
 exact Az3gc
theorem zaC{pv:Value}{tt above:Nat}{x:CE}{is:Bool}{er:Int}{a2:Option Addr}{n2 c2:Nat}(hP : ∀ W W',P W→zb W W'→P W')(h : ∀ W,zb w W→Calls prog 106 #[pv,.int .u64 tt,.int .u64 above] W fun e w' => ∃ a n c,e=.returned (.tuple #[ceV x (.slice a n c),.bool is,.int .i64 er])∧zn w' (.slice a n c) 1 (zJ x.val)∧zn w' (.slice a2 n2 c2) 1 (zJ x.val)∧W.heap.size≤w'.heap.size∧(∀ k,w.heap.size≤k→k<W.heap.size→w'.heap[k]? = W.heap[k]?)∧P w') :
  Calls prog 44 #[pv,.int .u64 tt,.int .u64 above,ceV x (.slice a2 n2 c2),.bool is,.int .i64 er] w fun e w'=>e=.returned (.bool true)∧P w':=by
 have hal:zb w (w.alloc (.cells #[.string x.key,.slice a2 n2 c2,.int .u64 x.dl,.int .u64 x.birth] 57)):=(Mod.refl _ w).alloc _;have hz:=zi (w:=w) (o := .cells #[.string x.key,.slice a2 n2 c2,.int .u64 x.dl,.int .u64 x.birth] 57 (0,0)) rfl;have H:=za (h _ hal);have HP:=za hP;have Z:=za hz;have hsz:w.heap.size<(w.alloc (.cells #[.string x.key,.slice a2 n2 c2,.int .u64 x.dl,.int .u64 x.birth] 57)).heap.size:=by simp
 have HSZ:=za hsz;clear h hP hal hz hsz;go_enter func44,ntmps44;go_upto_region 1 with fail
 generalize w.alloc (.cells #[.string x.key,.slice a2 n2 c2,.int .u64 x.dl,.int .u64 x.birth] 57)=W1 at *;obtain⟨q,hq⟩:=zc w.heap.size;rw[hq]at Z H HSZ ⊢;clear hq;go_upto_region 2 with(go_at_call 106;refine H.out.mono ?_;rintro e w2 ⟨a,n,c,rfl,hr1,hr2,hs2,hk2,hPw⟩)
 exact Az3gc
theorem za7{w:World}{a:Option Addr}{n c:Nat}{L:List Nat}(h:zn w (.slice a n c) 1 (uM L)){j:Nat}{x:Nat}(hx:L[j]? = some x) : ∃ ad,a=some ad∧w.cell? (ad.add j)=some (.int .u64 x):=by
 obtain⟨a',n',c',e,hl,_,h0,hc⟩:=h;injection e with e1 e2 e3
 subst e1 e2 e3;have hu:(uM L)[j]? = some (.int .u64 x):=by unfold uM;rw[yw,hx];rfl
 exact Aztpt
theorem zaa{a1 a2:Option Addr}{n c1 c2:Nat}{L:List Nat}(hn:L.length=n)(hl:n≤4194304)(h1:zn w (.slice a1 n c1) 1 (uM L))(h2:zn w (.slice a2 n c2) 1 (uM L)) :
  Calls prog 34 #[.slice a1 n c1,.slice a2 n c2] w fun e w'=>e=.returned (.bool true)∧zb w w':=by
 have HN:=za hn;have H1:=za h1;have H2:=za h2;have HL:=za hl;clear hn h1 h2 hl;go_enter func34,ntmps34;go_upto_region 4 with fail
 go_loopw [5] (fun v5 wr => ∃ j:Nat,v5=.int .i64 (j:Nat)∧j≤n∧zb w wr) (fun v5 _=>n-(intOf v5).toNat)
 case atStart=>exact⟨0,rfl,yh _,Mod.refl _ _⟩
 case round =>
  obtain⟨j,rfl,hj,hp⟩:=hrel;have HP:=za hp;clear hp;by_cases hlt:j<n
  ·have hlt':(j:Int)<(n:Int):=by omega
   have j0:(0:Int)≤(j:Int):=by omega
   have wj:IntKind.i64.wrap ((j:Int)+1)=(j:Int)+1:=zt _ (by have:=HL.out;omega);obtain⟨x,hx⟩ : ∃ x,L[j]? = some x:=⟨_,zN (by rw[HN.out];exact hlt)⟩;obtain⟨ad,had,z0⟩:=za7 (H1.out.frame (HP.out.drew) (fun _ _ h=>h)) hx;obtain⟨ae,hae,z1⟩:=za7 (H2.out.frame (HP.out.drew) (fun _ _ h=>h)) hx;subst had hae;clear hx;go_upto_region 6 with fail
   refine rHd (S:=fun Y=>Y.cell? (ad.add j)=some (.int .u64 x)∧Y.cell? (ae.add j)=some (.int .u64 x)) ⟨z0,z1⟩ (fun h_ => ?_);refine hTk 0 ?_;refine hTk 1 ?_;refine hTk 2 ?_;refine hLd 3 ?_;refine hTk 4 ?_;refine hTk 5 ?_;refine hTk 6 ?_;refine hLd 7 ?_;refine hTk 8 ?_;refine hDn ?_;clear h_ z0 z1;have hp9:=HP.out.drew;go_wp2;go_roundw
   case rel=>exact⟨j+1,by first | rfl | simp,hlt,hp9⟩
   case measure=>simp[intOf];omega
  ·have hlt' : ¬ (j:Int)<(n:Int):=by omega
   obtain rfl:j=n:=by omega
   go_wp2;go_ret;exact⟨rfl,HP.out⟩
theorem zlo{pv:Value}{x:Ev}{T:ByteArray}{A5 A6:List UInt8}(hP : ∀ W W',P W→zb W W'→P W')(hx:x.Ok)(hT:Zp x A5 A6=T)(h5 : ∀ W,Calls prog 221 #[.string x.e.key] W fun e w'=>e=.returned (.string (yp A5))∧zb W w')(h6 : ∀ W,Calls prog 221 #[.string (yp x.e.val)] W fun e w'=>e=.returned (.string (yp A6))∧zb W w')(l5:A5.length≤1000)(l6:A6.length≤1000)
    (h:Calls prog 24 #[pv] w fun e w' => ∃ a c es,e=.returned (.slice a 1 c)∧es.map Prod.fst=[x]∧Vo w' a c es∧P w') :
    Calls prog 58 #[pv,.string T] w fun e w'=>e=.returned (.bool true)∧P w':=by
  have H:=za h;have HP:=za hP;have HT:=za hT;have HX:=za hx;have H5:=za h5;have H6:=za h6;have L5:=za l5;have L6:=za l6;clear h hP hT hx h5 h6 l5 l6;go_enter func58,ntmps58;go_upto_region 2 with(go_at_call 24;refine H.out.mono ?_;rintro e w1 ⟨a,c,es,rfl,hes,hrow,hPw⟩)
  have hone:es.length=1:=by have:=congrArg List.length hes;rw[yt]at this;exact this
  obtain⟨⟨x',v⟩,rfl⟩:=List.length_eq_one_iff.1 hone;have hxe:x'=x:=by simpa using hes
  subst hxe;obtain⟨va,vc,hv,_⟩:=uN (hrow.vals (x',v) ym);dsimp only at hv;have hvr:=hrow.vals (x',v) ym;have hr:=hrow.row;subst hv;have hrd:=zn.of_owns hr (by simp[Vg,Value.oneCell']);obtain⟨a',n',c',e',hl,_,h0,hc⟩:=hrd;injection e' with e1 e2 e3
  subst e1 e2 e3;obtain⟨ad,had⟩ : ∃ ad,a=some ad:=by
    cases a with
    | none=>exact absurd (h0 rfl) (by simp)
    | some ad=>exact⟨ad,rfl⟩
  subst had;have e0:ad.add 0=ad:=by simp[Addr.add]
  have z0:=hc ad rfl 0 (.int .i64 x'.kind) rfl;have z1:=ZY (k:=0) (j:=0) (hc ad rfl (0+(0+1)) (.string x'.e.key) rfl);have z2:=ZY (k:=0) (j:=1) (hc ad rfl (0+(1+1)) (.slice va (zJ x'.e.val).length vc) rfl);have z3:=ZY (k:=0) (j:=2) (hc ad rfl (0+(2+1)) (.int .u64 x'.e.birth) rfl);have z4:=ZY (k:=0) (j:=3) (hc ad rfl (0+(3+1)) (.int .u64 x'.e.dl) rfl);have z5:=ZY (k:=0) (j:=4) (hc ad rfl (0+(4+1)) (.int .u64 x'.tm) rfl);rw[e0]at z0 z1 z2 z3 z4 z5;obtain⟨nv,hnv⟩:=zc ((zJ x'.e.val).length);have hnv2:nv=x'.e.val.length:=by rw[← hnv,uP]
  rw[hnv]at z2;have HVl:=za (fun W=>zk2 (w:=W) x' HX.out (a:=va) (n:=nv) (c:=vc) hnv2);have hrv:zn w1 (.slice va nv vc) 1 (zJ x'.e.val):=by
    have h9:=yv.read hvr (kO _);rw[hnv]at h9;exact h9
  have HTx:=za (fun W (hW:zb w1 W)=>zfe x' HX.out (hrv.frame hW (fun _ _ h=>h)) H5.out H6.out L5.out L6.out);rw[HT.out]at HTx;have HPw:=za hPw;have Z:Hid (∀ W,zb w1 W→W.cell? ad=some (.int .i64 x'.kind)∧W.cell? ⟨ad.block,ad.off+1,none⟩=some (.string x'.e.key)∧W.cell? ⟨ad.block,ad.off+2,none⟩=some (.slice va nv vc)∧W.cell? ⟨ad.block,ad.off+3,none⟩=some (.int .u64 x'.e.birth)∧W.cell? ⟨ad.block,ad.off+4,none⟩=some (.int .u64 x'.e.dl)∧W.cell? ⟨ad.block,ad.off+5,none⟩=some (.int .u64 x'.tm)):=za (fun W hW=>⟨hW.cell (fun h=>h) z0,hW.cell (fun h=>h) z1,hW.cell (fun h=>h) z2,hW.cell (fun h=>h) z3,hW.cell (fun h=>h) z4,hW.cell (fun h=>h) z5⟩);clear hes hone hrow hPw hvr hr hl h0 hc e0 hnv hnv2 hrv
  go_wp2_with (first
    | (go_at_call 95;refine(HVl.out _).mono ?_;rintro e w2 ⟨rfl,hp2⟩;obtain⟨y0,y1,y2,y3,y4,y5⟩:=Z.out _ hp2;have HT2:=za (HTx.out _ hp2))
    | (go_at_call 133;refine HT2.out.mono ?_;rintro e w3 ⟨rfl,hp3⟩))
  go_ret;exact⟨by simp,HP.out _ _ HPw.out (hp2.trans hp3)⟩
end
theorem zlk{P:Program}{fn:Func}{R:Ending→World→Prop}{tmps:Array Value}{w:World}(v:Value)(hr:(results fn tmps).run P w=.ok v w)(hR:R (.returned v) w):bodyPostM Fence.wide 0 P fn R .ret {tmps:=tmps,defers:=[]} w:=⟨v,hr,hR⟩
def NoC(w:World)(o:Option Addr):Prop := ∀ Y,zb w Y→Calls prog 61 #[.pointer o] Y fun e w'=>e=.returned (.bool true)∧Y=w'
section
variable{w w':World}{o:Option Addr}
theorem NoC.pure(h:NoC w o)(hp:zb w w'):NoC w' o:=fun Y hY=>h Y (hp.trans hY)
theorem zfn(w:World):NoC w none:=fun Y _=>zlc Y
theorem ze5{q:Nat}(h:w.heap[q]? = some (.cells #[.pointer none,.pointer none,.pointer none,.pointer none,.pointer none,.pointer none,.int .i64 0,.int .i64 0,.int .i64 0,.int .u64 0,.bool false] 85 (0,0))):NoC w (some ⟨q,0,none⟩):=fun Y hY=>by
 have hb:=hY.heap (fun h=>h) h;clear h hY;exact Azfsx
theorem Az38e {P:Prop}(h:P:=by
 go_wp2_with (go_at_call 61;refine HN.out.mono ?_;rintro e w' ⟨rfl,rfl⟩)
 go_ret;exact⟨rfl,rfl⟩):P:=h
theorem qs(h:NoC w o)(a:Option Addr)(n c:Nat)(Y:World)(hY:zb w Y):Calls prog 70 #[.pointer o,.slice a n c] Y fun e w'=>e=.returned (.int .i64 1)∧Y=w':=by
 have HN:=za (h Y hY);clear h hY;go_enter func70,ntmps70;exact Az38e
theorem zlJ(h:NoC w o):Calls prog 33 #[.pointer o] w fun e w'=>e=.returned (.int .i64 0)∧w=w':=by
 have HN:=za (h w (Mod.refl _ _));clear h;go_enter func33,ntmps33;exact Az38e
theorem zgs(h:NoC w o):Calls prog 45 #[.pointer o] w fun e w'=>e=.returned (.int .i64 0)∧w=w':=by
 have HN:=za (h w (Mod.refl _ _));clear h;go_enter func45,ntmps45;exact Az38e
theorem zgj(h:NoC w o):Calls prog 29 #[.pointer o] w fun e w'=>e=.returned (.int .u64 0)∧w=w':=by
 have HN:=za (h w (Mod.refl _ _));clear h;go_enter func29,ntmps29;exact Az38e
theorem zg4(h:NoC w o):Calls prog 46 #[.pointer o] w fun e w'=>e=.returned (.int .u64 18446744073709551615)∧w=w':=by
 have HN:=za (h w (Mod.refl _ _));clear h;go_enter func46,ntmps46;exact Az38e
theorem zhh(h:NoC w o):Calls prog 15 #[.pointer o] w fun e w'=>e=.returned (.int .u64 0)∧w=w':=by
 have HN:=za (h w (Mod.refl _ _));clear h;go_enter func15,ntmps15;exact Az38e
theorem zks(h:NoC w o):Calls prog 14 #[.pointer o] w fun e w'=>e=.returned (.slice none 0 0)∧w=w':=by
 have HN:=za (h w (Mod.refl _ _));clear h
 (refine(yy (n:=0)).1 (callsIn_of_wp_marks func14 rfl trivial (vQ.2 ?_) rfl);simp only[ntmps14,List.size_toArray,List.length_cons,List.length_nil,Nat.reduceAdd,Nat.reduceSub,Array.replicate_succ,Array.replicate_zero,List.push_toArray,List.append_toArray,List.nil_append,List.cons_append])
 go_wp2_with (go_at_call 61;refine HN.out.mono ?_;rintro e w' ⟨rfl,rfl⟩)
 exact zlk (.slice none 0 0) (by simp[results,results14,go_sem]) ⟨rfl,rfl⟩
theorem zgW(h:NoC w o)(g:Int):Calls prog 35 #[.pointer o,.int .i64 g] w fun e w'=>e=.returned (.slice none 0 0)∧w=w':=by
 have HN:=za (h w (Mod.refl _ _));clear h;go_enter func35,ntmps35;exact Az38e
theorem zjJ(h:NoC w o):Calls prog 24 #[.pointer o] w fun e w'=>e=.returned (.slice none 0 0)∧w=w':=by
 have HN:=za (h w (Mod.refl _ _));clear h;go_enter func24,ntmps24;exact Az38e
theorem zjm(h:NoC w o):Calls prog 50 #[.pointer o] w fun e w'=>e=.returned (.pointer none)∧w=w':=by
 have HN:=za (h w (Mod.refl _ _));clear h;go_enter func50,ntmps50;exact Az38e
theorem zii(h:NoC w o):Calls prog 40 #[.pointer o] w fun e w'=>e=.returned (.tuple #[.int .i64 0,.int .i64 0])∧w=w':=by
 have HN:=za (h w (Mod.refl _ _));clear h;go_enter func40,ntmps40
 go_wp2_with (go_at_call 61;refine HN.out.mono ?_;rintro e w' ⟨rfl,rfl⟩)
 go_ret2;exact⟨rfl,rfl⟩
theorem Azj1t {P:Prop}(h:P:=by
 go_wp2_with (go_at_call 70;refine(HC.out _ (Mod.refl _ _)).mono ?_;rintro e w' ⟨rfl,rfl⟩)
 go_ret;exact⟨rfl,Mod.refl _ _⟩):P:=h
theorem zko(h:NoC w o)(t:Nat):Calls prog 23 #[.pointer o,.int .u64 t] w fun e w'=>e=.returned (.int .i64 1)∧zb w w':=by
 have HC:=za (qs h none 0 0);clear h;go_enter func23,ntmps23;exact Azj1t
theorem zfT(h:NoC w o)(t:Nat):Calls prog 43 #[.pointer o,.int .u64 t] w fun e w'=>e=.returned (.int .i64 1)∧zb w w':=by
 have HC:=za (qs h none 0 0);clear h;go_enter func43,ntmps43;exact Azj1t
theorem zeM(h:NoC w o)(t:Nat):Calls prog 21 #[.pointer o,.int .u64 t] w fun e w'=>e=.returned (.tuple #[.int .i64 0,.int .i64 1])∧zb w w':=by
 have HC:=za (qs h none 0 0);have hb1:=zi (w:=w) (o := .cells #[.pointer o] 30 (0,0)) rfl;have hp0:zb w (w.alloc (.cells #[.pointer o] 30)):=(Mod.refl _ w).alloc _;clear h;go_enter func21,ntmps21;go_upto_region 1 with fail
 generalize w.alloc (.cells #[.pointer o] 30)=W1 at *;generalize w.heap.size=c1 at hb1 ⊢;have HP0:=za hp0;clear hp0;obtain⟨hb1_0,hb1_f,hb1_l,H_hb1⟩:=cr1 hb1;clear hb1
 go_wp2_with (go_at_call 70;refine(HC.out _ HP0.out).mono ?_;rintro e w2 ⟨rfl,rfl⟩)
 exact zK (v := .tuple #[.int .i64 0,.int .i64 1]) (by simp[results,results21,go_sem]) rfl ⟨rfl,HP0.out⟩
theorem ziK(h:NoC w o)(t:Nat)(n m:Int):Calls prog 22 #[.pointer o,.int .u64 t,.int .i64 n,.int .i64 m] w fun e w'=>e=.returned (.int .i64 1)∧zb w w':=by
 have HN:=za h;have hp0:zb w (((w.alloc (.cells #[.pointer o] 30)).alloc (.cells #[.int .i64 n] 3)).alloc (.cells #[.int .i64 m] 3)):=(((Mod.refl _ w).alloc _).alloc _).alloc _;have hb0:=zz (o := .cells #[.int .i64 m] 3) (zz (o := .cells #[.int .i64 n] 3) (zi (w:=w) (o := .cells #[.pointer o] 30 (0,0)) rfl));clear h;go_enter func22,ntmps22;go_upto_region 1 with fail
 generalize((w.alloc (.cells #[.pointer o] 30)).alloc (.cells #[.int .i64 n] 3)).alloc (.cells #[.int .i64 m] 3)=W1 at *;generalize w.heap.size=c1 at hb0 ⊢;have HP0:=za hp0;clear hp0;obtain⟨hb0_0,hb0_f,hb0_l,H_hb0⟩:=cr1 hb0;clear hb0
 go_wp2_with (go_at_call 61;refine(HN.out _ HP0.out).mono ?_;rintro e w' ⟨rfl,rfl⟩)
 go_ret;exact⟨rfl,HP0.out⟩
theorem zfl(h:NoC w o)(t:Nat){key:ByteArray}(hk:key.size≤140737488355328):Calls prog 20 #[.pointer o,.int .u64 t,.string key] w fun e w'=>e=.returned (.tuple #[.bool false,.int .i64 1])∧zb w w':=by
  have HK:=za (fun Y=>jP key Y hk);have HC:=za (fun(a:Option Addr) (n c:Nat)=>qs h a n c);obtain⟨ke,hke⟩ : ∃ q:Int,(if xL key.size=true then(0:Int)else 2)=q:=⟨_,rfl⟩;rw[hke]at HK;clear h hke;go_enter func20,ntmps20
  go_wp2_with (first
    | (go_at_call 71;refine(HK.out _).mono ?_;rintro e w' ⟨rfl,rfl⟩)
    | (go_at_call 70;refine zm (HC.out _ _ _ _ ((Mod.refl _ _).alloc _)) ?_;rintro e w2 ⟨rfl,rfl⟩))
  go_ret2;exact⟨rfl,(Mod.refl _ _).alloc _⟩
theorem zkh(h:NoC w o)(t:Nat){key:ByteArray}(hk:key.size≤140737488355328):Calls prog 18 #[.pointer o,.int .u64 t,.string key] w fun e w'=>e=.returned (.tuple #[.slice none 0 0,.bool false,.int .i64 1])∧zb w w':=by
 have HK:=za (fun Y=>jP key Y hk);have HC:=za (fun(a:Option Addr) (n c:Nat)=>qs h a n c);obtain⟨ke,hke⟩ : ∃ q:Int,(if xL key.size=true then(0:Int)else 2)=q:=⟨_,rfl⟩;rw[hke]at HK;have hb1:=zi (w:=w) (o := .cells #[.pointer o] 30 (0,0)) rfl;have hp0:zb w (w.alloc (.cells #[.pointer o] 30)):=(Mod.refl _ w).alloc _;clear h hke;go_enter func18,ntmps18;go_upto_region 1 with fail
 generalize w.alloc (.cells #[.pointer o] 30)=W1 at *;generalize w.heap.size=c1 at hb1 ⊢;have HP0:=za hp0;have HS:=za (fun(Y:World) (hY:zb W1 Y)=>(zf Y c1 0 _ _ (0,0) (hY.heap (fun h=>h) hb1):Y.cell? ⟨c1,0,none⟩=some (.pointer o)));have HD:=za ((Mod.refl (fun _=>False) W1).drew);clear hb1 hp0;refine rHd (S:=fun Y=>Y.cell? ⟨c1,0,none⟩=some (.pointer o)) (HS.out _ HD.out) (fun h_ => ?_);refine hLd 0 ?_;refine hTk 1 ?_
 (refine hSt 2 (fun K hK => ?_);go_simp;refine(HK.out _).mono ?_;rintro e u1 ⟨rfl,rfl⟩;refine hK.out _ _ ?_ (fun h_ => ?_);(· exact HS.out _ HD.out);clear hK K;refine clA ?_)
 (refine hSt 3 (fun K hK => ?_);go_simp;refine hK.out _ _ ?_ (fun h_ => ?_);(· exact HS.out _ (HD.out.trans ((Mod.refl _ _).alloc _)));clear hK K;refine clA ?_)
 (refine hSt 4 (fun K hK => ?_);go_simp;refine zm (HC.out _ _ _ _ (HP0.out.trans (HD.out.trans ((Mod.refl _ _).alloc _)))) ?_;rintro e u2 ⟨rfl,rfl⟩;refine hK.out _ _ ?_ (fun h_ => ?_);(· exact HS.out _ (HD.out.trans ((Mod.refl _ _).alloc _)));clear hK K;refine clA ?_)
 refine hTk 5 ?_;refine hDn ?_;clear h_;go_wp2;exact zK (v := .tuple #[.slice none 0 0,.bool false,.int .i64 1]) (by simp[results,results18,go_sem]) rfl ⟨rfl,HP0.out.trans (HD.out.trans ((Mod.refl _ _).alloc _))⟩
theorem zh0(h:NoC w o)(t:Nat){key:ByteArray}(hk:key.size≤140737488355328):Calls prog 102 #[.pointer o,.int .u64 t,.string key] w fun e w'=>e=.returned (.tuple #[jE,.bool false,.int .i64 1])∧zb w w':=by
 have HK:=za (fun Y=>jP key Y hk);have HC:=za (fun(a:Option Addr) (n c:Nat)=>qs h a n c);obtain⟨ke,hke⟩ : ∃ q:Int,(if xL key.size=true then(0:Int)else 2)=q:=⟨_,rfl⟩;rw[hke]at HK;have hb1:=zz (o := .cells #[.string ⟨#[]⟩,.slice none 0 0,.int .u64 0,.int .u64 0] 57) (zi (w:=w) (o := .cells #[.pointer o] 30 (0,0)) rfl);have hb2:=zi (w:=w.alloc (.cells #[.pointer o] 30)) (o := .cells #[.string ⟨#[]⟩,.slice none 0 0,.int .u64 0,.int .u64 0] 57 (0,0)) (n:=w.heap.size+1) (by simp);have hp0:zb w ((w.alloc (.cells #[.pointer o] 30)).alloc (.cells #[.string ⟨#[]⟩,.slice none 0 0,.int .u64 0,.int .u64 0] 57)):=((Mod.refl _ w).alloc _).alloc _;clear h hke;go_enter func102,ntmps102;go_upto_region 1 with fail
 generalize(w.alloc (.cells #[.pointer o] 30)).alloc (.cells #[.string ⟨#[]⟩,.slice none 0 0,.int .u64 0,.int .u64 0] 57)=W1 at *;obtain⟨c1,hc1⟩:=zc w.heap.size;rw[hc1]at hb1 hb2 ⊢;have HC1:=za hc1;clear hc1;have HP0:=za hp0;have HB2:=za hb2;have HS:=za (fun(Y:World) (hY:zb W1 Y)=>(zf Y c1 0 _ _ (0,0) (hY.heap (fun h=>h) hb1):Y.cell? ⟨c1,0,none⟩=some (.pointer o)));have HD:=za ((Mod.refl (fun _=>False) W1).drew);clear hb1 hp0 hb2;refine rHd (S:=fun Y=>Y.cell? ⟨c1,0,none⟩=some (.pointer o)) (HS.out _ HD.out) (fun h_ => ?_);refine hLd 0 ?_;refine hTk 1 ?_
 (refine hSt 2 (fun K hK => ?_);go_simp;refine(HK.out _).mono ?_;rintro e u1 ⟨rfl,rfl⟩;refine hK.out _ _ ?_ (fun h_ => ?_);(· exact HS.out _ HD.out);clear hK K;refine clA ?_)
 (refine hSt 3 (fun K hK => ?_);go_simp;refine hK.out _ _ ?_ (fun h_ => ?_);(· exact HS.out _ (HD.out.trans ((Mod.refl _ _).alloc _)));clear hK K;refine clA ?_)
 (refine hSt 4 (fun K hK => ?_);go_simp;refine zm (HC.out _ _ _ _ (HP0.out.trans (HD.out.trans ((Mod.refl _ _).alloc _)))) ?_;rintro e u2 ⟨rfl,rfl⟩;refine hK.out _ _ ?_ (fun h_ => ?_);(· exact HS.out _ (HD.out.trans ((Mod.refl _ _).alloc _)));clear hK K;refine clA ?_)
 refine hTk 5 ?_;refine hDn ?_;clear h_;have hpd:zb W1 (W1.alloc (.cells #[.int .i64 ke] 26)).drew:=((Mod.refl _ W1).alloc _).drew;have hq2:=hpd.heap (fun h=>h) HB2.out;have HQ2:=za hq2;have HPD:=za (HP0.out.trans hpd);clear hpd;generalize(W1.alloc (.cells #[.int .i64 ke] 26)).drew=W2 at *;obtain⟨hq2_0,hq2_1,hq2_2,hq2_3,hq2_f,hq2_l,H_hq2⟩:=cr4 hq2;clear hq2;go_wp2;obtain⟨Y,hY⟩:=zc ((((W2.setCell ⟨c1+1,0,none⟩ (.string ⟨#[]⟩)).setCell ⟨c1+1,1,none⟩ (.slice none 0 0)).setCell ⟨c1+1,2,none⟩ (.int .u64 0)).setCell ⟨c1+1,3,none⟩ (.int .u64 0));obtain⟨g1,g2⟩:=qy HQ2.out hY;rw[hY];obtain⟨g2_0,g2_1,g2_2,g2_3,g2_f,g2_l,H_g2⟩:=cr4 g2;clear g2;exact zK (v := .tuple #[jE,.bool false,.int .i64 1]) (by simp[results,results102,go_sem,g2_0,g2_1,g2_2,g2_3]) rfl ⟨rfl,HPD.out.then g1 (fun i hi e=>by have:=HC1.out;omega)⟩
theorem ziU(h:NoC w o)(t above:Nat):Calls prog 106 #[.pointer o,.int .u64 t,.int .u64 above] w fun e w'=>e=.returned (.tuple #[jE,.bool false,.int .i64 1])∧zb w w':=by
 have HC:=za (qs h none 0 0);have hal:zb w (w.alloc (.cells #[.string ⟨#[]⟩,.slice none 0 0,.int .u64 0,.int .u64 0] 57)):=(Mod.refl _ w).alloc _;have z:=zi (w:=w) (o := .cells #[.string ⟨#[]⟩,.slice none 0 0,.int .u64 0,.int .u64 0] 57 (0,0)) rfl;have HP:=za hal;have Z:=za z;clear h hal;go_enter func106,ntmps106;go_upto_region 1 with fail
 generalize w.alloc (.cells #[.string ⟨#[]⟩,.slice none 0 0,.int .u64 0,.int .u64 0] 57)=W1 at *;obtain⟨q,hq⟩:=zc w.heap.size;rw[hq]at Z z ⊢;have HQ:=za hq;clear hq;obtain⟨z_0,z_1,z_2,z_3,z_f,z_l,H_z⟩:=cr4 z;clear z
 go_wp2_with (go_at_call 70;refine(HC.out _ HP.out).mono ?_;rintro e w2 ⟨rfl,rfl⟩)
 obtain⟨Y,hY⟩:=zc ((((W1.setCell ⟨q,0,none⟩ (.string ⟨#[]⟩)).setCell ⟨q,1,none⟩ (.slice none 0 0)).setCell ⟨q,2,none⟩ (.int .u64 0)).setCell ⟨q,3,none⟩ (.int .u64 0));obtain⟨g1,g2⟩:=qy Z.out hY;rw[hY];obtain⟨g2_0,g2_1,g2_2,g2_3,g2_f,g2_l,H_g2⟩:=cr4 g2;clear g2;exact zK (v := .tuple #[jE,.bool false,.int .i64 1]) (by simp[results,results106,go_sem,g2_0,g2_1,g2_2,g2_3]) rfl ⟨rfl,HP.out.then g1 (fun i hi e=>by have:=HQ.out;omega)⟩
theorem ze6(h:NoC w o)(t ttl:Nat){key:ByteArray}(hk:key.size≤140737488355328):Calls prog 19 #[.pointer o,.int .u64 t,.string key,.int .u64 ttl] w fun e w'=>e=.returned (.tuple #[.bool false,.int .i64 1])∧zb w w':=by
 have HK:=za (fun Y=>jP key Y hk);have HC:=za (fun(a:Option Addr) (n c:Nat)=>qs h a n c);obtain⟨ke,hke⟩ : ∃ q:Int,(if xL key.size=true then(0:Int)else 2)=q:=⟨_,rfl⟩;rw[hke]at HK;have HT:=za (fun Y=>zaF ttl Y);obtain⟨te,hte⟩:=zc (uV ttl);rw[hte]at HT;obtain⟨gt,hgt⟩:=zc (decide (0<ttl));rw[hgt]at HT;have hb1:=zz (o := .cells #[.int .u64 ttl] 33) (zi (w:=w) (o := .cells #[.pointer o] 30 (0,0)) rfl);have hb2:=zi (w:=w.alloc (.cells #[.pointer o] 30)) (o := .cells #[.int .u64 ttl] 33 (0,0)) (n:=w.heap.size+1) (by simp);have hp0:zb w ((w.alloc (.cells #[.pointer o] 30)).alloc (.cells #[.int .u64 ttl] 33)):=((Mod.refl _ w).alloc _).alloc _;clear h hke hte;go_enter func19,ntmps19;go_upto_region 1 with fail
 generalize(w.alloc (.cells #[.pointer o] 30)).alloc (.cells #[.int .u64 ttl] 33)=W1 at *;generalize w.heap.size=c1 at hb1 hb2 ⊢;have HP0:=za hp0;have HS:=za (fun(Y:World) (hY:zb W1 Y)=>(⟨zf Y c1 0 _ _ (0,0) (hY.heap (fun h=>h) hb1),zf Y (c1+1) 0 _ _ (0,0) (hY.heap (fun h=>h) hb2)⟩:Y.cell? ⟨c1,0,none⟩=some (.pointer o)∧Y.cell? ⟨c1+1,0,none⟩=some (.int .u64 ttl)));have HD:=za ((Mod.refl (fun _=>False) W1).drew);clear hb1 hb2 hp0;refine rHd (S:=fun Y=>Y.cell? ⟨c1,0,none⟩=some (.pointer o)∧Y.cell? ⟨c1+1,0,none⟩=some (.int .u64 ttl)) (HS.out _ HD.out) (fun h_ => ?_);refine hLd 0 ?_;refine hTk 1 ?_;refine hLd 3 ?_;refine hTk 4 ?_
 (refine hSt 2 (fun K hK => ?_);go_simp;refine(HK.out _).mono ?_;rintro e u1 ⟨rfl,rfl⟩;refine hK.out _ _ ?_ (fun h_ => ?_);(· exact HS.out _ HD.out);clear hK K;refine clA ?_)
 (refine hSt 5 (fun K hK => ?_);go_simp;(try rw[hgt]);refine(HT.out _).mono ?_;rintro e u1 ⟨rfl,rfl⟩;refine hK.out _ _ ?_ (fun h_ => ?_);(· exact HS.out _ HD.out);clear hK K;refine clA ?_)
 (refine hSt 6 (fun K hK => ?_);go_simp;refine hK.out _ _ ?_ (fun h_ => ?_);(· exact HS.out _ (HD.out.trans ((Mod.refl _ _).alloc _)));clear hK K;refine clA ?_)
 (refine hSt 7 (fun K hK => ?_);go_simp;refine zm (HC.out _ _ _ _ (HP0.out.trans (HD.out.trans ((Mod.refl _ _).alloc _)))) ?_;rintro e u2 ⟨rfl,rfl⟩;refine hK.out _ _ ?_ (fun h_ => ?_);(· exact HS.out _ (HD.out.trans ((Mod.refl _ _).alloc _)));clear hK K;refine clA ?_)
 refine hTk 8 ?_;refine hDn ?_;clear h_;go_wp2;exact zK (v := .tuple #[.bool false,.int .i64 1]) (by simp[results,results19,go_sem]) rfl ⟨rfl,HP0.out.trans (HD.out.trans ((Mod.refl _ _).alloc _))⟩
theorem zjc(h:NoC w o):Calls prog 47 #[.pointer o] w fun e w'=>e=.returned (.agg #[.int .i64 0,.int .i64 0,.int .i64 0,.int .u64 0,.bool false])∧zb w w':=by
 have hal:zb w (w.alloc (.cells #[.int .i64 0,.int .i64 0,.int .i64 0,.int .u64 0,.bool false] 24)):=(Mod.refl _ w).alloc _;have z:=zi (w:=w) (o := .cells #[.int .i64 0,.int .i64 0,.int .i64 0,.int .u64 0,.bool false] 24 (0,0)) rfl;have HN:=za (h _ hal);have HP:=za hal;have Z:=za z;clear h hal;go_enter func47,ntmps47;go_upto_region 1 with fail
 generalize w.alloc (.cells #[.int .i64 0,.int .i64 0,.int .i64 0,.int .u64 0,.bool false] 24)=W1 at *;obtain⟨q,hq⟩:=zc w.heap.size;rw[hq]at z Z ⊢;have HQ:=za hq;clear hq;obtain⟨z_0,z_1,z_2,z_3,z_4,z_f,z_l,H_z⟩:=cr5 z;clear z
 go_wp2_with (go_at_call 61;refine HN.out.mono ?_;rintro e w' ⟨rfl,rfl⟩)
 have hx:=UI (.int .i64 0) (.int .i64 0) (.int .i64 0) (.int .u64 0) (.bool false) Z.out;have hm:Mod (fun i=>i=q) W1 (((((W1.setCell ⟨q,0,none⟩ (.int .i64 0)).setCell ⟨q,1,none⟩ (.int .i64 0)).setCell ⟨q,2,none⟩ (.int .i64 0)).setCell ⟨q,3,none⟩ (.int .u64 0)).setCell ⟨q,4,none⟩ (.bool false)):=(((((Mod.refl (fun i=>i=q) W1).setCell (p:=⟨q,0,none⟩) (fun _=>rfl) _).setCell (p:=⟨q,1,none⟩) (fun _=>rfl) _).setCell (p:=⟨q,2,none⟩) (fun _=>rfl) _).setCell (p:=⟨q,3,none⟩) (fun _=>rfl) _).setCell (p:=⟨q,4,none⟩) (fun _=>rfl) _;generalize((((W1.setCell ⟨q,0,none⟩ (.int .i64 0)).setCell ⟨q,1,none⟩ (.int .i64 0)).setCell ⟨q,2,none⟩ (.int .i64 0)).setCell ⟨q,3,none⟩ (.int .u64 0)).setCell ⟨q,4,none⟩ (.bool false)=Y at *;obtain⟨hx_0,hx_1,hx_2,hx_3,hx_4,hx_f,hx_l,H_hx⟩:=cr5 hx;clear hx;exact zK (v := .agg #[.int .i64 0,.int .i64 0,.int .i64 0,.int .u64 0,.bool false]) (by simp[results,results47,go_sem,hx_0,hx_1,hx_2,hx_3,hx_4]) rfl ⟨rfl,HP.out.then hm (fun i hi e=>by have:=HQ.out;omega)⟩
end
section
variable{w w':World}{o:Option Addr}
theorem zh7(h:NoC w o)(t:Nat){key:ByteArray}(hk:key.size≤140737488355328){a:Option Addr}{n c:Nat}(hn:n≤140737488355328){gf:Nat}{lf:Array Value} :
  Calls prog 65 #[.pointer o,.int .u64 t,.string key,.slice a n c,.func (.func gf) #[] lf] w fun e w'=>e=.returned (.int .i64 1)∧zb w w':=by
 have hp0:zb w ((((w.alloc (.cells #[.pointer o] 30)).alloc (.cells #[.string key] 9)).alloc (.cells #[.slice a n c] 34)).alloc (.cells #[.func (.func gf) #[] lf] 59)):=((((Mod.refl _ w).alloc _).alloc _).alloc _).alloc _;have hb0:=zz (o := .cells #[.func (.func gf) #[] lf] 59) (zz (o := .cells #[.slice a n c] 34) (zz (o := .cells #[.string key] 9) (zi (w:=w) (o := .cells #[.pointer o] 30 (0,0)) rfl)));have hb1:=zz (o := .cells #[.func (.func gf) #[] lf] 59) (zz (o := .cells #[.slice a n c] 34) (zi (w:=w.alloc (.cells #[.pointer o] 30)) (o := .cells #[.string key] 9 (0,0)) (n:=w.heap.size+1) (by simp)));have hb2:=zz (o := .cells #[.func (.func gf) #[] lf] 59) (zi (w:=(w.alloc (.cells #[.pointer o] 30)).alloc (.cells #[.string key] 9)) (o := .cells #[.slice a n c] 34 (0,0)) (n:=w.heap.size+2) (by simp));have HCo:=za (fun W=>JP key a n c W hk hn);obtain⟨co,hco⟩:=zc (uh key.size n);obtain⟨ee,hee⟩:=zc (vi key.size n 1);rw[hco,hee]at HCo;have HU:=za (fun W=>Vy true 12 W);have HN:=za h;have HC:=za (fun(a:Option Addr) (n c:Nat)=>qs h a n c);clear h hco hee hk hn;go_enter func65,ntmps65;go_upto_region 1 with fail
 generalize(((w.alloc (.cells #[.pointer o] 30)).alloc (.cells #[.string key] 9)).alloc (.cells #[.slice a n c] 34)).alloc (.cells #[.func (.func gf) #[] lf] 59)=W1 at *;obtain⟨n0,hn0⟩:=zc w.heap.size;rw[hn0]at hb0 hb1 hb2 ⊢;rw[show n0+1+1=n0+2 from rfl];clear hn0;have HB0:=za hb0;have HP0:=za hp0;clear hb0 hp0;obtain⟨hb1_0,hb1_f,hb1_l,H_hb1⟩:=cr1 hb1;clear hb1;obtain⟨hb2_0,hb2_f,hb2_l,H_hb2⟩:=cr1 hb2;clear hb2;go_upto_region 2 with(go_at_call 124;refine(HCo.out _).mono ?_;rintro e w2 ⟨rfl,hp2⟩)
 clear hb1_0 hb1_f hb1_l;clear hb2_0 hb2_f hb2_l;clear H_hb1 H_hb2;have hal:zb w2 (w2.alloc (.cells #[.int .i64 co] 3)):=(Mod.refl _ w2).alloc _;have hp3:=hp2.trans hal;generalize w2.alloc (.cells #[.int .i64 co] 3)=W3 at *;generalize w2.heap.size=q4;have HP3:=za (HP0.out.trans hp3);have HS:=za (fun(Y:World) (hY:zb W3 Y)=>(zf Y n0 0 _ _ (0,0) (hY.heap (fun h=>h) (hp3.heap (fun h=>h) HB0.out)):Y.cell? ⟨n0,0,none⟩=some (.pointer o)));have hd3:zb W3 W3.drew:=(Mod.refl (fun _=>False) W3).drew;have HD3:=za hd3;clear hp2 hp3 hd3 hal;refine rHd (S:=fun Y=>Y.cell? ⟨n0,0,none⟩=some (.pointer o)) (HS.out _ HD3.out) (fun h_ => ?_);refine hLd 0 ?_;refine hTk 1 ?_;refine hLd 2 ?_
 (refine hSt 3 (fun K hK => ?_);go_simp;refine(HN.out _ (HP3.out.trans HD3.out)).mono ?_;rintro e u1 ⟨rfl,rfl⟩;refine hK.out _ _ ?_ (fun h_ => ?_);(· exact HS.out _ HD3.out);clear hK K;refine clA ?_)
 refine hTk 4 ?_;refine hSk 5 ?_;refine hSk 6 ?_;refine hSk 7 ?_;refine hSk 8 ?_;refine hSk 9 ?_;refine hSk 10 ?_;refine hSk 11 ?_;refine hTk 12 ?_
 (refine hSt 13 (fun K hK => ?_);go_simp;refine(HU.out _).mono ?_;rintro e u1 ⟨rfl,rfl⟩;refine hK.out _ _ ?_ (fun h_ => ?_);(· exact HS.out _ HD3.out);clear hK K;refine clA ?_)
 (refine hSt 14 (fun K hK => ?_);go_simp;refine hK.out _ _ ?_ (fun h_ => ?_);(· exact HS.out _ (HD3.out.trans ((Mod.refl _ _).alloc _)));clear hK K;refine clA ?_)
 (refine hSt 15 (fun K hK => ?_);go_simp;refine zm (HC.out _ _ _ _ (HP3.out.trans (HD3.out.trans ((Mod.refl _ _).alloc _)))) ?_;rintro e u2 ⟨rfl,rfl⟩;refine hK.out _ _ ?_ (fun h_ => ?_);(· exact HS.out _ (HD3.out.trans ((Mod.refl _ _).alloc _)));clear hK K;refine clA ?_)
 refine hTk 16 ?_;refine hDn ?_;clear h_;have HP5:=za (HP3.out.trans (HD3.out.trans ((Mod.refl _ _).alloc (.cells #[.int .i64 ee,.int .i64 0] 26))));go_wp2;go_ret;exact⟨rfl,HP5.out⟩
theorem zh8(h:NoC w o)(t:Nat){key:ByteArray}(hk:key.size≤140737488355328){a:Option Addr}{n c:Nat}(hn:n≤140737488355328):Calls prog 16 #[.pointer o,.int .u64 t,.string key,.slice a n c] w fun e w'=>e=.returned (.int .i64 1)∧zb w w':=by
 have HC:=za (zh7 h t hk (a:=a) (c:=c) hn (gf:=66) (lf:=#[]));clear h hk hn;exact Azmud
theorem Azm78 {P:Prop}(h:P:=by
 go_wp2_with (go_at_call 61;refine HN.out.mono ?_;rintro e w' ⟨rfl,rfl⟩)
 go_ret;exact⟨rfl,HP.out⟩):P:=h
theorem zd7(h:NoC w o)(t ttl:Nat){key:ByteArray}{a:Option Addr}{n c:Nat}:Calls prog 17 #[.pointer o,.int .u64 t,.string key,.slice a n c,.int .u64 ttl] w fun e w'=>e=.returned (.int .i64 1)∧zb w w':=by
 have hp0:zb w ((w.alloc (.cells #[.pointer o] 30)).alloc (.cells #[.int .u64 ttl] 33)):=((Mod.refl _ w).alloc _).alloc _;have hb1:=zz (o := .cells #[.int .u64 ttl] 33) (zi (w:=w) (o := .cells #[.pointer o] 30 (0,0)) rfl);have HN:=za (h _ hp0);have HP:=za hp0;clear h hp0;go_enter func17,ntmps17;go_upto_region 1 with fail
 generalize(w.alloc (.cells #[.pointer o] 30)).alloc (.cells #[.int .u64 ttl] 33)=W1 at *;generalize w.heap.size=n0 at hb1 ⊢;obtain⟨hb1_0,hb1_f,hb1_l,H_hb1⟩:=cr1 hb1;clear hb1;exact Azm78
abbrev Uu:Value := .agg #[.int .i64 0,.int .i64 0,.int .i64 0,.int .u64 0,.bool false,.int .u64 0,.int .u64 0,.slice none 0 0,.slice none 0 0,.slice none 0 0,.slice none 0 0]
theorem kZ{W:World}{q j:Nat}{cs:Array Value}{T:TypeId}{v:Value}(h:W.heap[q]? = some (.cells cs T (0,0)))(hv:cs[j]? = some v):(W.setCell ⟨q,j,none⟩ v).heap[q]? = some (.cells cs T (0,0)):=by
 have h9:=zP W q j _ _ v h;have e:cs.setIfInBounds j v=cs:=by
  apply Array.ext
  ·simp
  ·intro i h1 h2;rw[Array.getElem_setIfInBounds];split
   ·rename_i c;subst c;have:=qn h2;rw[this]at hv;injection hv with hv
    exact hv.symm
   ·rfl
 rw[e]at h9;exact h9
theorem zf6(h:NoC w o):Calls prog 49 #[.pointer o] w fun e w'=>e=.returned Uu∧zb w w':=by
 have hal:zb w (w.alloc (.cells #[.int .i64 0,.int .i64 0,.int .i64 0,.int .u64 0,.bool false,.int .u64 0,.int .u64 0,.slice none 0 0,.slice none 0 0,.slice none 0 0,.slice none 0 0] 95)):=(Mod.refl _ w).alloc _;have z:=zi (w:=w) (o := .cells #[.int .i64 0,.int .i64 0,.int .i64 0,.int .u64 0,.bool false,.int .u64 0,.int .u64 0,.slice none 0 0,.slice none 0 0,.slice none 0 0,.slice none 0 0] 95 (0,0)) rfl;have HN:=za (h _ hal);have HP:=za hal;have Z:=za z;clear h hal;go_enter func49,ntmps49;go_upto_region 1 with fail
 generalize w.alloc (.cells #[.int .i64 0,.int .i64 0,.int .i64 0,.int .u64 0,.bool false,.int .u64 0,.int .u64 0,.slice none 0 0,.slice none 0 0,.slice none 0 0,.slice none 0 0] 95)=W1 at *;obtain⟨q,hq⟩:=zc w.heap.size;rw[hq]at z Z ⊢;have HQ:=za hq;clear hq;obtain⟨z_0,z_1,z_2,z_3,z_4,z_5,z_6,z_7,z_8,z_9,z_10,z_f,z_l,H_z⟩:=yE z;clear z
 go_wp2_with (go_at_call 61;refine HN.out.mono ?_;rintro e w' ⟨rfl,rfl⟩)
 have hx:=(kZ (j:=10) (v := .slice none 0 0) (kZ (j:=9) (v := .slice none 0 0) (kZ (j:=8) (v := .slice none 0 0) (kZ (j:=7) (v := .slice none 0 0) (kZ (j:=6) (v := .int .u64 0) (kZ (j:=5) (v := .int .u64 0) (kZ (j:=4) (v := .bool false) (kZ (j:=3) (v := .int .u64 0) (kZ (j:=2) (v := .int .i64 0) (kZ (j:=1) (v := .int .i64 0) (kZ (j:=0) (v := .int .i64 0) Z.out rfl) rfl) rfl) rfl) rfl) rfl) rfl) rfl) rfl) rfl) rfl);have hm:Mod (fun i=>i=q) W1 (((((((((((W1.setCell ⟨q,0,none⟩ (.int .i64 0)).setCell ⟨q,1,none⟩ (.int .i64 0)).setCell ⟨q,2,none⟩ (.int .i64 0)).setCell ⟨q,3,none⟩ (.int .u64 0)).setCell ⟨q,4,none⟩ (.bool false)).setCell ⟨q,5,none⟩ (.int .u64 0)).setCell ⟨q,6,none⟩ (.int .u64 0)).setCell ⟨q,7,none⟩ (.slice none 0 0)).setCell ⟨q,8,none⟩ (.slice none 0 0)).setCell ⟨q,9,none⟩ (.slice none 0 0)).setCell ⟨q,10,none⟩ (.slice none 0 0)):=((((((((((((Mod.refl (fun i=>i=q) W1).setCell (p:=⟨q,0,none⟩) (fun _=>rfl) (.int .i64 0)).setCell (p:=⟨q,1,none⟩) (fun _=>rfl) (.int .i64 0)).setCell (p:=⟨q,2,none⟩) (fun _=>rfl) (.int .i64 0)).setCell (p:=⟨q,3,none⟩) (fun _=>rfl) (.int .u64 0)).setCell (p:=⟨q,4,none⟩) (fun _=>rfl) (.bool false)).setCell (p:=⟨q,5,none⟩) (fun _=>rfl) (.int .u64 0)).setCell (p:=⟨q,6,none⟩) (fun _=>rfl) (.int .u64 0)).setCell (p:=⟨q,7,none⟩) (fun _=>rfl) (.slice none 0 0)).setCell (p:=⟨q,8,none⟩) (fun _=>rfl) (.slice none 0 0)).setCell (p:=⟨q,9,none⟩) (fun _=>rfl) (.slice none 0 0)).setCell (p:=⟨q,10,none⟩) (fun _=>rfl) (.slice none 0 0));generalize(((((((((((W1.setCell ⟨q,0,none⟩ (.int .i64 0)).setCell ⟨q,1,none⟩ (.int .i64 0)).setCell ⟨q,2,none⟩ (.int .i64 0)).setCell ⟨q,3,none⟩ (.int .u64 0)).setCell ⟨q,4,none⟩ (.bool false)).setCell ⟨q,5,none⟩ (.int .u64 0)).setCell ⟨q,6,none⟩ (.int .u64 0)).setCell ⟨q,7,none⟩ (.slice none 0 0)).setCell ⟨q,8,none⟩ (.slice none 0 0)).setCell ⟨q,9,none⟩ (.slice none 0 0)).setCell ⟨q,10,none⟩ (.slice none 0 0))=Y at *;obtain⟨hx_0,hx_1,hx_2,hx_3,hx_4,hx_5,hx_6,hx_7,hx_8,hx_9,hx_10,hx_f,hx_l,H_hx⟩:=yE hx;clear hx;exact zK (v:=Uu) (by simp[results,results49,go_sem,hx_0,hx_1,hx_2,hx_3,hx_4,hx_5,hx_6,hx_7,hx_8,hx_9,hx_10]) rfl ⟨rfl,HP.out.then hm (fun i hi e=>by have:=HQ.out;omega)⟩
theorem Azwte {P:Prop}(h:P:=by
 go_upto_region 4 with fail
 go_loopw [5] (fun v5 wr=>v5=.int .i64 0∧zb w wr) (fun _ _=>0)
 case atStart=>exact⟨rfl,Mod.refl _ _⟩
 case round =>
  obtain⟨rfl,hp⟩:=hrel;have HP:=za hp;clear hp;go_wp2;go_ret;exact⟨rfl,HP.out⟩):P:=h
theorem zfa(w:World):Calls prog 25 #[.slice none 0 0,.slice none 0 0] w fun e w'=>e=.returned (.bool true)∧zb w w':=by
 go_enter func25,ntmps25;exact Azwte
theorem zgZ(w:World):Calls prog 109 #[.slice none 0 0,.slice none 0 0] w fun e w'=>e=.returned (.bool true)∧zb w w':=by
 go_enter func109,ntmps109;exact Azwte
theorem zmn(w:World):Calls prog 48 #[Uu,Uu] w fun e w'=>e=.returned (.bool true)∧zb w w':=by
  have HE:=za zfa;have HN:=za (fun W:World=>zaa (w:=W) (a1:=none) (a2:=none) (n:=0) (c1:=0) (c2:=0) (L:=[]) rfl (by decide) ⟨none,0,0,rfl,rfl,(fun u hu=>by cases hu),fun _=>rfl,fun a h=>by cases h⟩ ⟨none,0,0,rfl,rfl,(fun u hu=>by cases hu),fun _=>rfl,fun a h=>by cases h⟩);have HA:=za zgZ;have hp0:zb w ((w.alloc (.cells #[.int .i64 0,.int .i64 0,.int .i64 0,.int .u64 0,.bool false,.int .u64 0,.int .u64 0,.slice none 0 0,.slice none 0 0,.slice none 0 0,.slice none 0 0] 95)).alloc (.cells #[.int .i64 0,.int .i64 0,.int .i64 0,.int .u64 0,.bool false,.int .u64 0,.int .u64 0,.slice none 0 0,.slice none 0 0,.slice none 0 0,.slice none 0 0] 95)):=((Mod.refl _ w).alloc _).alloc _;have h1:=zz (o := .cells #[.int .i64 0,.int .i64 0,.int .i64 0,.int .u64 0,.bool false,.int .u64 0,.int .u64 0,.slice none 0 0,.slice none 0 0,.slice none 0 0,.slice none 0 0] 95) (zi (w:=w) (o := .cells #[.int .i64 0,.int .i64 0,.int .i64 0,.int .u64 0,.bool false,.int .u64 0,.int .u64 0,.slice none 0 0,.slice none 0 0,.slice none 0 0,.slice none 0 0] 95 (0,0)) rfl);have h2:=zi (w:=w.alloc (.cells #[.int .i64 0,.int .i64 0,.int .i64 0,.int .u64 0,.bool false,.int .u64 0,.int .u64 0,.slice none 0 0,.slice none 0 0,.slice none 0 0,.slice none 0 0] 95)) (o := .cells #[.int .i64 0,.int .i64 0,.int .i64 0,.int .u64 0,.bool false,.int .u64 0,.int .u64 0,.slice none 0 0,.slice none 0 0,.slice none 0 0,.slice none 0 0] 95 (0,0)) (n:=w.heap.size+1) (by simp);have HP:=za hp0;clear hp0;go_enter func48,ntmps48;go_upto_region 1 with fail
  generalize(w.alloc (.cells #[.int .i64 0,.int .i64 0,.int .i64 0,.int .u64 0,.bool false,.int .u64 0,.int .u64 0,.slice none 0 0,.slice none 0 0,.slice none 0 0,.slice none 0 0] 95)).alloc (.cells #[.int .i64 0,.int .i64 0,.int .i64 0,.int .u64 0,.bool false,.int .u64 0,.int .u64 0,.slice none 0 0,.slice none 0 0,.slice none 0 0,.slice none 0 0] 95)=W1 at *;generalize w.heap.size=q at h1 h2 ⊢;have Z:Hid (∀ W,zb W1 W→W.cell? ⟨q,7,none⟩=some (.slice none 0 0)∧W.cell? ⟨q,8,none⟩=some (.slice none 0 0)∧W.cell? ⟨q,9,none⟩=some (.slice none 0 0)∧W.cell? ⟨q,10,none⟩=some (.slice none 0 0)∧W.cell? ⟨q+1,7,none⟩=some (.slice none 0 0)∧W.cell? ⟨q+1,8,none⟩=some (.slice none 0 0)∧W.cell? ⟨q+1,9,none⟩=some (.slice none 0 0)∧W.cell? ⟨q+1,10,none⟩=some (.slice none 0 0)):=za (fun W hW=>⟨zf W q 7 _ _ _ (hW.heap (fun h=>h) h1),zf W q 8 _ _ _ (hW.heap (fun h=>h) h1),zf W q 9 _ _ _ (hW.heap (fun h=>h) h1),zf W q 10 _ _ _ (hW.heap (fun h=>h) h1),zf W (q+1) 7 _ _ _ (hW.heap (fun h=>h) h2),zf W (q+1) 8 _ _ _ (hW.heap (fun h=>h) h2),zf W (q+1) 9 _ _ _ (hW.heap (fun h=>h) h2),zf W (q+1) 10 _ _ _ (hW.heap (fun h=>h) h2)⟩);obtain⟨h1_0,h1_1,h1_2,h1_3,h1_4,h1_5,h1_6,h1_7,h1_8,h1_9,h1_10,h1_f,h1_l,H_h1⟩:=yE h1;clear h1;obtain⟨h2_0,h2_1,h2_2,h2_3,h2_4,h2_5,h2_6,h2_7,h2_8,h2_9,h2_10,h2_f,h2_l,H_h2⟩:=yE h2;clear h2;have T1:True:=trivial
  go_wp2_with (first
    | (go_at_call 25;refine(HE.out _).mono ?_;rintro e w2 ⟨rfl,p2⟩;obtain⟨y1,y2,y3,y4,y5,y6,y7,y8⟩:=Z.out _ p2)
    | (go_at_call 34;clear T1;refine(HN.out _).mono ?_;rintro e w3 ⟨rfl,p3⟩;obtain⟨x1,x2,x3,x4,x5,x6,x7,x8⟩:=Z.out _ (p2.trans p3))
    | (go_at_call 34;refine(HN.out _).mono ?_;rintro e w4 ⟨rfl,p4⟩;obtain⟨u1,u2,u3,u4,u5,u6,u7,u8⟩:=Z.out _ ((p2.trans p3).trans p4))
    | (go_at_call 109;refine(HA.out _).mono ?_;rintro e w5 ⟨rfl,p5⟩))
  go_ret;exact⟨rfl,HP.out.trans (((p2.trans p3).trans p4).trans p5)⟩
end
def NoF:Nat→Prop:=fun _=>False
structure KnC(w0 w:World)(D:Nat→Prop)(p:Nat)(t:Bst):Prop where
 at_:zO NoF w D p t
 pu:zb w0 w
 ge : ∀ k,D k→w0.heap.size≤k
section
variable{w0 w w':World}{D:Nat→Prop}{p:Nat}{t t':Bst}
theorem KnC.pure(h:KnC w0 w D p t)(hp:zb w w'):KnC w0 w' D p t:=⟨h.at_.pure hp,h.pu.trans hp,h.ge⟩
theorem KnC.go(h:KnC w0 w D p t)(hg:uq NoF w D p t' w') : ∃ D',KnC w0 w' D' p t':=by
 obtain⟨D2,g1,g2,g3⟩:=hg;exact⟨D2,g1,h.pu.then g2 (fun i hi e=>by have:=h.ge i e;omega),fun k hk=>(g3 k hk).elim (h.ge k) (fun e=>zH h.pu.size e)⟩
def KnP(w0:World)(p:Nat)(t:Bst)(w':World):Prop := ∃ D',KnC w0 w' D' p t
theorem KnP.pure{W:World}(h:KnP w0 p t w)(hp:zb w W):KnP w0 p t W:=by
 obtain⟨D,h⟩:=h;exact⟨D,h.pure hp⟩
theorem zjb{cfg:Cfg}(hc:cfg.ok)(hs:cfg.seed<18446744073709551616)(w:World)(hT:xy w):Calls prog 13 #[cfg.v] w fun e w' => ∃ p,e=.returned (.tuple #[lkP p,.int .i64 0])∧KnP w p (zc4 cfg) w':=by
 refine(ziI (Fo:=NoF) hc hs w hT (fun k hk=>hk.elim)).mono ?_;rintro e w' ⟨p,D,rfl,h1,h2,h3⟩;exact⟨p,rfl,D,h1,h2,h3⟩
theorem JS{v:Int}(x:UInt8)(hv:v=(x.toNat:Nat))(W:World):zn (W.alloc (.cells #[.int .u8 v] 5 (1,2))) (.slice (some ⟨W.heap.size,0,none⟩) 1 1) 1 (zJ [x]):=by
 subst hv;exact zn.of_block 1 1 1 (zi rfl) (by rfl) (by simp[Value.oneCell'])
theorem KnC.off(h:KnC w0 w D p t){n:Nat} : ∀ g,um (.slice (some ⟨w.heap.size,0,none⟩) n n)=some g → ¬ D g:=fun g hg hd=>by
 have:=h.at_.lt hd;unfold um at hg;dsimp only at hg;split at hg
 ·cases hg
 ·cases hg;omega
theorem Kj(h:KnP w0 p t w){tt:Nat}{key:ByteArray}(x:UInt8){v:Int}(hv:v=(x.toNat:Nat))(ht:tt≤18446744073709551615)(he:jW t key.size 1=0)(hb:t.births<16)(ht':jQ t tt key [x] (fun _=>18446744073709551615)=t') :
  Calls prog 16 #[lkP p,.int .u64 tt,.string key,.slice (some ⟨w.heap.size,0,none⟩) 1 1] (w.alloc (.cells #[.int .u8 v] 5 (1,2))) fun e w'=>e=.returned (.int .i64 0)∧KnP w0 p t' w':=by
 obtain⟨D,h⟩:=h;have hp:=h.pure ((Mod.refl _ w).alloc (.cells #[.int .u8 v] 5 (1,2)));refine(hp.at_.Set ht he hb (JS x hv w) (h.off)).mono ?_;rintro e w' ⟨rfl,hg⟩;rw[ht']at hg;exact⟨rfl,hp.go hg⟩
theorem zbm(h:KnP w0 p t w){tt:Nat}{key:ByteArray}{a:Option Addr}{n c:Nat}(hk:key.size≤140737488355328)(hn:n≤140737488355328){er:Int}(he:jW t key.size n=er)(h0:er≠0) :
  Calls prog 16 #[lkP p,.int .u64 tt,.string key,.slice a n c] w fun e w'=>e=.returned (.int .i64 er)∧KnP w0 p t w':=by
 obtain⟨D,h⟩:=h;refine(h.at_.SetErr tt hk hn he h0).mono ?_;rintro e w' ⟨rfl,hp⟩;exact⟨rfl,D,h.pure hp⟩
theorem zeq(h:KnP w0 p t w){tt ttl:Nat}{key:ByteArray}(x:UInt8){v:Int}(hv:v=(x.toNat:Nat))(ht:tt≤18446744073709551615)(hl:ttl≤18446744073709551615)(hl0:0<ttl)(hn:t.now≤18446744073709551615)(he:jW t key.size 1=0)(hb:t.births<16)(ht':jQ t tt key [x] (fun q=>yZ q ttl)=t') :
  Calls prog 17 #[lkP p,.int .u64 tt,.string key,.slice (some ⟨w.heap.size,0,none⟩) 1 1,.int .u64 ttl] (w.alloc (.cells #[.int .u8 v] 5 (1,2))) fun e w'=>e=.returned (.int .i64 0)∧KnP w0 p t' w':=by
 obtain⟨D,h⟩:=h;have hp:=h.pure ((Mod.refl _ w).alloc (.cells #[.int .u8 v] 5 (1,2)));refine(hp.at_.SetTTL ht hl hl0 he hb (JS x hv w) (h.off) hn).mono ?_;rintro e w' ⟨rfl,hg⟩;rw[ht']at hg;exact⟨rfl,hp.go hg⟩
theorem zO.ttl0{Fo:Nat→Prop}(h:zO Fo w D p t)(tt:Nat)(key:ByteArray)(a:Option Addr)(n c:Nat):Calls prog 17 #[lkP p,.int .u64 tt,.string key,.slice a n c,.int .u64 0] w fun e w'=>e=.returned (.int .i64 2)∧zb w w':=by
 have hp0:zb w ((w.alloc (.cells #[lkP p] 30)).alloc (.cells #[.int .u64 0] 33)):=((Mod.refl _ w).alloc _).alloc _;have hb1:=zz (o := .cells #[.int .u64 0] 33) (zi (w:=w) (o := .cells #[lkP p] 30 (0,0)) rfl);have hb2:=zi (w:=w.alloc (.cells #[lkP p] 30)) (o := .cells #[.int .u64 0] 33 (0,0)) (n:=w.heap.size+1) (by simp);have HN:=za (h.pure hp0).none_;have HP:=za hp0;clear h hp0;go_enter func17,ntmps17;go_upto_region 1 with fail
 generalize(w.alloc (.cells #[lkP p] 30)).alloc (.cells #[.int .u64 0] 33)=W1 at *;generalize w.heap.size=n0 at hb1 hb2 ⊢;obtain⟨hb1_0,hb1_f,hb1_l,H_hb1⟩:=cr1 hb1;clear hb1;obtain⟨hb2_0,hb2_f,hb2_l,H_hb2⟩:=cr1 hb2;clear hb2;exact Azm78
theorem zf0(h:KnP w0 p t w){tt:Nat}{key:ByteArray}{a:Option Addr}{n c:Nat}:Calls prog 17 #[lkP p,.int .u64 tt,.string key,.slice a n c,.int .u64 0] w fun e w'=>e=.returned (.int .i64 2)∧KnP w0 p t w':=by
 obtain⟨D,h⟩:=h;refine(h.at_.ttl0 tt key a n c).mono ?_;rintro e w' ⟨rfl,hp⟩;exact⟨rfl,D,h.pure hp⟩
theorem zbw(h:KnP w0 p t w){tt:Nat}{key:ByteArray}{o:Option CE}{vs:List UInt8}{is:Bool}(hk:key.size≤140737488355328)(ht:tt≤18446744073709551615)(he:qM key t=0)(hr:Xh t tt key=(o,t'))(h1:zaX o=vs)(h2:o.isSome=is) :
  Calls prog 41 #[lkP p,.int .u64 tt,.string key,.string (yp vs),.bool is,.int .i64 0] w fun e w'=>e=.returned (.bool true)∧KnP w0 p t' w':=by
 obtain⟨D,h⟩:=h;refine zcM ((h.at_.get ht hk he).mono ?_);rintro e w' ⟨a,n,c,rfl,hrd,hg⟩;rw[hr]at hrd hg ⊢;dsimp only at hrd hg ⊢;rw[h1]at hrd;exact⟨a,n,c,by rw[h2],hrd,h.go hg⟩
theorem zjC(h:KnP w0 p t w){tt ttl:Nat}{key:ByteArray}{is:Bool}(hk:key.size≤140737488355328)(ht:tt≤18446744073709551615)(hl:ttl≤18446744073709551615)(h0:0<ttl)(he:VG key ttl t=0)(hr:XW t tt key ttl=(is,t')) :
  Calls prog 42 #[lkP p,.int .u64 tt,.string key,.int .u64 ttl,.bool is,.int .i64 0] w fun e w'=>e=.returned (.bool true)∧KnP w0 p t' w':=by
 obtain⟨D,h⟩:=h;refine zbC ((h.at_.touch ht hl hk he h0).mono ?_);rintro e w' ⟨rfl,hg⟩;rw[hr]at hg ⊢;exact⟨rfl,h.go hg⟩
theorem zbu(h:KnP w0 p t w){tt:Nat}{key:ByteArray}{is:Bool}(hk:key.size≤140737488355328)(ht:tt≤18446744073709551615)(he:qM key t=0)(hr:YN t tt key=(is,t')) :
  Calls prog 32 #[lkP p,.int .u64 tt,.string key,.bool is,.int .i64 0] w fun e w'=>e=.returned (.bool true)∧KnP w0 p t' w':=by
 obtain⟨D,h⟩:=h;refine zc0 ((h.at_.del ht hk he).mono ?_);rintro e w' ⟨rfl,hg⟩;rw[hr]at hg ⊢;exact⟨rfl,h.go hg⟩
theorem ziV(h:KnP w0 p t w){tt n:Nat}(ht:tt≤18446744073709551615)(he:xf t=0)(hr:Ur t tt=(n,t')) :
  Calls prog 37 #[lkP p,.int .u64 tt,.int .i64 (n:Nat),.int .i64 0] w fun e w'=>e=.returned (.bool true)∧KnP w0 p t' w':=by
 obtain⟨D,h⟩:=h;refine zci ((h.at_.clear ht he).mono ?_);rintro e w' ⟨rfl,hg⟩;rw[hr]at hg ⊢;exact⟨rfl,h.go hg⟩
theorem zdj(h:KnP w0 p t w){tt:Nat}(ht:tt≤18446744073709551615)(he:xf t=0)(hr:uj t tt=t'):Calls prog 23 #[lkP p,.int .u64 tt] w fun e w'=>e=.returned (.int .i64 0)∧KnP w0 p t' w':=by
 obtain⟨D,h⟩:=h;refine(h.at_.adv ht he).mono ?_;rintro e w' ⟨rfl,hg⟩;rw[hr]at hg;exact⟨rfl,h.go hg⟩
theorem zi7(h:KnP w0 p t w){n:Nat}(hn:t.E.length=n):Calls prog 33 #[lkP p] w fun e w'=>e=.returned (.int .i64 (n:Nat))∧w=w':=by
 obtain⟨D,h⟩:=h;rw[← hn];exact h.at_.len
theorem zcb(h:KnP w0 p t w){n:Nat}(hn:t.now=n):Calls prog 29 #[lkP p] w fun e w'=>e=.returned (.int .u64 (n:Nat))∧w=w':=by
 obtain⟨D,h⟩:=h;rw[← hn];exact h.at_.now_
theorem zmc(h:KnP w0 p t w){n:Nat}(hn:t.births=n):Calls prog 15 #[lkP p] w fun e w'=>e=.returned (.int .u64 (n:Nat))∧w=w':=by
 obtain⟨D,h⟩:=h;rw[← hn];exact h.at_.births
theorem zdT(h:KnP w0 p t w){tt:Nat}{n m:Int}{er:Int}(he:(t.cfg.re n m).err=er)(h0:er≠0):Calls prog 22 #[lkP p,.int .u64 tt,.int .i64 n,.int .i64 m] w fun e w'=>e=.returned (.int .i64 er)∧KnP w0 p t w':=by
 obtain⟨D,h⟩:=h;have h':=h.at_;obtain⟨b,s,h1,h2,rfl,rfl,rfl,h3,h4,h5⟩:=h';refine(zl3 h1 h2.cfg tt h4 he h0).mono ?_;rintro e w' ⟨rfl,hp⟩;exact⟨rfl,b.D,h.pure hp⟩
theorem zO.order{Fo:Nat→Prop}(h:zO Fo w D p t){g:Nat}(hg:g=0∨g=1):Calls prog 35 #[lkP p,.int .i64 g] w (QD w ((if g=0 then t.A else t.B).map Wt.slot)):=by
 obtain⟨b,s,h1,h2,rfl,rfl,rfl,_⟩:=h;have hl:=h2.sg.len;rw[zR]at hl;rcases hg with rfl | rfl
 ·have h9:=zds h1 h2 (L:=s.A) (fun y hy=>by obtain⟨x,hx,_⟩:=(h2.ab y).1 (xQ _ hy);exact⟨x,hx⟩) (by omega) h1.order.list0;have e:((if (0:Nat)=0 then(zD s).A else(zD s).B).map Wt.slot)=s.A.map (fun y=>yj s.L y.slot):=by
   rw[zk rfl]
   show(s.A.map (y9 s.L)).map Wt.slot=_
   rw[jh]
   rfl
  rw[e];exact h9
 ·have h9:=zds h1 h2 (L:=s.B) (fun y hy=>by obtain⟨x,hx,_⟩:=(h2.ab y).1 (xC _ hy);exact⟨x,hx⟩) (by omega) h1.order.list1;have e:((if (1:Nat)=0 then(zD s).A else(zD s).B).map Wt.slot)=s.B.map (fun y=>yj s.L y.slot):=by
   rw[zh (by decide)]
   show(s.B.map (y9 s.L)).map Wt.slot=_
   rw[jh]
   rfl
  rw[e];exact h9
theorem zc1(h:KnP w0 p t w){g:Nat}(hg:g=0∨g=1){bl:List Nat}{n:Nat}(hb:(if g=0 then t.A else t.B).map Wt.slot=bl)(hn:bl.length=n):Calls prog 35 #[lkP p,.int .i64 (g:Nat)] w fun e w' => ∃ a c,e=.returned (.slice a n c)∧zn w' (.slice a n c) 1 (uM bl)∧KnP w0 p t w':=by
 obtain⟨D,h⟩:=h;refine(h.at_.order hg).mono ?_;rintro e w' ⟨a,c,rfl,hr,hf,hp⟩;rw[hb,hn]at hr;rw[hb,hn];exact⟨a,c,rfl,zn.of_owns hr (zhT _),D,h.pure hp⟩
theorem zg3{v:Int}{n:Nat}(hv:v=(n:Nat))(W:World):zn (W.alloc (.cells #[.int .u64 v] 22)) (.slice (some ⟨W.heap.size,0,none⟩) 1 1) 1 (uM [n]):=by
 subst hv;exact zn.of_block 1 1 1 (zi rfl) (by rfl) (by simp[Value.oneCell'])
theorem zaP{a:Option Addr}{c:Nat}{n:Nat}{v:Int}(h:KnP w0 p t w)(hr:zn w (.slice a 1 c) 1 (uM [n]))(hv:v=(n:Nat)):Calls prog 34 #[.slice a 1 c,.slice (some ⟨w.heap.size,0,none⟩) 1 1] (w.alloc (.cells #[.int .u64 v] 22)) fun e w'=>e=.returned (.bool true)∧KnP w0 p t w':=by
 obtain⟨D,h⟩:=h;have hal:zb w (w.alloc (.cells #[.int .u64 v] 22)):=(Mod.refl _ w).alloc _;refine(zaa (n:=1) (L:=[n]) rfl (by decide) (hr.frame hal (fun _ _ h=>h)) (zg3 hv w)).mono ?_;rintro e w' ⟨rfl,hp⟩;exact⟨rfl,D,h.pure (hal.trans hp)⟩
theorem VC(h:KnP w0 p t w){x:Ev}{T:ByteArray}{A5 A6:List UInt8}(hx:x.Ok)(hT:Zp x A5 A6=T)(h5 : ∀ W,Calls prog 221 #[.string x.e.key] W fun e w'=>e=.returned (.string (yp A5))∧zb W w')(h6 : ∀ W,Calls prog 221 #[.string (yp x.e.val)] W fun e w'=>e=.returned (.string (yp A6))∧zb W w')(l5:A5.length≤1000)(l6:A6.length≤1000)(he:t.evs=[x])(ht':Yu t=t') :
  Calls prog 58 #[lkP p,.string T] w fun e w'=>e=.returned (.bool true)∧KnP w0 p t' w':=by
 obtain⟨D,h⟩:=h;refine zlo (P:=KnP w0 p t') (fun W W' g hp=>g.pure hp) hx hT h5 h6 l5 l6 (h.at_.drain.mono ?_);rintro e w' ⟨a,c,es,rfl,k1,k2,k3,hg⟩;rw[he]at k1;rw[ht']at hg;exact⟨a,c,es,by rw[he];rfl,k1,k2,h.go hg⟩
theorem zgv(h:KnP w0 p t w){tt:Nat}{key:ByteArray}{x:CE}(b:UInt8){v:Int}(hv:v=(b.toNat:Nat))(hxv:x.val=[b])(hk:key.size≤140737488355328)(ht:tt≤18446744073709551615)(he:qM key t=0)(hl:uG (yX t tt) key=some x)(ht':uj t tt=t') :
  Calls prog 36 #[lkP p,.int .u64 tt,.string key,ceV x (.slice (some ⟨w.heap.size,0,none⟩) 1 1),.bool true,.int .i64 0] (w.alloc (.cells #[.int .u8 v] 5 (1,2))) fun e w'=>e=.returned (.bool true)∧KnP w0 p t' w':=by
 obtain⟨D,h⟩:=h;have hp:=h.pure ((Mod.refl _ w).alloc (.cells #[.int .u8 v] 5 (1,2)));have hr:=JS b hv w;rw[← hxv]at hr;refine zcs (P:=KnP w0 p t') (fun W W' g hp=>g.pure hp) (fun W hW=>((hp.pure hW).at_.peekHit ht hk he hl).mono ?_);rintro e w' ⟨a,n,c,rfl,hby,hfr,hg⟩;rw[ht']at hg;have hg':=hg;obtain⟨D2,g1,g2,g3⟩:=hg';exact⟨a,n,c,rfl,yv.read hby (kO _),(hr.frame hW (fun _ _ h=>h)).frame g2 (h.off),g2.size,fun k k1 k2=>g2.block k k2 (fun e=>by have:=h.at_.lt e;simp at k1;omega),(hp.pure hW).go hg⟩
theorem zih(h:KnP w0 p t w){tt above:Nat}(ht:tt≤18446744073709551615)(ha:above≤18446744073709551615)(he:xf t=0)(ht':uj t tt=t')(hl:Uo t' above=none) :
  Calls prog 44 #[lkP p,.int .u64 tt,.int .u64 above,jE,.bool false,.int .i64 0] w fun e w'=>e=.returned (.bool true)∧KnP w0 p t' w':=by
 obtain⟨D,h⟩:=h;subst ht';refine zaC (x:=⟨⟨#[]⟩,[],0,0⟩) (P:=KnP w0 p (uj t tt)) (fun W W' g hp=>g.pure hp) (fun W hW=>((h.pure hW).at_.afterNo ht he ha hl).mono ?_);rintro e w' ⟨rfl,hg⟩;have hg':=hg;obtain⟨D2,g1,g2,g3⟩:=hg';exact⟨none,0,0,rfl,KT _,KT _,g2.size,fun k k1 k2=>g2.block k k2 (fun e=>by have:=h.at_.lt e;omega),(h.pure hW).go hg⟩
end
def ks0:Bst:=⟨⟨2,1000,50,0,false⟩,0,0,[],[],[],[]⟩
def ks1:Bst:=⟨⟨2,1000,50,0,false⟩,5,1,[⟨⟨#[97]⟩,[120],15,1⟩],[⟨1,50⟩],[],[]⟩
def ks2:Bst:=⟨⟨2,1000,50,0,false⟩,5,2,[⟨⟨#[97]⟩,[120],15,1⟩,⟨⟨#[98]⟩,[121],18446744073709551615,2⟩],[⟨1,50⟩,⟨2,50⟩],[],[]⟩
def ks3:Bst:=⟨⟨2,1000,50,0,false⟩,6,2,[⟨⟨#[97]⟩,[120],15,1⟩,⟨⟨#[98]⟩,[121],18446744073709551615,2⟩],[⟨2,50⟩],[⟨1,50⟩],[]⟩
def ks4:Bst:=⟨⟨2,1000,50,0,false⟩,7,3,[⟨⟨#[97]⟩,[120],15,1⟩,⟨⟨#[99]⟩,[122],18446744073709551615,3⟩],[⟨3,50⟩],[⟨1,50⟩],[⟨2,⟨⟨#[98]⟩,[121],18446744073709551615,2⟩,7⟩]⟩
def ks5:Bst:=⟨⟨2,1000,50,0,false⟩,7,3,[⟨⟨#[97]⟩,[120],15,1⟩,⟨⟨#[99]⟩,[122],18446744073709551615,3⟩],[⟨3,50⟩],[⟨1,50⟩],[]⟩
def ks8:Bst:=⟨⟨2,1000,50,0,false⟩,8,3,[⟨⟨#[97]⟩,[119],18446744073709551615,1⟩,⟨⟨#[99]⟩,[122],18446744073709551615,3⟩],[⟨3,50⟩],[⟨1,50⟩],[⟨3,⟨⟨#[97]⟩,[120],15,1⟩,8⟩]⟩
def ks9:Bst:=⟨⟨2,1000,50,0,false⟩,9,3,[⟨⟨#[97]⟩,[119],18446744073709551615,1⟩,⟨⟨#[99]⟩,[122],15,3⟩],[],[⟨1,50⟩,⟨3,50⟩],[⟨3,⟨⟨#[97]⟩,[120],15,1⟩,8⟩]⟩
def Jd:Bst:=⟨⟨2,1000,50,0,false⟩,9,3,[⟨⟨#[97]⟩,[119],18446744073709551615,1⟩,⟨⟨#[99]⟩,[122],15,3⟩],[],[⟨1,50⟩,⟨3,50⟩],[]⟩
def JT:Bst:=⟨⟨2,1000,50,0,false⟩,14,3,[⟨⟨#[97]⟩,[119],18446744073709551615,1⟩,⟨⟨#[99]⟩,[122],15,3⟩],[],[⟨1,50⟩,⟨3,50⟩],[]⟩
def Qe:Bst:=⟨⟨2,1000,50,0,false⟩,15,3,[⟨⟨#[97]⟩,[119],18446744073709551615,1⟩],[],[⟨1,50⟩],[⟨1,⟨⟨#[99]⟩,[122],15,3⟩,15⟩]⟩
def Kp:Bst:=⟨⟨2,1000,50,0,false⟩,15,3,[⟨⟨#[97]⟩,[119],18446744073709551615,1⟩],[],[⟨1,50⟩],[]⟩
def Yz:Bst:=⟨⟨2,1000,50,0,false⟩,15,3,[],[],[],[⟨4,⟨⟨#[97]⟩,[119],18446744073709551615,1⟩,15⟩]⟩
def UX:Bst:=⟨⟨2,1000,50,0,false⟩,20,3,[],[],[],[⟨4,⟨⟨#[97]⟩,[119],18446744073709551615,1⟩,15⟩]⟩
def K6:Bst:=⟨⟨2,1000,50,0,false⟩,20,3,[],[],[],[]⟩
def Ja:Bst:=⟨⟨2,1000,50,0,false⟩,21,3,[],[],[],[]⟩
theorem kf1:jQ ks0 5 ⟨#[97]⟩ [120] (fun q=>yZ q 10)=ks1:=by kernel_rfl
theorem kf2:jQ ks1 5 ⟨#[98]⟩ [121] (fun _=>18446744073709551615)=ks2:=by kernel_rfl
theorem kf3:Xh ks2 6 ⟨#[97]⟩=(some ⟨⟨#[97]⟩,[120],15,1⟩,ks3):=by kernel_rfl
theorem kf4:jQ ks3 7 ⟨#[99]⟩ [122] (fun _=>18446744073709551615)=ks4:=by kernel_rfl
theorem kf5:Yu ks4=ks5:=by kernel_rfl
theorem kf6:Xh ks5 7 ⟨#[98]⟩=(none,ks5):=by kernel_rfl
theorem kf7:uG (yX ks5 3) ⟨#[97]⟩=some ⟨⟨#[97]⟩,[120],15,1⟩∧uj ks5 3=ks5:=⟨by kernel_rfl,by kernel_rfl⟩
theorem kf8:jQ ks5 8 ⟨#[97]⟩ [119] (fun _=>18446744073709551615)=ks8:=by kernel_rfl
theorem kf9:XW ks8 9 ⟨#[99]⟩ 6=(true,ks9):=by kernel_rfl
theorem zgw:Yu ks9=Jd:=by kernel_rfl
theorem zku:uj Jd 14=JT:=by kernel_rfl
theorem zms:uj JT 15=Qe:=by kernel_rfl
theorem zhz:Yu Qe=Kp:=by kernel_rfl
theorem zfD:YN Kp 15 ⟨#[97]⟩=(true,Yz):=by kernel_rfl
theorem zjx:YN Yz 15 ⟨#[97]⟩=(false,Yz):=by kernel_rfl
theorem zge:Ur Yz 20=(0,UX):=by kernel_rfl
theorem zh1:Yu UX=K6:=by kernel_rfl
theorem zaq:uj K6 21=Ja∧Uo Ja 0=none:=⟨by kernel_rfl,by kernel_rfl⟩
theorem kt1:Zp ⟨2,⟨⟨#[98]⟩,[121],18446744073709551615,2⟩,7⟩ (xP [98]) (xP [121])=⟨#[55,32,101,118,105,99,116,101,100,32,50,32,110,101,118,101,114,32,54,50,32,55,57]⟩:=by kernel_rfl
theorem ko1:Ev.Ok ⟨2,⟨⟨#[98]⟩,[121],18446744073709551615,2⟩,7⟩:=⟨by decide,⟨by decide,by decide,by decide,by decide,by decide,by decide⟩,by decide,by decide⟩
theorem kt2:Zp ⟨3,⟨⟨#[97]⟩,[120],15,1⟩,8⟩ (xP [97]) (xP [120])=⟨#[56,32,114,101,112,108,97,99,101,100,32,49,32,49,53,32,54,49,32,55,56]⟩:=by kernel_rfl
theorem ko2:Ev.Ok ⟨3,⟨⟨#[97]⟩,[120],15,1⟩,8⟩:=⟨by decide,⟨by decide,by decide,by decide,by decide,by decide,by decide⟩,by decide,by decide⟩
theorem kt3:Zp ⟨1,⟨⟨#[99]⟩,[122],15,3⟩,15⟩ (xP [99]) (xP [122])=⟨#[49,53,32,101,120,112,105,114,101,100,32,51,32,49,53,32,54,51,32,55,97]⟩:=by kernel_rfl
theorem ko3:Ev.Ok ⟨1,⟨⟨#[99]⟩,[122],15,3⟩,15⟩:=⟨by decide,⟨by decide,by decide,by decide,by decide,by decide,by decide⟩,by decide,by decide⟩
theorem kt4:Zp ⟨4,⟨⟨#[97]⟩,[119],18446744073709551615,1⟩,15⟩ (xP [97]) (xP [119])=⟨#[49,53,32,100,101,108,101,116,101,100,32,49,32,110,101,118,101,114,32,54,49,32,55,55]⟩:=by kernel_rfl
theorem ko4:Ev.Ok ⟨4,⟨⟨#[97]⟩,[119],18446744073709551615,1⟩,15⟩:=⟨by decide,⟨by decide,by decide,by decide,by decide,by decide,by decide⟩,by decide,by decide⟩
theorem ziu(w:World)(hT:xy w):Calls prog 12 #[] w fun e w'=>e=.returned (.bool true)∧zb w w':=by
  have HN:=za (zjb (cfg:=⟨2,1000,50,0,false⟩) ⟨by decide,by decide,by decide,by decide,by decide,by decide⟩ (by decide) w hT);dsimp only[Cfg.v]at HN;clear hT;obtain⟨i8,h8,z8,y8,x8⟩:=xn KV;have hmk : ∀ W:World,∃ C:Array Value,(Instr.makeSlice 34 (.int .i64 1000) (.int .i64 1000)).run prog W=.ok (.slice (some ⟨W.heap.size,0,none⟩) 1000 1000) (W.alloc (.cells C 5)):=fun W=>by
    have:=run_make W 34 5 i8 _ underlying34 h8 z8 .i64 .i64 1000 1000 (by omega) (Int.le_refl _) (by rw[x8];omega) (by omega);exact⟨_,this⟩
  have hmk2 : ∃ F:World→Array Value,∀ W:World,(Instr.makeSlice 34 (.int .i64 1000) (.int .i64 1000)).run prog W=.ok (.slice (some ⟨W.heap.size,0,none⟩) 1000 1000) (W.alloc (.cells (F W) 5)):=⟨fun W=>Classical.choose (hmk W),fun W=>Classical.choose_spec (hmk W)⟩;obtain⟨F,hmk3⟩:=hmk2;clear hmk;have hcv:=fun(W:World) (C:Array Value) (n c:Nat)=>Go.Lib.run_convert_bytes_const (P:=prog) W 34 5 C n c underlying34 underlying5
  have T1:True:=trivial;have T2:True:=trivial;have T3:True:=trivial;have T4:True:=trivial;have T5:True:=trivial;have T6:True:=trivial;have T7:True:=trivial;have T8:True:=trivial;have T9:True:=trivial;have T10:True:=trivial;have T11:True:=trivial;have T12:True:=trivial;have T13:True:=trivial;have T14:True:=trivial;have T15:True:=trivial;have T16:True:=trivial;have T17:True:=trivial;have T18:True:=trivial;have T19:True:=trivial;have T20:True:=trivial;have T21:True:=trivial;have T22:True:=trivial;have T23:True:=trivial;have T24:True:=trivial;have T25:True:=trivial;have T26:True:=trivial;have T27:True:=trivial;have T28:True:=trivial;have T29:True:=trivial;have T30:True:=trivial;go_enter func12,ntmps12;go_upto_region 2 with(go_at_call 13;refine HN.out.mono ?_;rintro e w1 ⟨p,rfl,hk⟩;have HK:Hid (KnP w p ks0 w1):=za hk;clear hk)
  go_upto_region 4 with(first
    | (go_at_call 17;clear T1;refine zm (zeq HK.out (ttl:=10) (t':=ks1) 120 (by decide) (by decide) (by decide) (by decide) (by decide) (by kernel_rfl) (by decide) kf1) ?_;rintro e w' ⟨rfl,hk⟩;replace HK:=za hk;clear hk)
    | (go_at_call 16;clear T2;refine zm (Kj HK.out (t':=ks2) 121 (by decide) (by decide) (by kernel_rfl) (by decide) kf2) ?_;rintro e w' ⟨rfl,hk⟩;replace HK:=za hk;clear hk)
    | (go_at_call 41;clear T3;refine zm (zbw HK.out (vs:=[120]) (t':=ks3) (by decide) (by decide) (by kernel_rfl) kf3 rfl rfl) ?_;rintro e w' ⟨rfl,hk⟩;replace HK:=za hk;clear hk)
    | (go_at_call 16;clear T4;refine zm (Kj HK.out (t':=ks4) 122 (by decide) (by decide) (by kernel_rfl) (by decide) kf4) ?_;rintro e w' ⟨rfl,hk⟩;replace HK:=za hk;clear hk)
    | (go_at_call 58;clear T5;refine zm (VC HK.out (x:=⟨2,⟨⟨#[98]⟩,[121],18446744073709551615,2⟩,7⟩) (A5:=xP [98]) (A6:=xP [121]) (t':=ks5) ko1 kt1 (fun W=>zfG W) (fun W=>zmh W) (by decide) (by decide) rfl kf5) ?_;rintro e w' ⟨rfl,hk⟩;replace HK:=za hk;clear hk))
  go_upto_region 6 with(first
    | (go_at_call 35;clear T6;refine zm (zc1 HK.out (g:=0) (bl:=[3]) (n:=1) (Or.inl rfl) rfl rfl) ?_;rintro e w' ⟨a,c,rfl,hr,hk⟩;replace HK:=za hk;clear hk;have HR:=za hr;clear hr)
    | (go_at_call 34;clear T7;refine zm (zaP (n:=3) HK.out HR.out (by decide)) ?_;rintro e w' ⟨rfl,hk⟩;replace HK:=za hk;clear hk;clear HR)
    | (go_at_call 35;clear T8;refine zm (zc1 HK.out (g:=1) (bl:=[1]) (n:=1) (Or.inr rfl) rfl rfl) ?_;rintro e w' ⟨a,c,rfl,hr,hk⟩;replace HK:=za hk;clear hk;have HR:=za hr;clear hr)
    | (go_at_call 34;clear T9;refine zm (zaP (n:=1) HK.out HR.out (by decide)) ?_;rintro e w' ⟨rfl,hk⟩;replace HK:=za hk;clear hk;clear HR)
    | (go_at_call 41;clear T10;refine zm (zbw HK.out (vs:=[]) (t':=ks5) (by decide) (by decide) (by kernel_rfl) kf6 rfl rfl) ?_;rintro e w' ⟨rfl,hk⟩;replace HK:=za hk;clear hk)
    | (go_at_call 36;clear T11;refine zm (zgv HK.out (x:=⟨⟨#[97]⟩,[120],15,1⟩) (t':=ks5) 120 (by decide) rfl (by decide) (by decide) (by kernel_rfl) kf7.1 kf7.2) ?_;rintro e w' ⟨rfl,hk⟩;replace HK:=za hk;clear hk)
    | (go_at_call 29;clear T12;refine zm (zcb HK.out (n:=7) rfl) ?_;rintro e w' ⟨rfl,rfl⟩;skip))
  go_upto_region 8 with(first
    | (go_at_call 16;clear T13;refine zm (Kj HK.out (t':=ks8) 119 (by decide) (by decide) (by kernel_rfl) (by decide) kf8) ?_;rintro e w' ⟨rfl,hk⟩;replace HK:=za hk;clear hk)
    | (go_at_call 42;clear T14;refine zm (zjC HK.out (t':=ks9) (by decide) (by decide) (by decide) (by decide) (by kernel_rfl) kf9) ?_;rintro e w' ⟨rfl,hk⟩;replace HK:=za hk;clear hk)
    | (go_at_call 58;clear T15;refine zm (VC HK.out (x:=⟨3,⟨⟨#[97]⟩,[120],15,1⟩,8⟩) (A5:=xP [97]) (A6:=xP [120]) (t':=Jd) ko2 kt2 (fun W=>zdG W) (fun W=>zkF W) (by decide) (by decide) rfl zgw) ?_;rintro e w' ⟨rfl,hk⟩;replace HK:=za hk;clear hk)
    | (go_at_call 23;clear T16;refine zm (zdj HK.out (t':=JT) (by decide) (by kernel_rfl) zku) ?_;rintro e w' ⟨rfl,hk⟩;replace HK:=za hk;clear hk)
    | (go_at_call 33;clear T17;refine zm (zi7 HK.out (n:=2) rfl) ?_;rintro e w' ⟨rfl,rfl⟩;skip)
    | (go_at_call 23;clear T18;refine zm (zdj HK.out (t':=Qe) (by decide) (by kernel_rfl) zms) ?_;rintro e w' ⟨rfl,hk⟩;replace HK:=za hk;clear hk)
    | (go_at_call 58;clear T19;refine zm (VC HK.out (x:=⟨1,⟨⟨#[99]⟩,[122],15,3⟩,15⟩) (A5:=xP [99]) (A6:=xP [122]) (t':=Kp) ko3 kt3 (fun W=>zf5 W) (fun W=>zeu W) (by decide) (by decide) rfl zhz) ?_;rintro e w' ⟨rfl,hk⟩;replace HK:=za hk;clear hk))
  go_upto_region 10 with(first
    | (go_at_call 32;clear T20;refine zm (zbu HK.out (t':=Yz) (by decide) (by decide) (by kernel_rfl) zfD) ?_;rintro e w' ⟨rfl,hk⟩;replace HK:=za hk;clear hk)
    | (go_at_call 32;clear T21;refine zm (zbu HK.out (t':=Yz) (by decide) (by decide) (by kernel_rfl) zjx) ?_;rintro e w' ⟨rfl,hk⟩;replace HK:=za hk;clear hk)
    | (go_at_call 15;clear T22;refine zm (zmc HK.out (n:=3) rfl) ?_;rintro e w' ⟨rfl,rfl⟩;skip)
    | (go_at_call 37;clear T23;refine zm (ziV HK.out (n:=0) (t':=UX) (by decide) (by kernel_rfl) zge) ?_;rintro e w' ⟨rfl,hk⟩;replace HK:=za hk;clear hk)
    | (go_at_call 58;clear T24;refine zm (VC HK.out (x:=⟨4,⟨⟨#[97]⟩,[119],18446744073709551615,1⟩,15⟩) (A5:=xP [97]) (A6:=xP [119]) (t':=K6) ko4 kt4 (fun W=>zdG W) (fun W=>zkc W) (by decide) (by decide) rfl zh1) ?_;rintro e w' ⟨rfl,hk⟩;replace HK:=za hk;clear hk)
    | (go_at_call 16;clear T25;refine zm (zbm (HK.out.pure ((Mod.refl _ _).alloc _)) (er:=12) (by decide) (by decide) (by kernel_rfl) (by decide)) ?_;rintro e w' ⟨rfl,hk⟩;replace HK:=za hk;clear hk)
    | (go_at_call 29;clear T26;refine zm (zcb HK.out (n:=20) rfl) ?_;rintro e w' ⟨rfl,rfl⟩;skip)
    | (go_at_call 22;clear T27;refine zm (zdT HK.out (er:=240) (by kernel_rfl) (by decide)) ?_;rintro e w' ⟨rfl,hk⟩;replace HK:=za hk;clear hk))
  go_wp2_with (first
    | (go_at_call 44;clear T28;refine zm (zih HK.out (t':=Ja) (by decide) (by decide) (by kernel_rfl) zaq.1 zaq.2) ?_;rintro e w' ⟨rfl,hk⟩;replace HK:=za hk;clear hk)
    | (go_at_call 17;clear T29;refine zm (zf0 (HK.out.pure ((Mod.refl _ _).alloc _))) ?_;rintro e w' ⟨rfl,hk⟩;replace HK:=za hk;clear hk)
    | (go_at_call 16;clear T30;refine zm (zbm (HK.out.pure ((Mod.refl _ _).alloc _)) (er:=2) (by decide) (by decide) (by kernel_rfl) (by decide)) ?_;rintro e w' ⟨rfl,hk⟩;replace HK:=za hk;clear hk))
  go_ret;obtain⟨D9,hk9⟩:=HK.out;exact⟨rfl,hk9.pu⟩
end
end Go.Proofs.YtpplkcnknabofaaGreatDoor
