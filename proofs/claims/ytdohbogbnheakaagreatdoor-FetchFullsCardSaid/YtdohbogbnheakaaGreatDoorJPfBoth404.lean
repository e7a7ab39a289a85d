/- Lemmas and contracts of functions. No condition. -/
import Derived.Test.YtdohbogbnheakaaGreatDoorJPfBoth403
import Derived.Sort.CutIn
import Derived.Sort.BigQuietIn
namespace Go.Proofs.YtdohbogbnheakaaGreatDoor
open _root_.Go.Proofs.Tryz
set_option maxRecDepth 100000
set_option maxHeartbeats 20000000
set_option linter.all false
section
open Go.RowKit Go.Shelf
def ZI(h:Nat)(b:UInt8):Nat:=(h ^^^ b.toNat)*1099511628211%18446744073709551616
def kn(h:Nat)(l:List UInt8):Nat:=l.foldl ZI h
theorem zfv{α β:Type}(f:β→α→β)(h:β)(l:List α){i:Nat}{b:α}(hb:l[i]? = some b):(l.take (i+1)).foldl f h=f ((l.take i).foldl f h) b:=by
 rw[uE,hb,XE]
 rfl
theorem zhl(h:Nat)(l:List UInt8){i:Nat}{b:UInt8}(hb:l[i]? = some b):kn h (l.take (i+1))=ZI (kn h (l.take i)) b:=by
 unfold kn;exact zfv ZI h l hb
theorem QZ(h:Nat)(b:UInt8):ZI h b<18446744073709551616:=vp _ (by decide)
theorem Jb{h:Nat}(hh:h<18446744073709551616) : ∀ l:List UInt8,kn h l<18446744073709551616
 | []=>hh
 | b::l=>Jb (QZ h b) l
def j6(w:Nat):Nat:=5*(w ^^^ (w/536870912))%18446744073709551616
def XZ(w:Nat):Nat:=j6 w ^^^ (j6 w/4294967296)
theorem zc6(w:Nat):j6 w<18446744073709551616:=vp _ (by decide)
def ky(seed:Nat)(same:Bool)(key:ByteArray):Nat:=XZ (kn seed (if same then[]else key.data.toList))
theorem zb3(h:Nat)(hh:h<18446744073709551616)(key:ByteArray)(hk:key.size≤140737488355328)(w:World):Calls prog 243 #[.int .u64 h,.string key] w fun e w'=>e=.returned (.int .u64 (kn h key.data.toList:Nat))∧w=w':=by
 obtain⟨n,hn⟩:=zf key.size;have HN:=za hn;have hn2:n≤140737488355328:=by omega
 obtain⟨res,hres⟩:=zf (kn h key.data.toList);rw[hres];clear hk;have wn:IntKind.i64.wrap (n:Int)=n:=zt _ (by omega);go_enter func243,ntmps243;go_upto_region 2 with fail
 go_loopw [0,8] (fun v0 v8 wr => ∃ i,v0=.int .u64 (kn h (key.data.toList.take i):Nat)∧v8=.int .i64 (i:Nat)∧i≤n∧wr=w) (fun _ v8 _=>n-(intOf v8).toNat)
 case atStart=>exact⟨0,by rw[List.take_zero,kn,List.foldl_nil],rfl,yi _,rfl⟩
 case round =>
  obtain⟨i,rfl,rfl,hi,rfl⟩:=hrel;have hlen:key.data.toList.length=n:=by rw[← hn];rfl
  by_cases hlt:i<n
  ·have hlt':(i:Int)<(n:Int):=by omega
   obtain⟨b,hb⟩ : ∃ b,key.data.toList[i]? = some b:=⟨_,zL (by omega)⟩;have htk:=zhl h key.data.toList hb;have hq:=Jb hh (key.data.toList.take i);have hq2:=QZ (kn h (key.data.toList.take i)) b;have HTK:=za htk;clear htk;generalize kn h (key.data.toList.take i)=q at *;have wi:IntKind.i64.wrap ((i:Int)+1)=(i:Int)+1:=zt _ (by omega);have hki:i<key.size:=by omega
   have hkb:(key[i]'hki).toNat=b.toNat:=by
    have:=zE.1 hb;obtain⟨h1,h2⟩:=this;rw[← h2];exact congrArg UInt8.toNat rfl
   have hb256:b.toNat<256:=UInt8.toNat_lt b;have e1:IntKind.u64.wrap (b.toNat:Int)=(b.toNat:Int):=kr _ (by omega);have e2:bits .xor .u64 (q:Int) (b.toNat:Int)=((q ^^^ b.toNat:Nat):Int):=YG _ _ hq (by omega);have e3:IntKind.u64.wrap (((q ^^^ b.toNat:Nat):Int)*1099511628211)=((ZI q b:Nat):Int):=by
    unfold ZI;rw[← Qe];simp
   generalize ZI q b=r at *;generalize q ^^^ b.toNat=xx at *;clear hb;generalize b.toNat=kb at *;clear hh hq hq2;go_upto_region 5 with fail
   go_wp2;go_roundw
   case rel=>exact⟨i+1,by rw[HTK.out],by go_num,hlt,trivial⟩
   case measure=>simp[intOf];omega
  ·have hlt':(n:Int)≤(i:Int):=by omega
   have htk:key.data.toList.take i=key.data.toList:=qp (by omega);rw[htk,hres];go_wp2;go_ret;exact⟨rfl,rfl⟩
theorem zde(n:Nat)(hn:n<18446744073709551616)(w:World):Calls prog 242 #[.int .u64 n] w fun e w'=>e=.returned (.int .u64 (XZ n:Nat))∧w=w':=by
 have h29:n/536870912<18446744073709551616:=jB (Y0 _ _) hn;have e1:bits .xor .u64 (n:Int) ((n:Int)/536870912)=((n ^^^ (n/536870912):Nat):Int):=YG _ _ hn h29;have e2:IntKind.u64.wrap (5*((n ^^^ (n/536870912):Nat):Int))=((j6 n:Nat):Int):=by
  unfold j6;rw[← Qe];simp
 have h5:=zc6 n;have h32:j6 n/4294967296<18446744073709551616:=jB (Y0 _ _) h5;have e3:bits .xor .u64 ((j6 n:Nat):Int) (((j6 n:Nat):Int)/4294967296)=((XZ n:Nat):Int):=YG _ _ h5 h32;generalize XZ n=r at *;generalize j6 n=q at *;generalize n ^^^ (n/536870912)=z at *;have n0:(0:Int)≤n:=by omega
 have q0:(0:Int)≤q:=by omega
 go_enter func242,ntmps242;go_wp2;go_ret;exact⟨by simp[*],rfl⟩
end
section
open Go.RowKit Go.Shelf
attribute [local go_sem] Oper.semAt_some
def xj(C:TypeId→Prop)(A B:World):Prop:=Mod (fun k => ∃ cs T fz,A.heap[k]? = some (.cells cs T fz)∧C T) A B
theorem xj.refl(C:TypeId→Prop)(A:World):xj C A A:=Mod.refl _ A
theorem xj.of_pure{C:TypeId→Prop}{A B:World}(h:zc A B):xj C A B:=Mod.of_pure h
theorem xj.trans{C:TypeId→Prop}{w A B:World}(h:xj C w A)(k:xj C A B):xj C w B:=by
 refine⟨k.os.trans h.os,k.tape.trans h.tape,k.output.trans h.output,zH h.size k.size,fun i hi hn => ?_⟩;have e:=h.block i hi hn;refine(k.block i (ve hi h.size) (fun⟨cs,T,fz,e',hC⟩=>hn ⟨cs,T,fz,by rw[← e];exact e',hC⟩)).trans e
theorem xj.then{C:TypeId→Prop}{S:Nat→Prop}{w A B:World}(h:xj C w A)(k:Mod S A B)(hS : ∀ i,S i→w.heap.size≤i):xj C w B :=
 Mod.then h k (fun i hi hs=>by have:=hS i hs;omega)
theorem xj.heap{C:TypeId→Prop}{A B:World}(h:xj C A B){k:Nat}{cs:Array Value}{T:TypeId}{fz:Nat × Nat}(hb:A.heap[k]? = some (.cells cs T fz))(hT : ¬ C T):B.heap[k]? = some (.cells cs T fz) :=
 Mod.heap h (fun⟨cs',T',fz',e,hC⟩=>by rw[hb]at e;cases e;exact hT hC) hb
theorem xj.owns{C:TypeId→Prop}{A B:World}(h:xj C A B){T k n:Nat}{v:Value}{xs:List Value}(ho:A.ownsRow 0 T k v n xs)(hT : ¬ C T):B.ownsRow 0 T k v n xs :=
 zy ho h (fun g hg ⟨cs',T',fz',e,hC⟩=>by
  obtain⟨c,e'⟩:=yc ho hg;rw[e']at e;cases e;exact hT hC)
theorem xj.rec{C:TypeId→Prop}{A B:World}(h:xj C A B)(N:Nat):xl N A B :=
 xl.of_mod h (fun k _ ⟨cs,T,fz,e,_⟩ o ho=>by rw[e]at ho;cases ho;rfl)
theorem xl.trans{N:Nat}{A B D:World}(h:xl N A B)(k:xl N B D):xl N A D:=fun i o hi ho hc=>k i o hi (h i o hi ho hc) hc
def zdM(N:Nat)(A:World)(k:Nat):Prop:=N≤k ∧ ∀ cs T fz,A.heap[k]? = some (.cells cs T fz)→T=358∨T=3∨T=24
structure uw(P:Program)(gf:Nat)(lb:Array Value)(f:List Nat→Nat→Bool)(C:TypeId→Prop)(J:List Nat→World→Prop)(w:World):Prop where
 enters : ∀ args w,(callFunc gf args).run P w=.ok (.enter gf args) w
 call : ∀ pre (s:Nat) W,s≤4294967295→J pre W→CallsIn Fence.wide 0 P gf (#[.int .u32 s]++lb) W fun e w'=>e=.returned (.bool (f pre s))∧J (pre++[s]) w'∧xj C W w'
 keep : ∀ pre A B,J pre A→Mod (zdM w.heap.size A) A B→J pre B
 types : ∀ T,C T→T=143∨T=213
 start:J [] w
structure FS(w:World)(D:Nat→Prop)(p:Nat)(sv:Value)(Gs:List Grp)(sum:Nat)(gf:Nat)(lb:Array Value)(C:TypeId→Prop)(J:List Nat→World→Prop)(b:Nat)(jl:List Nat)(W:World):Prop where
 pu:xj C w W
 wb:w.heap.size≤b
 h3:W.heap[b]? = some (.cells #[.pointer (some ⟨p,0,none⟩)] 201 (0,0))
 h4:W.heap[b+1]? = some (.cells #[.int .u64 sum] 27 (0,0))
 h5:W.heap[b+1+1]? = some (.cells #[.func (.func gf) #[] lb] 279 (0,0))
 h6:W.heap[b+1+1+1]? = some (.cells #[.pointer none] 358 (0,0))
 h7:W.heap[b+1+1+1+1]? = some (.cells #[.int .i64 0] 3 (0,0))
 h8:W.heap[b+1+1+1+1+1]? = some (.cells #[.int .i64 0] 24 (0,0))
 ix:yk W D p sv Gs
 j:J jl W
section
variable{w:World}{D:Nat→Prop}{p:Nat}{sv:Value}{Gs:List Grp}{sum:Nat}{gf:Nat}{lb:Array Value}{f:List Nat→Nat→Bool}{C:TypeId→Prop}{J:List Nat→World→Prop}{b:Nat}{jl:List Nat}
theorem FS.pure(hs:uw prog gf lb f C J w){A B:World}(h:FS w D p sv Gs sum gf lb C J b jl A)(hq:zc A B):FS w D p sv Gs sum gf lb C J b jl B :=
 ⟨h.pu.trans (.of_pure hq),h.wb,hq.heap (fun h=>h) h.h3,hq.heap (fun h=>h) h.h4,hq.heap (fun h=>h) h.h5,hq.heap (fun h=>h) h.h6,hq.heap (fun h=>h) h.h7,hq.heap (fun h=>h) h.h8,h.ix.pure hq,hs.keep _ _ _ h.j (Mod.of_pure hq)⟩
theorem FS.quiet(hs:uw prog gf lb f C J w){N:Nat}(hN:w.heap.size≤N){A B:World}(h:FS w D p sv Gs sum gf lb C J b jl A)(hq:zB N A B):FS w D p sv Gs sum gf lb C J b jl B :=
 ⟨h.pu.then hq (fun i hi=>by have:=hi.1;omega),h.wb,hq.cells h.h3,hq.cells h.h4,hq.cells h.h5,hq.cells h.h6,hq.cells h.h7,hq.cells h.h8,h.ix.quiet hq,
  hs.keep _ _ _ h.j (Mod.mono hq (fun k _ ⟨hk,o,ho,hc⟩=>⟨by omega,fun cs T fz e=>by rw[e]at ho;cases ho;cases hc⟩))⟩
theorem FS.back(hs:uw prog gf lb f C J w){A B:World}{s:Nat}(h:FS w D p sv Gs sum gf lb C J b jl A)(hq:xj C A B)(hj:J (jl++[s]) B):FS w D p sv Gs sum gf lb C J b (jl++[s]) B:=by
 have n : ∀ T,T≠143→T≠213 → ¬ C T:=fun T h1 h2 hC=>by rcases hs.types T hC with e | e<;>contradiction
 refine⟨h.pu.trans hq,h.wb,hq.heap h.h3 (n _ (by decide) (by decide)),hq.heap h.h4 (n _ (by decide) (by decide)),hq.heap h.h5 (n _ (by decide) (by decide)),hq.heap h.h6 (n _ (by decide) (by decide)),hq.heap h.h7 (n _ (by decide) (by decide)),hq.heap h.h8 (n _ (by decide) (by decide)),⟨hq.heap h.ix.box (n _ (by decide) (by decide)),hq.owns h.ix.row (n _ (by decide) (by decide)),h.ix.dd,h.ix.ok⟩,hj⟩
theorem FS.new(hs:uw prog gf lb f C J w)(h:yk w D p sv Gs) :
  FS w D p sv Gs sum gf lb C J w.heap.size [] ((((((w.alloc (.cells #[.pointer (some ⟨p,0,none⟩)] 201)).alloc (.cells #[.int .u64 sum] 27)).alloc (.cells #[.func (.func gf) #[] lb] 279)).alloc (.cells #[.pointer none] 358)).alloc (.cells #[.int .i64 0] 3)).alloc (.cells #[.int .i64 0] 24)):=by
 have hp:zc w ((((((w.alloc (.cells #[.pointer (some ⟨p,0,none⟩)] 201)).alloc (.cells #[.int .u64 sum] 27)).alloc (.cells #[.func (.func gf) #[] lb] 279)).alloc (.cells #[.pointer none] 358)).alloc (.cells #[.int .i64 0] 3)).alloc (.cells #[.int .i64 0] 24)):=by(repeat'(first | (with_reducible exact Mod.refl _ _) | (with_reducible refine Mod.alloc ?_ _) | (with_reducible refine Mod.drew ?_) | (with_reducible refine Mod.drewN ?_ _) | (with_reducible refine Mod.setCell ?_ ?_ _) | (refine Mod.then ?_ (by with_reducible assumption) ?_)))
 refine⟨.of_pure hp,zI _,?_,?_,?_,?_,?_,?_,h.pure hp,hs.keep _ _ _ hs.start (Mod.of_pure hp)⟩
 ·exact zG (zG (zG (zG (zG (zj rfl)))))
 ·exact zG (zG (zG (zG (zj (by simp)))))
 ·exact zG (zG (zG (zj (by simp))))
 ·exact zG (zG (zj (by simp)))
 ·exact zG (zj (by simp))
 ·exact zj (by simp)
structure FR(w:World)(D:Nat→Prop)(p:Nat)(sv:Value)(Gs:List Grp)(C:TypeId→Prop)(J:List Nat→World→Prop)(b:Nat)(jl:List Nat)(u6 u7 u8:Value)(W:World):Prop where
 pu:xj C w W
 wb:w.heap.size≤b
 h6:W.heap[b+1+1+1]? = some (.cells #[u6] 358 (0,0))
 h7:W.heap[b+1+1+1+1]? = some (.cells #[u7] 3 (0,0))
 h8:W.heap[b+1+1+1+1+1]? = some (.cells #[u8] 24 (0,0))
 ix:yk W D p sv Gs
 j:J jl W
theorem FR.quiet(hs:uw prog gf lb f C J w){u6 u7 u8:Value}{N:Nat}(hN:w.heap.size≤N){A B:World}(h:FR w D p sv Gs C J b jl u6 u7 u8 A)(hq:zB N A B):FR w D p sv Gs C J b jl u6 u7 u8 B :=
 ⟨h.pu.then hq (fun i hi=>by have:=hi.1;omega),h.wb,hq.cells h.h6,hq.cells h.h7,hq.cells h.h8,h.ix.quiet hq,
  hs.keep _ _ _ h.j (Mod.mono hq (fun k _ ⟨hk,o,ho,hc⟩=>⟨by omega,fun cs T fz e=>by rw[e]at ho;cases ho;cases hc⟩))⟩
theorem FS.store(hs:uw prog gf lb f C J w){A:World}(h:FS w D p sv Gs sum gf lb C J b jl A)(u6 u7 u8:Value) :
  FR w D p sv Gs C J b jl u6 u7 u8 (((A.setCell ⟨b+1+1+1,0,none⟩ u6).setCell ⟨b+1+1+1+1,0,none⟩ u7).setCell ⟨b+1+1+1+1+1,0,none⟩ u8) ∧
   Mod (fun k=>k=b+1+1+1∨k=b+1+1+1+1∨k=b+1+1+1+1+1) A (((A.setCell ⟨b+1+1+1,0,none⟩ u6).setCell ⟨b+1+1+1+1,0,none⟩ u7).setCell ⟨b+1+1+1+1+1,0,none⟩ u8):=by
 have hm:Mod (fun k=>k=b+1+1+1∨k=b+1+1+1+1∨k=b+1+1+1+1+1) A (((A.setCell ⟨b+1+1+1,0,none⟩ u6).setCell ⟨b+1+1+1+1,0,none⟩ u7).setCell ⟨b+1+1+1+1+1,0,none⟩ u8) :=
  (((Mod.refl _ A).setCell (p:=⟨b+1+1+1,0,none⟩) (fun _ => .inl rfl) _).setCell (p:=⟨b+1+1+1+1,0,none⟩) (fun _ => .inr (.inl rfl)) _).setCell (p:=⟨b+1+1+1+1+1,0,none⟩) (fun _ => .inr (.inr rfl)) _
 have wb:=h.wb;refine⟨⟨h.pu.then hm (fun i hi=>by omega),h.wb,?_,?_,?_,h.ix.mod hm (fun k hk hs => ?_),hs.keep _ _ _ h.j (Mod.mono hm (fun k hk hs=>⟨by omega,fun cs T fz e => ?_⟩))⟩,hm⟩
 ·exact xm (xm (zW (j:=0) h.h6) (by dsimp only;omega)) (by dsimp only;omega)
 ·exact xm (zW (j:=0) (xm h.h7 (by dsimp only;omega))) (by dsimp only;omega)
 ·exact zW (j:=0) (xm (xm h.h8 (by dsimp only;omega)) (by dsimp only;omega))
 ·have no : ∀ {k:Nat} {cs:Array Value} {T:TypeId},A.heap[k]? = some (.cells cs T (0,0))→T≠351→T≠354 → ¬ D k:=fun hk h1 h2 hD=>by
   rcases(h.ix.dd _).1 hD with e | e
   ·rw[e,h.ix.box]at hk;cases hk;exact h1 rfl
   ·obtain⟨cc,e2⟩:=yc h.ix.row e;rw[e2]at hk;cases hk;exact h2 rfl
  rcases hs with rfl | rfl | rfl
  ·exact no h.h6 (by decide) (by decide) hk
  ·exact no h.h7 (by decide) (by decide) hk
  ·exact no h.h8 (by decide) (by decide) hk
 ·rcases hs with rfl | rfl | rfl
  ·rw[h.h6]at e;cases e;exact .inl rfl
  ·rw[h.h7]at e;cases e;exact .inr (.inl rfl)
  ·rw[h.h8]at e;cases e;exact .inr (.inr rfl)
def XB(w:World)(D:Nat→Prop)(p:Nat)(sv:Value)(Gs:List Grp)(sum:Nat)(f:List Nat→Nat→Bool)(C:TypeId→Prop)(J:List Nat→World→Prop)(b B:Nat)(W:World):Prop :=
 ∃ a x post,xC Gs sum=a++x::post∧ko f (a.map (zT Gs))∧f (a.map (zT Gs)) (zT Gs x)=true∧x.1<Gs.length∧x.2<8 ∧
  FR w D p sv Gs C J b ((a++[x]).map (zT Gs)) (.pointer (some ⟨B,x.1*9,none⟩)) (.int .i64 x.2) (.int .i64 0) W
theorem XB.quiet(hs:uw prog gf lb f C J w){B N:Nat}(hN:w.heap.size≤N){X Y:World}(h:XB w D p sv Gs sum f C J b B X)(hq:zB N X Y):XB w D p sv Gs sum f C J b B Y:=by
 obtain⟨a,x,post,h1,h2,h3,h4,h5,h6⟩:=h;exact⟨a,x,post,h1,h2,h3,h4,h5,h6.quiet hs hN hq⟩
def vw(Gs:List Grp)(tag:Nat)(pre:List Nat):List (Nat × Nat):=pre.flatMap (fun i=>(k9 (zn Gs i) tag).map (fun j=>(i,j)))
structure XF(w:World)(D:Nat→Prop)(p:Nat)(sv:Value)(Gs:List Grp)(sum:Nat)(gf:Nat)(lb:Array Value)(f:List Nat→Nat→Bool)(C:TypeId→Prop)(J:List Nat→World→Prop)(b:Nat)(B1 B2 B3 N:Nat)(pre:List Nat)(W:World):Prop where
 fs:FS w D p sv Gs sum gf lb C J b ((vw Gs (sum%128) pre).map (zT Gs)) W
 it:ut W B1 B2 B3 (sum/128) Gs.length
 bl : ∀ k∈pre,vS (zn Gs k)=false
 fl:ko f ((vw Gs (sum%128) pre).map (zT Gs))
 sz:N≤W.heap.size
theorem ut.quiet{N B1 B2 B3 part g:Nat}{X Y:World}(h:ut X B1 B2 B3 part g)(hq:zB N X Y):ut Y B1 B2 B3 part g:=⟨hq.cells h.many,hq.cells h.part,hq.cells h.grps⟩
theorem XF.quiet(hs:uw prog gf lb f C J w){B1 B2 B3 M N:Nat}(hN:w.heap.size≤N){pre:List Nat}{X Y:World}(h:XF w D p sv Gs sum gf lb f C J b B1 B2 B3 M pre X)(hq:zB N X Y):XF w D p sv Gs sum gf lb f C J b B1 B2 B3 M pre Y :=
 ⟨h.fs.quiet hs hN hq,h.it.quiet hq,h.bl,h.fl,zH h.sz (Mod.size hq)⟩
def zfC(w:World)(D:Nat→Prop)(p:Nat)(sv:Value)(Gs:List Grp)(sum:Nat)(gf:Nat)(lb:Array Value)(f:List Nat→Nat→Bool)(C:TypeId→Prop)(J:List Nat→World→Prop)(b B:Nat)(c:Code)(W:World):Prop :=
 (c=.exit 0∧FS w D p sv Gs sum gf lb C J b ((xC Gs sum).map (zT Gs)) W∧ko f ((xC Gs sum).map (zT Gs)))∨(c=.ret∧XB w D p sv Gs sum f C J b B W)
structure FIn(w:World)(D:Nat→Prop)(p:Nat)(sv:Value)(Gs:List Grp)(sum:Nat)(gf:Nat)(lb:Array Value)(f:List Nat→Nat→Bool)(C:TypeId→Prop)(J:List Nat→World→Prop)(b:Nat)(B1 B2 B3 BL B m N b12 i:Nat)(W2:World)(pre pre':List Nat)(W:World):Prop where
 fs:FS w D p sv Gs sum gf lb C J b ((vw Gs (sum%128) pre++pre'.map (fun j=>(i,j))).map (zT Gs)) W
 it:ut W B1 B2 B3 (sum/128) Gs.length
 la:qs W BL m
 bx:W.heap[b12]? = some (.cells #[.pointer (some ⟨B,i*9,none⟩)] 358 (0,0))
 fl:ko f ((vw Gs (sum%128) pre++pre'.map (fun j=>(i,j))).map (zT Gs))
 rc:xl N W2 W
 sz:W2.heap.size≤W.heap.size
theorem xl.quiet{N M:Nat}{A X Y:World}(h:xl N A X)(hq:zB M X Y)(hM:A.heap.size≤M):xl N A Y:=fun k o hk ho hc =>
 Mod.heap hq (fun hs=>by have:=hs.1;have:=zm ho;omega) (h k o hk ho hc)
theorem FIn.quiet(hs:uw prog gf lb f C J w){B1 B2 B3 BL B m N b12 i M:Nat}{W2:World}(hN:w.heap.size≤M)(hM:W2.heap.size≤M){pre pre':List Nat}{X Y:World}(h:FIn w D p sv Gs sum gf lb f C J b B1 B2 B3 BL B m N b12 i W2 pre pre' X)(hq:zB M X Y) :
  FIn w D p sv Gs sum gf lb f C J b B1 B2 B3 BL B m N b12 i W2 pre pre' Y :=
 ⟨h.fs.quiet hs hN hq,h.it.quiet hq,⟨hq.cells h.la.set⟩,hq.cells h.bx,h.fl,h.rc.quiet hq hM,zH h.sz (Mod.size hq)⟩
theorem FIn.back(hs:uw prog gf lb f C J w){B1 B2 B3 BL B m N b12 i j s:Nat}{W2:World}{pre pre':List Nat}{X Y:World}(h:FIn w D p sv Gs sum gf lb f C J b B1 B2 B3 BL B m N b12 i W2 pre pre' X)(hsl:zT Gs (i,j)=s)(hm:xj C X Y)
  (hj:J ((vw Gs (sum%128) pre++pre'.map (fun j=>(i,j))).map (zT Gs)++[s]) Y) :
  FS w D p sv Gs sum gf lb C J b ((vw Gs (sum%128) pre++(pre'++[j]).map (fun j=>(i,j))).map (zT Gs)) Y∧ut Y B1 B2 B3 (sum/128) Gs.length∧qs Y BL m∧Y.heap[b12]? = some (.cells #[.pointer (some ⟨B,i*9,none⟩)] 358 (0,0)) ∧
   (f ((vw Gs (sum%128) pre++pre'.map (fun j=>(i,j))).map (zT Gs)) s=false→ko f ((vw Gs (sum%128) pre++(pre'++[j]).map (fun j=>(i,j))).map (zT Gs)))∧xl N W2 Y∧W2.heap.size≤Y.heap.size:=by
 have e:(vw Gs (sum%128) pre++(pre'++[j]).map (fun j=>(i,j))).map (zT Gs)=(vw Gs (sum%128) pre++pre'.map (fun j=>(i,j))).map (zT Gs)++[s]:=by
  simp[hsl]
 have n : ∀ T,T≠143→T≠213 → ¬ C T:=fun T h1 h2 hC=>by rcases hs.types T hC with e | e<;>contradiction
 refine⟨?_,⟨hm.heap h.it.many (n _ (by decide) (by decide)),hm.heap h.it.part (n _ (by decide) (by decide)),hm.heap h.it.grps (n _ (by decide) (by decide))⟩,⟨hm.heap h.la.set (n _ (by decide) (by decide))⟩,hm.heap h.bx (n _ (by decide) (by decide)),fun hf => ?_,h.rc.trans (hm.rec _),zH h.sz hm.size⟩
 ·rw[e];exact h.fs.back hs hm hj
 ·rw[e];exact zjL h.fl hf
theorem ut.keepsIt{B1 B2 B3 part g:Nat}{X Y:World}(h:ut X B1 B2 B3 part g)(k:ut Y B1 B2 B3 part g)(hs:X.heap.size≤Y.heap.size):xk (qN B1 B2 B3) X Y:=by
 refine⟨hs,?_⟩;rintro i (rfl | rfl | rfl) _
 ·rw[h.many,k.many]
 ·rw[h.part,k.part]
 ·rw[h.grps,k.grps]
def KJ(w:World)(D:Nat→Prop)(p:Nat)(sv:Value)(Gs:List Grp)(sum:Nat)(f:List Nat→Nat→Bool)(C:TypeId→Prop)(J:List Nat→World→Prop)(B:Nat)(e:Ending)(w':World):Prop :=
  xj C w w'∧yk w' D p sv Gs ∧
  ((∃ a x post,xC Gs sum=a++x::post∧ko f (a.map (zT Gs))∧f (a.map (zT Gs)) (zT Gs x)=true∧x.1<Gs.length∧x.2<8 ∧
    e=.returned (.tuple #[.pointer (some ⟨B,x.1*9,none⟩),.int .i64 x.2,.int .i64 0])∧J ((a++[x]).map (zT Gs)) w') ∨
   (ko f ((xC Gs sum).map (zT Gs))∧e=.returned (.tuple #[.pointer none,.int .i64 0,.int .i64 9])∧J ((xC Gs sum).map (zT Gs)) w'))
end
theorem find_none{w:World}{D:Nat→Prop}{p:Nat}{sv:Value}{Gs:List Grp}{sum:Nat}{gf:Nat}{lb:Array Value}{f:List Nat→Nat→Bool}{C:TypeId→Prop}{J:List Nat→World→Prop}{b:Nat}(hs:uw prog gf lb f C J w){N l B:Nat}(hN:w.heap.size≤N){W:World}(h:FS w D p sv Gs sum gf lb C J b ((xC Gs sum).map (zT Gs)) W)(hf:ko f ((xC Gs sum).map (zT Gs)))(hl:N≤l)(hK:W.heap[l]? = some (.deferred (some []))){W':World}
  (hW':(((W.setCell ⟨b+1+1+1,0,none⟩ (.pointer none)).setCell ⟨b+1+1+1+1,0,none⟩ (.int .i64 0)).setCell ⟨b+1+1+1+1+1,0,none⟩ (.int .i64 9))=W') :
  W'.heap[l]? = some (.deferred (some []))∧FR w D p sv Gs C J b ((xC Gs sum).map (zT Gs)) (.pointer none) (.int .i64 0) (.int .i64 9) (W'.putObj l (.deferred none)) ∧
   KJ w D p sv Gs sum f C J B (.returned (.tuple #[.pointer none,.int .i64 0,.int .i64 9])) (W'.putObj l (.deferred none)):=by
 subst hW';obtain⟨hr,hm⟩:=h.store hs (.pointer none) (.int .i64 0) (.int .i64 9);have hk:=hm.heap (by rintro(e | e | e)<;>subst e<;>first | (rw[h.h6]at hK;cases hK) | (rw[h.h7]at hK;cases hK) | (rw[h.h8]at hK;cases hK)) hK;have hr2:=hr.quiet hs hN (zB.putObj (.deferred none) hl hk rfl);exact⟨hk,hr2,hr2.pu,hr2.ix,.inr ⟨hf,rfl,hr2.j⟩⟩
theorem Az87r {P:Prop}(h:P:=by
 go_wp2;obtain⟨hk,hr,hp⟩:=HE.out;have y6:=zi _ _ 0 _ _ _ hr.h6;have y7:=zi _ _ 0 _ _ _ hr.h7;have y8:=zi _ _ 0 _ _ _ hr.h8;simp at y6 y7 y8;exact jy (v := .tuple #[.pointer none,.int .i64 0,.int .i64 9]) hk (by simp[results,results241,go_sem,y6,y7,y8]) ⟨B,c,rfl,hp⟩):P:=h
theorem Azazb {P:Prop}(h:P:=by
 have:i∈xS part Gs.length:=by rw[hpost];simp
 unfold xS at this;obtain⟨k,hk,rfl⟩:=zz.1 this;exact vp _ HG.out.pos):P:=h
theorem Azwe9 {P:Prop}(h:P:=by
 rintro k (rfl | rfl | rfl)
 · exact zm hit.many
 · exact zm hit.part
 · exact zm hit.grps):P:=h
theorem zcH{w:World}{D:Nat→Prop}{p:Nat}{sv:Value}{Gs:List Grp}(h:yk w D p sv Gs)(sum:Nat)(hsum:sum<18446744073709551616){gf:Nat}{lb:Array Value}{f:List Nat→Nat→Bool}{C:TypeId→Prop}{J:List Nat→World→Prop}
    (hsame:uw prog gf lb f C J w) :
    Calls prog 241 #[.pointer (some ⟨p,0,none⟩),.int .u64 sum,.func (.func gf) #[] lb] w (fun e w' => ∃ B c,sv=.slice (some ⟨B,0,none⟩) Gs.length c∧KJ w D p sv Gs sum f C J B e w'):=by
  have hlp:p<w.heap.size:=zm h.box;obtain⟨B,c,rfl,hc,hB,hDB,hBf,hcells⟩:=h.at;have hfs:=FS.new (sum:=sum) hsame h;have HF:=za hfs;have HS:=za hsame;have HC:=za hcells;clear hfs hcells hsame hBf hc
  (refine(yB (n:=0)).1 (callsIn_of_wp_marks func241 rfl trivial (vy.2 ?_) rfl);simp only[ntmps241,List.size_toArray,List.length_cons,List.length_nil,Nat.reduceAdd,Nat.reduceSub,Array.replicate_succ,Array.replicate_zero,List.push_toArray,List.append_toArray,List.nil_append,List.cons_append])
  go_upto_region 1 with fail
  generalize(((((w.alloc (.cells #[.pointer (some ⟨p,0,none⟩)] 201)).alloc (.cells #[.int .u64 sum] 27)).alloc (.cells #[.func (.func gf) #[] lb] 279)).alloc (.cells #[.pointer none] 358)).alloc (.cells #[.int .i64 0] 3)).alloc (.cells #[.int .i64 0] 24)=W1 at HF ⊢;have hws:=HF.out.wb;generalize w.heap.size=b at HF ⊢;have z3:=HF.out.h3;have z4:=HF.out.h4;have zp:=HF.out.ix.box;obtain⟨z3_0,z3_f,z3_l,H_z3⟩:=cr1 z3;clear z3;obtain⟨z4_0,z4_f,z4_l,H_z4⟩:=cr1 z4;clear z4;obtain⟨zp_0,zp_1,zp_2,zp_f,zp_l,H_zp⟩:=cr3 zp;clear zp;have HG:=za HF.out.ix.ok.pow;have wg:IntKind.i64.wrap (Gs.length:Int)=Gs.length:=zt _ (by have:=HG.out.le;omega);have HPart:=za (fun W=>za9 sum W hsum);have HAll:=za (fun W=>za4 (sum/128) Gs.length W HG.out);obtain⟨part,hpart⟩:=zf (sum/128);rw[hpart]at HPart HAll
  go_region_held3 (fun w'=>w'.cell? ⟨b,0,none⟩=some (.pointer (some ⟨p,0,none⟩))∧w'.cell? ⟨b+1,0,none⟩=some (.int .u64 sum)∧w'.cell? ⟨p,0,none⟩=some (.slice (some ⟨B,0,none⟩) Gs.length c))
    (first | go_keep | exact⟨hp2.cell (fun h=>h) z3_0,hp2.cell (fun h=>h) z4_0,hp2.cell (fun h=>h) zp_0⟩)
    (first
      | (go_at_call 290;(with_reducible refine(HPart.out _).mono ?_);rintro e w' ⟨rfl,rfl⟩)
      | (go_at_call 289;(with_reducible refine(HAll.out _).mono ?_);rintro e w2 ⟨B1,B2,B3,rfl,hit,hp2,hB1,hB2,hB3⟩))
  have hpw:zc W1 w2:=hp2.of_drew;have hfo:XF w D p (.slice (some ⟨B,0,none⟩) Gs.length c) Gs sum gf lb f C J b B1 B2 B3 w2.heap.size [] w2:=by
    refine⟨HF.out.pure HS.out hpw,by rw[hpart];exact hit,by simp,zjR f,zI _⟩
  have hItlt : ∀ k,qN B1 B2 B3 k→k<w2.heap.size:=by
    exact Azwe9
  have hw2:w.heap.size≤w2.heap.size:=zH HF.out.pu.size hpw.size;have hpl:part<144115188075855872:=by omega
  have HO:=za hfo;clear z3_0 z3_f z3_l;clear z4_0 z4_f z4_l;clear zp_0 zp_1 zp_2 zp_f zp_l;clear H_z3 H_z4 H_zp HF hfo HPart HAll hp2 hpw hB1 hB2 hB3;go_wp2;refine vy.1 (XV (gf:=333) (lb:=#[.pointer (some ⟨B1,0,none⟩),.pointer (some ⟨B2,0,none⟩),.pointer (some ⟨B3,0,none⟩)]) rfl (enters_of func333 (by kernel_rfl) rfl) (It:=qN B1 B2 B3) (zbg hit HG.out hpl) hItlt (fun _=>rfl)
    (fun pre W=>XF w D p (.slice (some ⟨B,0,none⟩) Gs.length c) Gs sum gf lb f C J b B1 B2 B3 w2.heap.size pre W) (fun cd _ W=>zfC w D p (.slice (some ⟨B,0,none⟩) Gs.length c) Gs sum gf lb f C J b B cd W) ?hI ?hIx HO.out ?round ?done ?stop)
  case hI=>exact fun pre X Y h hq=>h.quiet HS.out hw2 hq
  case hIx =>
    rintro cd pre X Y (⟨e,h,hf⟩ | ⟨e,h⟩) hq
    · exact .inl ⟨e,h.quiet HS.out hw2 hq,hf⟩
    · exact .inr ⟨e,h.quiet HS.out hw2 hq⟩
  case done =>
    rintro l xs W hl hS hI hK;have hseen:xC Gs sum=vw Gs (sum%128) xs:=by
      have hS':xs=xS part Gs.length:=hS;unfold xC;rw[hpart,← hS'];exact zbl xs hI.bl
    have h1:=hI.fs;have h2:=hI.fl;rw[← hseen]at h1 h2;have z6:=h1.h6;have z7:=h1.h7;have z8:=h1.h8;have HE:=za (find_none (B:=B) HS.out hw2 h1 h2 hl hK rfl);clear hI hK h1 h2 hseen HO hit hItlt;obtain⟨z6_0,z6_f,z6_l,H_z6⟩:=cr1 z6;clear z6;obtain⟨z7_0,z7_f,z7_l,H_z7⟩:=cr1 z7;clear z7;obtain⟨z8_0,z8_f,z8_l,H_z8⟩:=cr1 z8;clear z8;exact Az87r
  case stop =>
    rintro l cd pre W hl hI hK;rcases hI with⟨rfl,h1,h2⟩ | ⟨rfl,h1⟩
    · have z6:=h1.h6;have z7:=h1.h7;have z8:=h1.h8
      have HE:=za (find_none (B:=B) HS.out hw2 h1 h2 hl hK rfl);clear hK h1 h2 HO hit hItlt;obtain⟨z6_0,z6_f,z6_l,H_z6⟩:=cr1 z6;clear z6;obtain⟨z7_0,z7_f,z7_l,H_z7⟩:=cr1 z7;clear z7;obtain⟨z8_0,z8_f,z8_l,H_z8⟩:=cr1 z8;clear z8;refine vy.2 ?_;exact Az87r
    · have h1':=h1.quiet HS.out hw2 (zB.putObj (.deferred none) hl hK rfl)
      obtain⟨a,x,post,q1,q2,q3,q4,q5,q6⟩:=h1';have y6:=zi _ _ 0 _ _ _ q6.h6;have y7:=zi _ _ 0 _ _ _ q6.h7;have y8:=zi _ _ 0 _ _ _ q6.h8;simp at y6 y7 y8;refine vy.2 ?_;go_wp2;exact jy (v := .tuple #[.pointer (some ⟨B,x.1*9,none⟩),.int .i64 x.2,.int .i64 0]) hK (by simp[results,results241,go_sem,y6,y7,y8]) ⟨B,c,rfl,q6.pu,q6.ix,.inl ⟨a,x,post,q1,q2,q3,q4,q5,rfl,q6.j⟩⟩
  case round =>
    rintro l pre i W K hI hG hK;obtain⟨post,hpost⟩:=hG;have hil:i<Gs.length:=by
      exact Azazb
    dsimp only[qE];have HI:=za hI;have HK:=za hK;have HPO:=za hpost;clear hI hK HO hit hpost;gi_wp2;refine HK.out _ _ (Mod.refl _ _) (fun l' W2 hl hr hq => ?_);obtain⟨r0,hr⟩:=hr;replace HI:=za (HI.out.quiet HS.out hw2 hq);clear HK hq W;have z3:=HI.out.fs.h3;have zp:=HI.out.fs.ix.box;obtain⟨z3_0,z3_f,z3_l,H_z3⟩:=cr1 z3;clear z3;obtain⟨zp_0,zp_1,zp_2,zp_f,zp_l,H_zp⟩:=cr3 zp;clear zp;have hi0:(0:Int)≤i:=by omega
    have hi1:(i:Int)<Gs.length:=by omega
    have hgl:=HG.out.le;gi_upto_region 5 with fail
    have hp3:zc W2 (W2.alloc (.cells #[.pointer (some ⟨B,i*9,none⟩)] 358)):=(Mod.refl _ W2).alloc _;have z12:=zj (w:=W2) (o := .cells #[.pointer (some ⟨B,i*9,none⟩)] 358 (0,0)) rfl;have hb12:w2.heap.size≤W2.heap.size:=HI.out.sz;have HI3:=za (HI.out.fs.pure HS.out hp3);have HK3:=za hp3;clear z3_0 z3_f z3_l;clear zp_0 zp_1 zp_2 zp_f zp_l;clear H_z3 H_zp hp3;generalize W2.alloc (.cells #[.pointer (some ⟨B,i*9,none⟩)] 358)=W3 at *;generalize W2.heap.size=b12 at *;have z4:=HI3.out.h4;obtain⟨B',c',hsv,_,hB',_,hBf',hcells'⟩:=HI3.out.ix.at
    cases hsv
    have zg:=(hcells' i hil).1;have ztag:=za (fun W=>zcW sum W hsum);have HGP:=za (HG.out);have hgo:=za (HI3.out.ix.ok.at hil);have zmt:=za (fun W=>zj9 hgo.out.ctl.bytes (sum%128) W (vp _ (by omega)));have zml:zJ ((zn Gs i).1.map (· == sum%128))<256:=jp (by rw[yn];exact hgo.out.ctl.1);have zla:=za (fun W=>zb5 (zJ ((zn Gs i).1.map (· == sum%128))) W);have HC3:=za hcells';clear hcells';have hseen:k9 (zn Gs i) (sum%128)=vF (zJ ((zn Gs i).1.map (· == sum%128))):=rfl;generalize zJ ((zn Gs i).1.map (· == sum%128))=m at *;obtain⟨tag,htg⟩:=zf (sum%128);rw[htg]at ztag zmt hseen;obtain⟨z12_0,z12_f,z12_l,H_z12⟩:=cr1 z12;clear z12;obtain⟨z4_0,z4_f,z4_l,H_z4⟩:=cr1 z4;clear z4
    gi_cut [40]from 33 (fun v40 wc => ∃ BL,v40=.func (.func 335) #[] #[.pointer (some ⟨BL,0,none⟩)]∧qs wc BL m∧zc W3 wc∧W3.heap.size≤BL)
    case first =>
      rename_i Jc Kc hJc hKc
      gi_region_with (first
        | (gi_at_call 293;refine ki (CallsIn.inRound l' (yB.2 (ztag.out _))) ?_;rintro e w' ⟨rfl,rfl⟩)
        | (gi_at_call 292;refine ki (CallsIn.inRound l' (yB.2 (zmt.out _))) ?_;rintro e w' ⟨rfl,rfl⟩)
        | (gi_at_call 291;refine ki (CallsIn.inRound l' (yB.2 (zla.out _))) ?_;rintro e w4 ⟨BL,rfl,hla,hp4,hBL⟩))
      all_goals
        gi_wp2_with fail
        refine Met.intro (hJc _ _ ?_)
        repeat apply Exists.intro
        refine⟨?_,rfl⟩;exact⟨BL,rfl,hla,(by first | exact hp4 | exact Mod.of_drew hp4),hBL⟩
    case rest =>
      obtain⟨BL,rfl,hla,hp4,hBL⟩:=hcut;have hp24:zc W2 wc:=HK3.out.trans hp4;have hwc:W2.heap.size≤wc.heap.size:=hp24.size;have hin:FIn w D p (.slice (some ⟨B,0,none⟩) Gs.length c) Gs sum gf lb f C J b B1 B2 B3 BL B m w2.heap.size b12 i W2 pre [] wc:=by
        refine⟨?_,?_,hla,hp4.heap (fun h=>h) H_z12.out,?_,?_,hwc⟩
        · rw[List.map_nil,jb];exact HI3.out.pure HS.out hp4
        · exact HI.out.it.keeps (xk.of_pure hp24)
        · rw[List.map_nil,jb];exact HI.out.fl
        · exact(xj.of_pure (C:=fun _=>False) hp24).rec _
      have hl0:=hp24.heap (fun h=>h) hr;have HIN:=za hin;have HSE:=za hseen;have HLA:=za hla;have hBlt:BL<wc.heap.size:=zm hla.set;have hww:w.heap.size≤wc.heap.size:=by omega
      clear hin hseen hla;gi_wp2;refine zj2 hl0 (gf:=335) (lb:=#[.pointer (some ⟨BL,0,none⟩)]) rfl (enters_of func335 (by kernel_rfl) rfl) (It:=fun k=>k=BL) (zcB HLA.out zml) (fun k hk=>by rw[hk];exact hBlt) (fun _=>rfl)
        (fun pre' W=>FIn w D p (.slice (some ⟨B,0,none⟩) Gs.length c) Gs sum gf lb f C J b B1 B2 B3 BL B m w2.heap.size b12 i W2 pre pre' W) (fun cd _ W=>cd=.ret∧XB w D p (.slice (some ⟨B,0,none⟩) Gs.length c) Gs sum f C J b B W∧xl w2.heap.size W2 W) ?hI2 ?hIx2 HIN.out ?round2 ?done2 ?stop2
      case hI2=>exact fun pre' X Y h hq=>h.quiet HS.out hww hwc hq
      case hIx2 =>
        rintro cd pre' X Y ⟨e,h,hk⟩ hq;exact⟨e,h.quiet HS.out hww hq,hk.quiet hq hwc⟩
      case stop2 =>
        rintro cd pre' W ⟨rfl,h,hk⟩;gi_wp2;exact⟨hk,.inr ⟨rfl,h⟩⟩
      case done2 =>
        rintro xs W hS hI2;have hxs:xs=k9 (zn Gs i) (sum%128):=by rw[htg,HSE.out];exact hS
        have z12:=hI2.bx;obtain⟨B',c',hsv,_,hB',_,hBf',hcells'⟩:=hI2.fs.ix.at
        cases hsv
        have zg:=(hcells' i hil).1;have ze:=za (fun W=>XP hgo.out.ctl.bytes W);have hmz:=Je (p:=(zn Gs i).1.map (· == 128)) (by rw[yn];exact hgo.out.ctl.1);rw[show((zn Gs i).1.map (· == 128)).any id=vS (zn Gs i) by unfold vS;simp[List.any_map]]at hmz;have HI2:=za hI2;clear hcells' hI2;generalize zJ ((zn Gs i).1.map (· == 128))=mz at *;obtain⟨z12_0,z12_f,z12_l,H_z12⟩:=cr1 z12;clear z12;have hkI:xk (qN B1 B2 B3) W2 W:=HI.out.it.keepsIt HI2.out.it HI2.out.sz
        cases hbl:vS (zn Gs i)with
        | true =>
          rw[hbl]at hmz;have hm0:mz≠0:=by simpa using hmz
          have hm1:((mz:Int) != 0)=true:=by simp[hm0]
          have hm2:((mz:Int)==0)=false:=by simp[hm0]
          gi_wp2_with (gi_at_call 277;refine ki (CallsIn.inRound l' (yB.2 (ze.out _))) ?_;rintro e w' ⟨rfl,rfl⟩)
          have hsn:xC Gs sum=vw Gs (sum%128) pre++xs.map (fun j=>(i,j)):=by
            unfold xC;rw[hpart,HPO.out,Ui pre i post HI.out.bl,hbl,zk rfl,jb,hxs]
            rfl
          refine⟨HI2.out.rc,.inl ⟨rfl,?_,?_⟩⟩
          · rw[hsn];exact HI2.out.fs
          · rw[hsn];exact HI2.out.fl
        | false =>
          rw[hbl]at hmz;have hm0:mz=0:=by simpa using hmz
          subst hm0
          gi_wp2_with (gi_at_call 277;refine ki (CallsIn.inRound l' (yB.2 (ze.out _))) ?_;rintro e w' ⟨rfl,rfl⟩)
          have hsp:vw Gs (sum%128) (pre++[i])=vw Gs (sum%128) pre++xs.map (fun j=>(i,j)):=by
            unfold vw;rw[ZL,hxs];simp
          refine⟨HI2.out.rc,hkI,⟨?_,HI2.out.it,?_,?_,zH HI.out.sz HI2.out.sz⟩⟩
          · rw[hsp];exact HI2.out.fs
          · intro k hk
            rcases yz.1 hk with hk | hk
            · exact HI.out.bl k hk
            · have:k=i:=by simpa using hk
              rw[this];exact hbl
          · rw[hsp];exact HI2.out.fl
      case round2 =>
        rintro l2 pre' j W K2 hI2 hG2 hK2;obtain⟨post',hpost'⟩:=hG2;have hj8:j<8:=by
          have:j∈vF m:=by rw[hpost'];simp
          exact ZZ.1 (qT.1 this).1
        dsimp only[qE];have HI2:=za hI2;have HK2:=za hK2;have HPO2:=za hpost';clear hI2 hK2 hpost';gi_wp2;refine HK2.out _ _ (Mod.refl _ _) (fun l3 W5 hl5 hr5 hq5 => ?_);replace HI2:=za (HI2.out.quiet HS.out hww hwc hq5);clear HK2 hq5 W hr5;have z5:=HI2.out.fs.h5;have z12:=HI2.out.bx;obtain⟨B',c',hsv,_,hB',_,hBf',hcells'⟩:=HI2.out.fs.ix.at
        cases hsv
        have zs:=(hcells' i hil).2 j hj8;rw[show i*9+(j+1)=i*9+1+j by omega]at zs;have hsl:(zn Gs i).2.getD j 0=zT Gs (i,j):=rfl;rw[hsl]at zs;obtain⟨s,hss⟩:=zf (zT Gs (i,j));have hs32:zT Gs (i,j)≤4294967295:=hgo.out.slot j;have heg:=HS.out.enters;obtain⟨jl,hjl⟩:=zf ((vw Gs (sum%128) pre++pre'.map (fun j=>(i,j))).map (zT Gs));have hcall:=za (fun W hJ=>HS.out.call jl (zT Gs (i,j)) W hs32 hJ);have hkeep:=za (fun W hm=>HS.out.keep jl W5 W (hjl ▸ HI2.out.fs.j) hm);clear hcells' hsl;rw[hss]at zs hs32 hcall;have hsl:=hss;have hs0:(0:Int)≤s:=by omega
        have hs1:(s:Int)≤4294967295:=by omega
        have hj0:(0:Int)≤j:=by omega
        have hj1:(j:Int)<8:=by omega
        obtain⟨z5_0,z5_f,z5_l,H_z5⟩:=cr1 z5;clear z5;obtain⟨z12_0,z12_f,z12_l,H_z12⟩:=cr1 z12;clear z12;gi_upto_region 7 with fail
        gi_cut [49]from 42 (fun v49 wc5=>v49=.bool (f jl s)∧J (jl++[s]) wc5∧xj C W5 wc5)
        case first =>
          rename_i qa ka ha qb kb hb u1 u2 u3 u4 v1 v2 v3 v4 u5 u6 qc kc hc Jc Kc hJc hKc;generalize Exit.inBlock 3 qc=QQ;clear ha hb hc
          gi_region_with (refine ki (CallsIn.inRound l3 (hcall.out _ ?_)) ?_;exact hkeep.out _ (by exact UW);rintro e w6 ⟨rfl,hj6,hm6⟩)
          all_goals
            gi_wp2_with fail
            refine Met.intro (hJc _ _ ?_)
            repeat apply Exists.intro
            refine⟨?_,rfl⟩;exact⟨rfl,hj6,(by first | exact hm6 | exact Mod.of_drew hm6)⟩
        case rest =>
          obtain⟨rfl,hj6,hm6⟩:=hcut;obtain⟨k1,k2,k3,k4,k5,k6,k7⟩:=HI2.out.back (j:=j) HS.out hsl hm6 (hjl ▸ hj6);have hsn:k9 (zn Gs i) (sum%128)=pre'++j::post':=by rw[htg,HSE.out,HPO2.out]
          have HSN:=za hsn;have HM6:=za hm6;have HK3':=za k3;have HK2':=za k2;have HK6:=za k6;have HK1:=za k1;have HK5:=za k5;have z6:=k1.h6;have z7:=k1.h7;have z8:=k1.h8;have HFL:=za HI2.out.fl;clear z5_0 z5_f z5_l;clear z12_0 z12_f z12_l;clear H_z5 H_z12 hsn hm6 k3 k2 k6 k1 k5 hj6;rw[hjl]at HK5 HFL
          cases hb:f jl s with
          | true =>
            obtain⟨k4_0,k4_f,k4_l,H_k4⟩:=cr1 k4;clear k4;obtain⟨z6_0,z6_f,z6_l,H_z6⟩:=cr1 z6;clear z6;obtain⟨z7_0,z7_f,z7_l,H_z7⟩:=cr1 z7;clear z7;obtain⟨z8_0,z8_f,z8_l,H_z8⟩:=cr1 z8;clear z8;gi_wp2;obtain⟨hst,hmst⟩:=HK1.out.store HS.out (.pointer (some ⟨B,i*9,none⟩)) (.int .i64 j) (.int .i64 0);have krec : ∀ M,xl M wc (((wc.setCell ⟨b+1+1+1,0,none⟩ (.pointer (some ⟨B,i*9,none⟩))).setCell ⟨b+1+1+1+1,0,none⟩ (.int .i64 j)).setCell ⟨b+1+1+1+1+1,0,none⟩ (.int .i64 0)):=fun M =>
              xl.of_mod hmst (fun k _ hk o ho=>by
                rcases hk with rfl | rfl | rfl
                · rw[H_z6.out]at ho;cases ho;rfl
                · rw[H_z7.out]at ho;cases ho;rfl
                · rw[H_z8.out]at ho;cases ho;rfl)
            refine⟨(HM6.out.rec _).trans (krec _),rfl,⟨vw Gs (sum%128) pre++pre'.map (fun j=>(i,j)),(i,j),post'.map (fun j=>(i,j))++(if vS (zn Gs i)then[]else jk Gs (sum%128) post),?_,?_,?_,hil,hj8,?_⟩,HK6.out.trans (krec _)⟩
            · unfold xC
              rw[hpart,HPO.out,Ui pre i post HI.out.bl,HSN.out];unfold vw;simp
            · rw[hjl];exact HFL.out
            · rw[hjl,hsl];exact hb
            · have e:vw Gs (sum%128) pre++(pre'++[j]).map (fun j=>(i,j))=(vw Gs (sum%128) pre++pre'.map (fun j=>(i,j)))++[(i,j)]:=by simp
              rw[e]at hst;exact hst
          | false =>
            gi_wp2;refine⟨HM6.out.rec _,?_,⟨HK1.out,HK2'.out,HK3'.out,k4,HK5.out hb,HK6.out,k7⟩⟩;refine⟨HM6.out.size,?_⟩;rintro k rfl _;rw[HK3'.out.set,HI2.out.la.set]
end
section
open Go.RowKit Go.Shelf
variable{Fo:Nat→Prop}
attribute [local go_sem] Oper.semAt_some
def jt:Nat→List (Option Ent)→List (Nat × Ent)
 | _,[]=>[]
 | i,none::L=>jt (i+1) L
 | i,some e::L=>(i,e)::jt (i+1) L
def live(L:List (Option Ent)):List (Nat × Ent):=jt 0 L
theorem zk6(L:List (Option Ent)) : ∀ i,(jt i L).length≤L.length:=by
 induction L with
 | nil=>intro i;simp[jt]
 | cons o L ih=>intro i;cases o<;>simp[jt]<;>have:=ih (i+1)<;>omega
theorem zf6(L:List (Option Ent)):(live L).length≤L.length:=zk6 L 0
theorem zc3{L:List (Option Ent)} : ∀ {i:Nat} {g:Nat × Ent},g∈jt i L→i≤g.1∧L[g.1-i]? = some (some g.2):=by
 induction L with
 | nil=>intro i g h;cases h
 | cons o L ih =>
  intro i g h
  cases o with
  | none =>
   obtain⟨h1,h2⟩:=ih (i:=i+1) h;refine⟨by omega,?_⟩;rw[show g.1-i=(g.1-(i+1))+1 by omega];simpa using h2
  | some e =>
   rcases zO.1 h with rfl | h
   ·simp
   ·obtain⟨h1,h2⟩:=ih (i:=i+1) h;refine⟨by omega,?_⟩;rw[show g.1-i=(g.1-(i+1))+1 by omega];simpa using h2
theorem zeE{L:List (Option Ent)}{g:Nat × Ent}(h:g∈live L):L[g.1]? = some (some g.2):=by simpa using(zc3 h).2
abbrev xJ:=Nat × Ent × Value
def uJ(g:xJ):Nat × Ent:=(g.1,g.2.1)
def Vr(N:Nat)(L:List (Option Ent))(pre:List xJ)(x:xJ)(W:World):Prop :=
 (∃ post,live L=pre.map uJ++uJ x::post)∧yq W x.2.2 (zQ x.2.1.val) ∧ ∀ k,x.2.2.ownBlock=some k→N≤k
def zhg(B:Nat)(sv:Value)(M:List (Option Ent × Value))(k:Nat):Prop:=k=B∨sv.ownBlock=some k ∨ ∃ e v,(some e,v)∈M∧v.ownBlock=some k
structure Ys(w:World)(B:Nat)(sv:Value)(M:List (Option Ent × Value)):Prop where
 box:w.heap[B]? = some (.cells #[sv] 161 (0,0))
 row:w.ownsRow 0 141 4 sv M.length (M.flatMap xn)
 vals : ∀ e v,(some e,v)∈M→yq w v (zQ e.val)
 ok:Vk (M.map Prod.fst)
theorem Ys.keeps{w w':World}{B:Nat}{sv:Value}{M:List (Option Ent × Value)}(h:Ys w B sv M)(hk:xk (zhg B sv M) w w'):Ys w' B sv M:=by
 refine⟨?_,?_,fun e v hm => ?_,h.ok⟩
 ·exact(hk.2 B (.inl rfl) (zm h.box)).trans h.box
 ·exact KI h.row (fun g hg hlt=>hk.2 g (.inr (.inl hg)) hlt)
 ·exact KI (h.vals e v hm) (fun g hg hlt=>hk.2 g (.inr (.inr ⟨e,v,hm,hg⟩)) hlt)
theorem Ys.slot{w:World}{B:Nat}{sv:Value}{M:List (Option Ent × Value)}(h:Ys w B sv M){i:Nat}{m:Option Ent × Value}(hi:M[i]? = some m) :
  ∃ g c,sv=.slice (some ⟨g,0,none⟩) M.length c∧g<w.heap.size∧(∀ j u,(xn m)[j]? = some u→w.cell? ⟨g,i*4+j,none⟩=some u):=by
 have hlt:i<M.length:=(zE.1 hi).1;obtain⟨g,c,rfl,_,hg,hc,hf,_⟩:=uO h.row (by omega);refine⟨g,c,rfl,hg,fun j u hu=>hc _ _ ?_⟩;have hj:j<4:=by rw[← Zm m];exact(zE.1 hu).1
 rw[uW xn 4 Zm j hj,hi];exact hu
theorem zU.quiet{N:Nat}{A B:World}{D:Nat→Prop}{p:Nat}{sv:Value}{M:List (Option Ent × Value)}(h:zU Fo A D p sv M)(hq:zB N A B):zU Fo B D p sv M :=
 ⟨hq.cells h.box,hq.owns h.row,fun e v hv=>hq.owns (h.vals e v hv),h.dd,h.ok,h.off,fun k hk=>ve (h.flt k hk) (Mod.size hq)⟩
theorem Vr.quiet{N N':Nat}{L:List (Option Ent)}{pre:List xJ}{x:xJ}{A B:World}(h:Vr N L pre x A)(hq:zB N' A B):Vr N L pre x B:=⟨h.1,hq.owns h.2.1,h.2.2⟩
end
section
open Go.RowKit Go.Shelf
variable{Fo:Nat→Prop}
abbrev Zc(p:Nat):Value := .pointer (some ⟨p,0,none⟩)
abbrev Ky(x:Ent)(v:Value):Value := .agg #[.string x.key,v,.int .u64 x.dl,.int .u64 x.birth]
theorem zU.toAt{w:World}{D:Nat→Prop}{p:Nat}{sv:Value}{M:List (Option Ent × Value)}(h:zU Fo w D p sv M):yg Fo w D p (M.map Prod.fst):=⟨sv,M,rfl,h⟩
theorem yg.pure{w w':World}{D:Nat→Prop}{p:Nat}{L:List (Option Ent)}(h:yg Fo w D p L)(hm:zc w w'):yg Fo w' D p L:=by
 obtain⟨sv,M,rfl,h⟩:=h;exact(h.pure hm).toAt
theorem yg.lt{w:World}{D:Nat→Prop}{p:Nat}{L:List (Option Ent)}(h:yg Fo w D p L){k:Nat}(hk:D k):k<w.heap.size:=by
 obtain⟨sv,M,rfl,h⟩:=h;exact h.lt hk
theorem yg.ok{w:World}{D:Nat→Prop}{p:Nat}{L:List (Option Ent)}(h:yg Fo w D p L):Vk L:=by
 obtain⟨sv,M,rfl,h⟩:=h;exact h.ok
theorem yg.types{w:World}{D:Nat→Prop}{p:Nat}{L:List (Option Ent)}(h:yg Fo w D p L){k:Nat}(hk:D k){cs:Array Value}{T:TypeId}{fz:Nat × Nat}(e:w.heap[k]? = some (.cells cs T fz)):T=356∨T=141:=by
 obtain⟨sv,M,rfl,h⟩:=h;rcases(h.dd k).1 hk with rfl | e'
 ·rw[h.box]at e;cases e;exact .inl rfl
 ·obtain⟨c,e2⟩:=yc h.row e';rw[e2]at e;cases e;exact .inr rfl
theorem yg.frame{w w':World}{D S:Nat→Prop}{p:Nat}{L:List (Option Ent)}(h:yg Fo w D p L)(hm:Mod S w w')(hD : ∀ k,D k → ¬ S k)(hS : ∀ k,k<w.heap.size→S k → ∀ cs fz,w.heap[k]? ≠ some (.cells cs 5 fz)):yg Fo w' D p L:=by
 obtain⟨sv,M,rfl,h⟩:=h;exact(h.frame hm hD hS).toAt
theorem yg.flt{w:World}{D:Nat→Prop}{p:Nat}{L:List (Option Ent)}(h:yg Fo w D p L) : ∀ k,Fo k→k<w.heap.size:=by
 obtain⟨sv,M,rfl,h⟩:=h;exact h.flt
theorem yg.frameF{w w':World}{D S:Nat→Prop}{p:Nat}{L:List (Option Ent)}(h:yg Fo w D p L)(hm:Mod S w w')(hD : ∀ k,D k → ¬ S k)(hS : ∀ k,k<w.heap.size→S k→Fo k ∨ ∀ cs fz,w.heap[k]? ≠ some (.cells cs 5 fz)):yg Fo w' D p L:=by
 obtain⟨sv,M,rfl,h⟩:=h;exact(h.frameF hm hD hS).toAt
theorem yg.refo{w w':World}{Fo' D:Nat→Prop}{p:Nat}{L:List (Option Ent)}(h:yg Fo w D p L)(hm:zc w w')(h1 : ∀ k,Fo' k→Fo k∨w.heap.size≤k)(h2 : ∀ k,Fo' k→k<w'.heap.size):yg Fo' w' D p L:=by
 obtain⟨sv,M,rfl,h⟩:=h;exact(h.refo hm h1 h2).toAt
theorem yg.beside{w w':World}{D S:Nat→Prop}{p q:Nat}{L K:List (Option Ent)}(h:yg Fo w D p L)(k:yg Fo w S q K)(hm:Mod S w w')(hD : ∀ k,D k → ¬ S k):yg Fo w' D p L :=
 h.frame hm hD (fun i _ hi cs fz e=>by rcases k.types hi e with e | e<;>cases e)
theorem yg.owns{w w':World}{S:Nat→Prop}{q:Nat}{K:List (Option Ent)}(h:yg Fo w S q K)(hm:Mod S w w'){T k n:Nat}{v:Value}{xs:List Value}(ho:w.ownsRow 0 T k v n xs)(h1:T≠356)(h2:T≠141):w'.ownsRow 0 T k v n xs :=
 zy ho hm (fun g hg hs=>by
  obtain⟨c,e⟩:=yc ho hg;rcases h.types hs e with e | e
  ·exact h1 e
  ·exact h2 e)
theorem yg.box{w w':World}{S:Nat→Prop}{q:Nat}{K:List (Option Ent)}(h:yg Fo w S q K)(hm:Mod S w w'){b:Nat}{cs:Array Value}{T:TypeId}{fz:Nat × Nat}(hb:w.heap[b]? = some (.cells cs T fz))(h1:T≠356)(h2:T≠141):w'.heap[b]? = some (.cells cs T fz) :=
 hm.heap (fun hs=>by rcases h.types hs hb with e | e;exact h1 e;exact h2 e) hb
def zet(Fo:Nat→Prop)(w:World)(e:Ending)(w':World):Prop:=e=.returned (Zc w.heap.size)∧yg Fo w' (fun k=>k=w.heap.size) w.heap.size []∧zc w w'∧w.heap.size<w'.heap.size
theorem zjV(w:World)(hFo : ∀ k,Fo k→k<w.heap.size):Calls prog 171 #[] w (zet Fo w):=by
 refine zq (ziF w) ?_;rintro e w' ⟨rfl,rfl⟩;exact⟨rfl,(zd0 (fun k hk=>by have:=hFo k hk;simp;omega) (zj rfl)).toAt,(Mod.refl _ _).alloc _,by simp⟩
def zbq(Fo:Nat→Prop)(w:World)(D:Nat→Prop)(p:Nat)(L:List (Option Ent))(x:Ent)(e:Ending)(w':World):Prop :=
 e=.returned (.tuple #[.int .u32 L.length,.int .i64 0]) ∧ ∃ D',yg Fo w' D' p (L++[some x])∧Mod D w w'∧uc D D' w
theorem zhQ{w:World}{D:Nat→Prop}{p:Nat}{L:List (Option Ent)}(h:yg Fo w D p L)(hL:L.length<4194304)(x:Ent)(hok:x.Ok)(a:Option Addr)(n c:Nat)(hx:zo w (.slice a n c) 1 (zQ x.val)) :
  Calls prog 196 #[Zc p,Ky x (.slice a n c)] w (zbq Fo w D p L x):=by
 obtain⟨sv,M,rfl,h⟩:=h;rw[yn]at hL;refine zq (ziO h hL x hok a n c hx) ?_;rintro e w' ⟨rfl,D',sv',v',h1,h2,h3⟩;refine⟨by rw[yn],D',?_,h2,h3⟩;have:=h1.toAt;rw[vh]at this;exact this
def zf1(Fo:Nat→Prop)(w:World)(D:Nat→Prop)(p i:Nat)(L:List (Option Ent))(x:Ent)(e:Ending)(w':World):Prop :=
 ∃ a n c,e=.returned (.tuple #[Ky x (.slice a n c),.int .i64 0])∧yq w' (.slice a n c) (zQ x.val)∧vf w (.slice a n c)∧yg Fo w' D p (L.set i none)∧Mod D w w'
theorem zju{w:World}{D:Nat→Prop}{p:Nat}{L:List (Option Ent)}(h:yg Fo w D p L)(i:Nat)(x:Ent)(hi:L[i]? = some (some x)) :
  Calls prog 216 #[Zc p,.int .u32 i] w (zf1 Fo w D p i L x):=by
 obtain⟨sv,M,rfl,h⟩:=h;rw[yC]at hi
 cases hm:M[i]? with
 | none=>rw[hm]at hi;cases hi
 | some m =>
  obtain⟨o,v⟩:=m;rw[hm]at hi
  cases hi
  refine zq (ziu h hm) ?_;rintro e w' ⟨a,n,c,rfl,h1,h2,h3,h4⟩;refine⟨a,n,c,rfl,h1,h2,?_,h4⟩;have:=h3.toAt;rw[YM]at this;exact this
theorem zct{w:World}{D:Nat→Prop}{p:Nat}{L:List (Option Ent)}(h:yg Fo w D p L):Calls prog 205 #[Zc p] w fun e w'=>e=.returned (.int .i64 L.length)∧w=w':=by
 obtain⟨sv,M,rfl,h⟩:=h;rw[yn];exact zjj h
theorem zf7{w:World}{D:Nat→Prop}{p:Nat}{L:List (Option Ent)}(h:yg Fo w D p L):Calls prog 173 #[Zc p] w fun e w'=>e=.returned (.int .i64 (zZ L))∧w=w':=by
 obtain⟨sv,M,rfl,h⟩:=h;exact zfo h
def yI(L:List (Option Ent))(s:Nat):ByteArray:=match L[s]? with
 | some (some e)=>e.key
 | _=>⟨#[]⟩
def Un(L:List (Option Ent))(s:Nat):Bool:=match L[s]? with
 | some (some _)=>true
 | _=>false
def noL(L:List (Option Ent))(s:Nat):Int:=if Un L s then 0 else 9
theorem zcr{w:World}{D:Nat→Prop}{p:Nat}{L:List (Option Ent)}(h:yg Fo w D p L)(i:Nat)(hu:i≤4294967295) :
  Calls prog 213 #[Zc p,.int .u32 i] w fun e w'=>e=.returned (.tuple #[.string (yI L i),.int .i64 (noL L i)])∧w=w':=by
 obtain⟨sv,M,rfl,h⟩:=h
 cases hi:Zi M i with
 | none =>
  have HA:=za (h.miss hu hi);have e1:yI (M.map Prod.fst) i=⟨#[]⟩∧noL (M.map Prod.fst) i=9:=by
   unfold noL Un yI;unfold Zi at hi;rw[yC]
   cases hm:M[i]? with
   | none=>simp
   | some m =>
    obtain⟨o,v⟩:=m;rw[hm]at hi;have:o=none:=by simpa using hi
    subst this;simp
  rw[e1.1,e1.2];clear e1 hi h;go_enter func213,ntmps213
  go_wp2_with (go_at_call 178;refine(HA.out _ (Mod.refl _ _)).mono ?_;rintro e w' ⟨rfl,rfl⟩)
  go_ret2;exact⟨rfl,rfl⟩
 | some x =>
  obtain⟨v,hm⟩ : ∃ v,M[i]? = some (some x,v):=by
   unfold Zi at hi
   cases hm:M[i]? with
   | none=>rw[hm]at hi;cases hi
   | some m =>
    obtain⟨o,v⟩:=m;rw[hm]at hi;have:o=some x:=by simpa using hi
    subst this;exact⟨v,rfl⟩
  have e1:yI (M.map Prod.fst) i=x.key∧noL (M.map Prod.fst) i=0:=by
   unfold noL Un yI;rw[yC,hm];simp
  rw[e1.1,e1.2];clear e1 hi;obtain⟨g,c,rfl,hg,ng,hlt,hn,hc,hf⟩:=h.slot hm;obtain⟨c0,c1,c2,cf⟩:=h.cells;have hok:=h.ok.ent x (zz.2 ⟨_,yl hm,rfl⟩);have hb:(x.birth==0)=false:=by have:=hok.b0;simp;omega
  have s0:w.cell? ⟨g,i*4,none⟩=_:=hc 0 _ rfl;have s3:=hc 3 _ rfl;clear h hc hok;go_enter func213,ntmps213
  go_wp2_with (go_at_call 178;refine zq (Uy p g _ c i x.birth _ c0 c1 hlt hn s3 hb) ?_;rintro e w' ⟨rfl,rfl⟩)
  go_ret2;exact⟨rfl,rfl⟩
def JK(w:World)(L:List (Option Ent))(i:Nat)(e:Ending)(w':World):Prop :=
 match L[i]? with
 | some (some x) => ∃ a n c,e=.returned (.tuple #[.agg #[.string x.key,.slice a n c,.int .u64 x.dl,.int .u64 x.birth],.int .i64 0])∧yq w' (.slice a n c) (zQ x.val)∧vf w (.slice a n c)∧zc w w'
 | _=>e=.returned (.tuple #[.agg #[.string ⟨#[]⟩,.slice none 0 0,.int .u64 0,.int .u64 0],.int .i64 9])∧zc w w'
theorem zi0{w:World}{D:Nat→Prop}{p:Nat}{L:List (Option Ent)}(h:yg Fo w D p L)(i:Nat)(hu:i≤4294967295) :
  Calls prog 113 #[Zc p,.int .u32 i] w (JK w L i):=by
 obtain⟨sv,M,rfl,h⟩:=h;unfold JK;rw[yC]
 cases hm:M[i]? with
 | none =>
  refine zq (zbw h hu (by unfold Zi;rw[hm];rfl)) ?_;intro e w' he;exact he
 | some m =>
  obtain⟨o,v⟩:=m
  cases o with
  | none =>
   refine zq (zbw h hu (by unfold Zi;rw[hm];rfl)) ?_;intro e w' he;exact he
  | some x=>exact zkS h hm
def zga(w:World)(L:List (Option Ent))(e:Ending)(w':World):Prop :=
 ∃ M B a c,M.map Prod.fst=L∧e=.returned (.func (.func 331) #[] #[.pointer (some ⟨B,0,none⟩)])∧Ys w' B (.slice a M.length c) M∧zc w w'∧w.heap.size≤B∧vf w (.slice a M.length c)
end
section
open Go.RowKit Go.Maps
def nD(x:Td):DataW Unit := .lit (.int .u32 x.slot)
def Zg(v:Value):Option (DataW Unit × List MemPlace):=match v with
 | .int .u32 a=>if 0≤a then some (.lit (.int .u32 a),[])else none
 | _=>none
theorem VQ(s:Nat):Zg (.int .u32 s)=some (.lit (.int .u32 s),[]):=by
 unfold Zg;simp
theorem Azlqe {P:Prop}(h:P:=by
 split at h
 ·rename_i a;split at h
  ·rename_i hp;injection h with h
   exact⟨a.toNat,by rw[Yx hp],by rw[← h,Yx hp]⟩
  ·cases h
 ·cases h):P:=h
theorem zcg{v:Value}{z:DataW Unit × List MemPlace}(h:Zg v=some z) : ∃ s:Nat,v=.int .u32 s∧z=(.lit (.int .u32 s),[]):=by
 unfold Zg at h;exact Azlqe
theorem zaN{a b:Nat}(h:(DataW.lit (.int .u32 a):DataW Unit)=.lit (.int .u32 b)):a=b:=by
 injection h with h;injection h with _ h;exact kH.1 h
structure xR(w:World)(b:Nat)(M:List Td)(D:DataW Unit):Prop where
 own:w.ownsMap prog 27 Zg b M.length D
 at_ : ∀ x∈M,∀ zd,D.atKey (kB x.birth) zd=nD x
 has : ∀ s,Maps.has D (kB s)=true → ∃ x∈M,x.birth=s
 size:Maps.size D=M.length
section
variable{w w':World}{b:Nat}{M:List Td}{D:DataW Unit}{S:Nat→Prop}
theorem xR.mod(h:xR w b M D)(hm:Mod S w w')(hb : ¬ S b):xR w' b M D:=⟨Yr h.own hm hb,h.at_,h.has,h.size⟩
theorem xR.new(w:World):xR (w.alloc (.map #[] 0)) w.heap.size [] (.map []):=⟨YZ _ _ _ _,(fun _ h=>by cases h),(fun s h=>by cases h),rfl⟩
theorem xR.has_mem(h:xR w b M D){x:Td}(hx:x∈M):Maps.has D (kB x.birth)=true:=Maps.has_true_of_atKey (h.at_ x hx)
theorem xR.not_has(h:xR w b M D){s:Nat}(hs : ∀ x∈M,x.birth≠s):Maps.has D (kB s)=false:=by
 cases hh:Maps.has D (kB s)with
 | false=>rfl
 | true=>obtain⟨x,hx,e⟩:=h.has s hh;exact absurd e (hs x hx)
theorem Uu(w:World):(zeroValue 143).run prog w=.ok (.int .u32 (0:Nat)) w:=by kernel_rfl
theorem xR.look(h:xR w b M D){x:Td}(hx:x∈M)(hs:x.birth≤18446744073709551615):(Instr.lookup 229 (.map (some b)) (.int .u64 x.birth) true).run prog w=.ok (.tuple #[.int .u32 x.slot,.bool true]) w:=by
 obtain⟨v,ps,hrun,hv⟩:=h.own.look_ok kP underlying229 (Uu w) (VQ _) (qF hs);rw[h.at_ x hx]at hv;obtain⟨y,rfl,e⟩:=zcg hv;have:=zaN (congrArg Prod.fst e);subst this;rw[hrun,h.has_mem hx]
theorem xR.look_no(h:xR w b M D){s:Nat}(hs:s≤18446744073709551615)(hn : ∀ x∈M,x.birth≠s):(Instr.lookup 229 (.map (some b)) (.int .u64 s) true).run prog w=.ok (.tuple #[.int .u32 0,.bool false]) w:=by
 obtain⟨v,ps,hrun,hv⟩:=h.own.look_ok kP underlying229 (Uu w) (VQ _) (qF hs);have h0:=h.not_has hn;rw[Maps.atKey_of_not_has h0]at hv;obtain⟨y,rfl,e⟩:=zcg hv;have:=zaN (congrArg Prod.fst e);subst this;rw[hrun,h0]
 rfl
theorem xR.put{x:Td}(h:xR w b M D)(hn : ∀ y∈M,y.birth≠x.birth)(ho:w'.ownsMap prog 27 Zg b (M.length+1) (D.put (kB x.birth) (nD x))):xR w' b (x::M) (D.put (kB x.birth) (nD x)):=by
 have hm:=h.own.isMap;refine⟨ho,fun y hy zd => ?_,fun s hs => ?_,?_⟩
 ·rcases zO.1 hy with rfl | hy
  ·exact atKey_put_same hm (Ql _) _ _
  ·rw[atKey_put_other (fun e=>hn y hy (Zz e))];exact h.at_ y hy zd
 ·by_cases e:s=x.birth
  ·exact⟨x,yE,e.symm⟩
  ·rw[has_put_other (fun c=>e (Zz c))]at hs;obtain⟨y,hy,e2⟩:=h.has s hs;exact⟨y,yH _ hy,e2⟩
 ·rw[Zd (h.own.tidy kP),h.not_has hn,h.size];rfl
theorem xR.del{x:Td}{M':List Td}(h:xR w b M D)(hx:x∈M)(hM : ∀ y,y∈M'↔y∈M∧y.birth≠x.birth)(hl:M'.length+1=M.length){n:Nat}(ho:w'.ownsMap prog 27 Zg b n (D.del (kB x.birth))):xR w' b M' (D.del (kB x.birth)):=by
 have hsz:Maps.size (D.del (kB x.birth))=M'.length:=by
  have:=Maps.size_del (k:=kB x.birth) (h.own.tidy kP);rw[h.has_mem hx,h.size]at this;simp at this;omega
 refine⟨by have:=Zo ho;rw[hsz]at this;exact this,fun y hy zd => ?_,fun s hs => ?_,hsz⟩
 ·obtain⟨h1,h2⟩:=(hM y).1 hy;rw[atKey_del_other (fun c=>h2 (Zz c))];exact h.at_ y h1 zd
 ·by_cases e:s=x.birth
  ·subst e;rw[has_del_same]at hs
   cases hs
  ·rw[has_del_other (fun c=>e (Zz c))]at hs;obtain⟨y,hy,e2⟩:=h.has s hs;exact⟨y,(hM y).2 ⟨hy,fun c=>e (by rw[← e2,c])⟩,e2⟩
end
end
end Go.Proofs.YtdohbogbnheakaaGreatDoor
