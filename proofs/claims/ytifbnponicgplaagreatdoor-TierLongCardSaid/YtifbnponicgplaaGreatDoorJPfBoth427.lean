/- Lemmas and contracts of functions. No condition. -/
import Derived.Test.YtifbnponicgplaaGreatDoorJPfBoth424
import Derived.Sort.CutIn
import Derived.Sort.BigQuietIn
namespace Go.Proofs.YtifbnponicgplaaGreatDoor
open _root_.Go.Proofs.Tryz
set_option maxRecDepth 100000
set_option maxHeartbeats 20000000
set_option linter.all false
section
open Go.RowKit Go.Shelf
attribute [local go_sem] Oper.semAt_some
def xh(C:TypeId→Prop)(A B:World):Prop:=Mod (fun k => ∃ cs T fz,A.heap[k]? = some (.cells cs T fz)∧C T) A B
theorem xh.refl(C:TypeId→Prop)(A:World):xh C A A:=Mod.refl _ A
theorem xh.of_pure{C:TypeId→Prop}{A B:World}(h:zb A B):xh C A B:=Mod.of_pure h
theorem xh.trans{C:TypeId→Prop}{w A B:World}(h:xh C w A)(k:xh C A B):xh C w B:=by
 refine⟨k.os.trans h.os,k.tape.trans h.tape,k.output.trans h.output,zF h.size k.size,fun i hi hn => ?_⟩;have e:=h.block i hi hn;refine(k.block i (vh hi h.size) (fun⟨cs,T,fz,e',hC⟩=>hn ⟨cs,T,fz,by rw[← e];exact e',hC⟩)).trans e
theorem xh.then{C:TypeId→Prop}{S:Nat→Prop}{w A B:World}(h:xh C w A)(k:Mod S A B)(hS : ∀ i,S i→w.heap.size≤i):xh C w B :=
 Mod.then h k (fun i hi hs=>by have:=hS i hs;omega)
theorem xh.heap{C:TypeId→Prop}{A B:World}(h:xh C A B){k:Nat}{cs:Array Value}{T:TypeId}{fz:Nat × Nat}(hb:A.heap[k]? = some (.cells cs T fz))(hT : ¬ C T):B.heap[k]? = some (.cells cs T fz) :=
 Mod.heap h (fun⟨cs',T',fz',e,hC⟩=>by rw[hb]at e;cases e;exact hT hC) hb
theorem xh.owns{C:TypeId→Prop}{A B:World}(h:xh C A B){T k n:Nat}{v:Value}{xs:List Value}(ho:A.ownsRow 0 T k v n xs)(hT : ¬ C T):B.ownsRow 0 T k v n xs :=
 zz ho h (fun g hg ⟨cs',T',fz',e,hC⟩=>by
  obtain⟨c,e'⟩:=yd ho hg;rw[e']at e;cases e;exact hT hC)
theorem xh.rec{C:TypeId→Prop}{A B:World}(h:xh C A B)(N:Nat):xl N A B :=
 xl.of_mod h (fun k _ ⟨cs,T,fz,e,_⟩ o ho=>by rw[e]at ho;cases ho;rfl)
theorem xl.trans{N:Nat}{A B D:World}(h:xl N A B)(k:xl N B D):xl N A D:=fun i o hi ho hc=>k i o hi (h i o hi ho hc) hc
def zgX(N:Nat)(A:World)(k:Nat):Prop:=N≤k ∧ ∀ cs T fz,A.heap[k]? = some (.cells cs T fz)→T=286∨T=3∨T=24
structure uz(P:Program)(gf:Nat)(lb:Array Value)(f:List Nat→Nat→Bool)(C:TypeId→Prop)(J:List Nat→World→Prop)(w:World):Prop where
 enters : ∀ args w,(callFunc gf args).run P w=.ok (.enter gf args) w
 call : ∀ pre (s:Nat) W,s≤4294967295→J pre W→CallsIn Fence.wide 0 P gf (#[.int .u32 s]++lb) W fun e w'=>e=.returned (.bool (f pre s))∧J (pre++[s]) w'∧xh C W w'
 keep : ∀ pre A B,J pre A→Mod (zgX w.heap.size A) A B→J pre B
 types : ∀ T,C T→T=89∨T=157
 start:J [] w
structure FS(w:World)(D:Nat→Prop)(p:Nat)(sv:Value)(Gs:List Grp)(sum:Nat)(gf:Nat)(lb:Array Value)(C:TypeId→Prop)(J:List Nat→World→Prop)(b:Nat)(jl:List Nat)(W:World):Prop where
 pu:xh C w W
 wb:w.heap.size≤b
 h3:W.heap[b]? = some (.cells #[.pointer (some ⟨p,0,none⟩)] 145 (0,0))
 h4:W.heap[b+1]? = some (.cells #[.int .u64 sum] 27 (0,0))
 h5:W.heap[b+1+1]? = some (.cells #[.func (.func gf) #[] lb] 214 (0,0))
 h6:W.heap[b+1+1+1]? = some (.cells #[.pointer none] 286 (0,0))
 h7:W.heap[b+1+1+1+1]? = some (.cells #[.int .i64 0] 3 (0,0))
 h8:W.heap[b+1+1+1+1+1]? = some (.cells #[.int .i64 0] 24 (0,0))
 ix:yk W D p sv Gs
 j:J jl W
section
variable{w:World}{D:Nat→Prop}{p:Nat}{sv:Value}{Gs:List Grp}{sum:Nat}{gf:Nat}{lb:Array Value}{f:List Nat→Nat→Bool}{C:TypeId→Prop}{J:List Nat→World→Prop}{b:Nat}{jl:List Nat}
theorem FS.pure(hs:uz prog gf lb f C J w){A B:World}(h:FS w D p sv Gs sum gf lb C J b jl A)(hq:zb A B):FS w D p sv Gs sum gf lb C J b jl B :=
 ⟨h.pu.trans (.of_pure hq),h.wb,hq.heap (fun h=>h) h.h3,hq.heap (fun h=>h) h.h4,hq.heap (fun h=>h) h.h5,hq.heap (fun h=>h) h.h6,hq.heap (fun h=>h) h.h7,hq.heap (fun h=>h) h.h8,h.ix.pure hq,hs.keep _ _ _ h.j (Mod.of_pure hq)⟩
theorem FS.quiet(hs:uz prog gf lb f C J w){N:Nat}(hN:w.heap.size≤N){A B:World}(h:FS w D p sv Gs sum gf lb C J b jl A)(hq:zB N A B):FS w D p sv Gs sum gf lb C J b jl B :=
 ⟨h.pu.then hq (fun i hi=>by have:=hi.1;omega),h.wb,hq.cells h.h3,hq.cells h.h4,hq.cells h.h5,hq.cells h.h6,hq.cells h.h7,hq.cells h.h8,h.ix.quiet hq,
  hs.keep _ _ _ h.j (Mod.mono hq (fun k _ ⟨hk,o,ho,hc⟩=>⟨by omega,fun cs T fz e=>by rw[e]at ho;cases ho;cases hc⟩))⟩
theorem FS.back(hs:uz prog gf lb f C J w){A B:World}{s:Nat}(h:FS w D p sv Gs sum gf lb C J b jl A)(hq:xh C A B)(hj:J (jl++[s]) B):FS w D p sv Gs sum gf lb C J b (jl++[s]) B:=by
 have n : ∀ T,T≠89→T≠157 → ¬ C T:=fun T h1 h2 hC=>by rcases hs.types T hC with e | e<;>contradiction
 refine⟨h.pu.trans hq,h.wb,hq.heap h.h3 (n _ (by decide) (by decide)),hq.heap h.h4 (n _ (by decide) (by decide)),hq.heap h.h5 (n _ (by decide) (by decide)),hq.heap h.h6 (n _ (by decide) (by decide)),hq.heap h.h7 (n _ (by decide) (by decide)),hq.heap h.h8 (n _ (by decide) (by decide)),⟨hq.heap h.ix.box (n _ (by decide) (by decide)),hq.owns h.ix.row (n _ (by decide) (by decide)),h.ix.dd,h.ix.ok⟩,hj⟩
theorem FS.new(hs:uz prog gf lb f C J w)(h:yk w D p sv Gs) :
  FS w D p sv Gs sum gf lb C J w.heap.size [] ((((((w.alloc (.cells #[.pointer (some ⟨p,0,none⟩)] 145)).alloc (.cells #[.int .u64 sum] 27)).alloc (.cells #[.func (.func gf) #[] lb] 214)).alloc (.cells #[.pointer none] 286)).alloc (.cells #[.int .i64 0] 3)).alloc (.cells #[.int .i64 0] 24)):=by
 have hp:zb w ((((((w.alloc (.cells #[.pointer (some ⟨p,0,none⟩)] 145)).alloc (.cells #[.int .u64 sum] 27)).alloc (.cells #[.func (.func gf) #[] lb] 214)).alloc (.cells #[.pointer none] 286)).alloc (.cells #[.int .i64 0] 3)).alloc (.cells #[.int .i64 0] 24)):=by(repeat'(first | (with_reducible exact Mod.refl _ _) | (with_reducible refine Mod.alloc ?_ _) | (with_reducible refine Mod.drew ?_) | (with_reducible refine Mod.drewN ?_ _) | (with_reducible refine Mod.setCell ?_ ?_ _) | (refine Mod.then ?_ (by with_reducible assumption) ?_)))
 refine⟨.of_pure hp,zN _,?_,?_,?_,?_,?_,?_,h.pure hp,hs.keep _ _ _ hs.start (Mod.of_pure hp)⟩
 ·exact zK (zK (zK (zK (zK (zk rfl)))))
 ·exact zK (zK (zK (zK (zk (by simp)))))
 ·exact zK (zK (zK (zk (by simp))))
 ·exact zK (zK (zk (by simp)))
 ·exact zK (zk (by simp))
 ·exact zk (by simp)
structure FR(w:World)(D:Nat→Prop)(p:Nat)(sv:Value)(Gs:List Grp)(C:TypeId→Prop)(J:List Nat→World→Prop)(b:Nat)(jl:List Nat)(u6 u7 u8:Value)(W:World):Prop where
 pu:xh C w W
 wb:w.heap.size≤b
 h6:W.heap[b+1+1+1]? = some (.cells #[u6] 286 (0,0))
 h7:W.heap[b+1+1+1+1]? = some (.cells #[u7] 3 (0,0))
 h8:W.heap[b+1+1+1+1+1]? = some (.cells #[u8] 24 (0,0))
 ix:yk W D p sv Gs
 j:J jl W
theorem FR.quiet(hs:uz prog gf lb f C J w){u6 u7 u8:Value}{N:Nat}(hN:w.heap.size≤N){A B:World}(h:FR w D p sv Gs C J b jl u6 u7 u8 A)(hq:zB N A B):FR w D p sv Gs C J b jl u6 u7 u8 B :=
 ⟨h.pu.then hq (fun i hi=>by have:=hi.1;omega),h.wb,hq.cells h.h6,hq.cells h.h7,hq.cells h.h8,h.ix.quiet hq,
  hs.keep _ _ _ h.j (Mod.mono hq (fun k _ ⟨hk,o,ho,hc⟩=>⟨by omega,fun cs T fz e=>by rw[e]at ho;cases ho;cases hc⟩))⟩
theorem FS.store(hs:uz prog gf lb f C J w){A:World}(h:FS w D p sv Gs sum gf lb C J b jl A)(u6 u7 u8:Value) :
  FR w D p sv Gs C J b jl u6 u7 u8 (((A.setCell ⟨b+1+1+1,0,none⟩ u6).setCell ⟨b+1+1+1+1,0,none⟩ u7).setCell ⟨b+1+1+1+1+1,0,none⟩ u8) ∧
   Mod (fun k=>k=b+1+1+1∨k=b+1+1+1+1∨k=b+1+1+1+1+1) A (((A.setCell ⟨b+1+1+1,0,none⟩ u6).setCell ⟨b+1+1+1+1,0,none⟩ u7).setCell ⟨b+1+1+1+1+1,0,none⟩ u8):=by
 have hm:Mod (fun k=>k=b+1+1+1∨k=b+1+1+1+1∨k=b+1+1+1+1+1) A (((A.setCell ⟨b+1+1+1,0,none⟩ u6).setCell ⟨b+1+1+1+1,0,none⟩ u7).setCell ⟨b+1+1+1+1+1,0,none⟩ u8) :=
  (((Mod.refl _ A).setCell (p:=⟨b+1+1+1,0,none⟩) (fun _ => .inl rfl) _).setCell (p:=⟨b+1+1+1+1,0,none⟩) (fun _ => .inr (.inl rfl)) _).setCell (p:=⟨b+1+1+1+1+1,0,none⟩) (fun _ => .inr (.inr rfl)) _
 have wb:=h.wb;refine⟨⟨h.pu.then hm (fun i hi=>by omega),h.wb,?_,?_,?_,h.ix.mod hm (fun k hk hs => ?_),hs.keep _ _ _ h.j (Mod.mono hm (fun k hk hs=>⟨by omega,fun cs T fz e => ?_⟩))⟩,hm⟩
 ·exact xp (xp (ug (j:=0) h.h6) (by dsimp only;omega)) (by dsimp only;omega)
 ·exact xp (ug (j:=0) (xp h.h7 (by dsimp only;omega))) (by dsimp only;omega)
 ·exact ug (j:=0) (xp (xp h.h8 (by dsimp only;omega)) (by dsimp only;omega))
 ·have no : ∀ {k:Nat} {cs:Array Value} {T:TypeId},A.heap[k]? = some (.cells cs T (0,0))→T≠257→T≠260 → ¬ D k:=fun hk h1 h2 hD=>by
   rcases(h.ix.dd _).1 hD with e | e
   ·rw[e,h.ix.box]at hk;cases hk;exact h1 rfl
   ·obtain⟨cc,e2⟩:=yd h.ix.row e;rw[e2]at hk;cases hk;exact h2 rfl
  rcases hs with rfl | rfl | rfl
  ·exact no h.h6 (by decide) (by decide) hk
  ·exact no h.h7 (by decide) (by decide) hk
  ·exact no h.h8 (by decide) (by decide) hk
 ·rcases hs with rfl | rfl | rfl
  ·rw[h.h6]at e;cases e;exact .inl rfl
  ·rw[h.h7]at e;cases e;exact .inr (.inl rfl)
  ·rw[h.h8]at e;cases e;exact .inr (.inr rfl)
def XL(w:World)(D:Nat→Prop)(p:Nat)(sv:Value)(Gs:List Grp)(sum:Nat)(f:List Nat→Nat→Bool)(C:TypeId→Prop)(J:List Nat→World→Prop)(b B:Nat)(W:World):Prop :=
 ∃ a x post,xD Gs sum=a++x::post∧kp f (a.map (zS Gs))∧f (a.map (zS Gs)) (zS Gs x)=true∧x.1<Gs.length∧x.2<8 ∧
  FR w D p sv Gs C J b ((a++[x]).map (zS Gs)) (.pointer (some ⟨B,x.1*9,none⟩)) (.int .i64 x.2) (.int .i64 0) W
theorem XL.quiet(hs:uz prog gf lb f C J w){B N:Nat}(hN:w.heap.size≤N){X Y:World}(h:XL w D p sv Gs sum f C J b B X)(hq:zB N X Y):XL w D p sv Gs sum f C J b B Y:=by
 obtain⟨a,x,post,h1,h2,h3,h4,h5,h6⟩:=h;exact⟨a,x,post,h1,h2,h3,h4,h5,h6.quiet hs hN hq⟩
def vu(Gs:List Grp)(tag:Nat)(pre:List Nat):List (Nat × Nat):=pre.flatMap (fun i=>(jf (zn Gs i) tag).map (fun j=>(i,j)))
structure Xj(w:World)(D:Nat→Prop)(p:Nat)(sv:Value)(Gs:List Grp)(sum:Nat)(gf:Nat)(lb:Array Value)(f:List Nat→Nat→Bool)(C:TypeId→Prop)(J:List Nat→World→Prop)(b:Nat)(B1 B2 B3 N:Nat)(pre:List Nat)(W:World):Prop where
 fs:FS w D p sv Gs sum gf lb C J b ((vu Gs (sum%128) pre).map (zS Gs)) W
 it:uD W B1 B2 B3 (sum/128) Gs.length
 bl : ∀ k∈pre,vQ (zn Gs k)=false
 fl:kp f ((vu Gs (sum%128) pre).map (zS Gs))
 sz:N≤W.heap.size
theorem uD.quiet{N B1 B2 B3 part g:Nat}{X Y:World}(h:uD X B1 B2 B3 part g)(hq:zB N X Y):uD Y B1 B2 B3 part g:=⟨hq.cells h.many,hq.cells h.part,hq.cells h.grps⟩
theorem Xj.quiet(hs:uz prog gf lb f C J w){B1 B2 B3 M N:Nat}(hN:w.heap.size≤N){pre:List Nat}{X Y:World}(h:Xj w D p sv Gs sum gf lb f C J b B1 B2 B3 M pre X)(hq:zB N X Y):Xj w D p sv Gs sum gf lb f C J b B1 B2 B3 M pre Y :=
 ⟨h.fs.quiet hs hN hq,h.it.quiet hq,h.bl,h.fl,zF h.sz (Mod.size hq)⟩
def zeB(w:World)(D:Nat→Prop)(p:Nat)(sv:Value)(Gs:List Grp)(sum:Nat)(gf:Nat)(lb:Array Value)(f:List Nat→Nat→Bool)(C:TypeId→Prop)(J:List Nat→World→Prop)(b B:Nat)(c:Code)(W:World):Prop :=
 (c=.exit 0∧FS w D p sv Gs sum gf lb C J b ((xD Gs sum).map (zS Gs)) W∧kp f ((xD Gs sum).map (zS Gs)))∨(c=.ret∧XL w D p sv Gs sum f C J b B W)
structure FIn(w:World)(D:Nat→Prop)(p:Nat)(sv:Value)(Gs:List Grp)(sum:Nat)(gf:Nat)(lb:Array Value)(f:List Nat→Nat→Bool)(C:TypeId→Prop)(J:List Nat→World→Prop)(b:Nat)(B1 B2 B3 BL B m N b12 i:Nat)(W2:World)(pre pre':List Nat)(W:World):Prop where
 fs:FS w D p sv Gs sum gf lb C J b ((vu Gs (sum%128) pre++pre'.map (fun j=>(i,j))).map (zS Gs)) W
 it:uD W B1 B2 B3 (sum/128) Gs.length
 la:qi W BL m
 bx:W.heap[b12]? = some (.cells #[.pointer (some ⟨B,i*9,none⟩)] 286 (0,0))
 fl:kp f ((vu Gs (sum%128) pre++pre'.map (fun j=>(i,j))).map (zS Gs))
 rc:xl N W2 W
 sz:W2.heap.size≤W.heap.size
theorem xl.quiet{N M:Nat}{A X Y:World}(h:xl N A X)(hq:zB M X Y)(hM:A.heap.size≤M):xl N A Y:=fun k o hk ho hc =>
 Mod.heap hq (fun hs=>by have:=hs.1;have:=zm ho;omega) (h k o hk ho hc)
theorem FIn.quiet(hs:uz prog gf lb f C J w){B1 B2 B3 BL B m N b12 i M:Nat}{W2:World}(hN:w.heap.size≤M)(hM:W2.heap.size≤M){pre pre':List Nat}{X Y:World}(h:FIn w D p sv Gs sum gf lb f C J b B1 B2 B3 BL B m N b12 i W2 pre pre' X)(hq:zB M X Y) :
  FIn w D p sv Gs sum gf lb f C J b B1 B2 B3 BL B m N b12 i W2 pre pre' Y :=
 ⟨h.fs.quiet hs hN hq,h.it.quiet hq,⟨hq.cells h.la.set⟩,hq.cells h.bx,h.fl,h.rc.quiet hq hM,zF h.sz (Mod.size hq)⟩
theorem FIn.back(hs:uz prog gf lb f C J w){B1 B2 B3 BL B m N b12 i j s:Nat}{W2:World}{pre pre':List Nat}{X Y:World}(h:FIn w D p sv Gs sum gf lb f C J b B1 B2 B3 BL B m N b12 i W2 pre pre' X)(hsl:zS Gs (i,j)=s)(hm:xh C X Y)
  (hj:J ((vu Gs (sum%128) pre++pre'.map (fun j=>(i,j))).map (zS Gs)++[s]) Y) :
  FS w D p sv Gs sum gf lb C J b ((vu Gs (sum%128) pre++(pre'++[j]).map (fun j=>(i,j))).map (zS Gs)) Y∧uD Y B1 B2 B3 (sum/128) Gs.length∧qi Y BL m∧Y.heap[b12]? = some (.cells #[.pointer (some ⟨B,i*9,none⟩)] 286 (0,0)) ∧
   (f ((vu Gs (sum%128) pre++pre'.map (fun j=>(i,j))).map (zS Gs)) s=false→kp f ((vu Gs (sum%128) pre++(pre'++[j]).map (fun j=>(i,j))).map (zS Gs)))∧xl N W2 Y∧W2.heap.size≤Y.heap.size:=by
 have e:(vu Gs (sum%128) pre++(pre'++[j]).map (fun j=>(i,j))).map (zS Gs)=(vu Gs (sum%128) pre++pre'.map (fun j=>(i,j))).map (zS Gs)++[s]:=by
  simp[hsl]
 have n : ∀ T,T≠89→T≠157 → ¬ C T:=fun T h1 h2 hC=>by rcases hs.types T hC with e | e<;>contradiction
 refine⟨?_,⟨hm.heap h.it.many (n _ (by decide) (by decide)),hm.heap h.it.part (n _ (by decide) (by decide)),hm.heap h.it.grps (n _ (by decide) (by decide))⟩,⟨hm.heap h.la.set (n _ (by decide) (by decide))⟩,hm.heap h.bx (n _ (by decide) (by decide)),fun hf => ?_,h.rc.trans (hm.rec _),zF h.sz hm.size⟩
 ·rw[e];exact h.fs.back hs hm hj
 ·rw[e];exact zeG h.fl hf
theorem uD.keepsIt{B1 B2 B3 part g:Nat}{X Y:World}(h:uD X B1 B2 B3 part g)(k:uD Y B1 B2 B3 part g)(hs:X.heap.size≤Y.heap.size):xi (qA B1 B2 B3) X Y:=by
 refine⟨hs,?_⟩;rintro i (rfl | rfl | rfl) _
 ·rw[h.many,k.many]
 ·rw[h.part,k.part]
 ·rw[h.grps,k.grps]
def U5(w:World)(D:Nat→Prop)(p:Nat)(sv:Value)(Gs:List Grp)(sum:Nat)(f:List Nat→Nat→Bool)(C:TypeId→Prop)(J:List Nat→World→Prop)(B:Nat)(e:Ending)(w':World):Prop :=
  xh C w w'∧yk w' D p sv Gs ∧
  ((∃ a x post,xD Gs sum=a++x::post∧kp f (a.map (zS Gs))∧f (a.map (zS Gs)) (zS Gs x)=true∧x.1<Gs.length∧x.2<8 ∧
    e=.returned (.tuple #[.pointer (some ⟨B,x.1*9,none⟩),.int .i64 x.2,.int .i64 0])∧J ((a++[x]).map (zS Gs)) w') ∨
   (kp f ((xD Gs sum).map (zS Gs))∧e=.returned (.tuple #[.pointer none,.int .i64 0,.int .i64 9])∧J ((xD Gs sum).map (zS Gs)) w'))
end
theorem find_none{w:World}{D:Nat→Prop}{p:Nat}{sv:Value}{Gs:List Grp}{sum:Nat}{gf:Nat}{lb:Array Value}{f:List Nat→Nat→Bool}{C:TypeId→Prop}{J:List Nat→World→Prop}{b:Nat}(hs:uz prog gf lb f C J w){N l B:Nat}(hN:w.heap.size≤N){W:World}(h:FS w D p sv Gs sum gf lb C J b ((xD Gs sum).map (zS Gs)) W)(hf:kp f ((xD Gs sum).map (zS Gs)))(hl:N≤l)(hK:W.heap[l]? = some (.deferred (some []))){W':World}
  (hW':(((W.setCell ⟨b+1+1+1,0,none⟩ (.pointer none)).setCell ⟨b+1+1+1+1,0,none⟩ (.int .i64 0)).setCell ⟨b+1+1+1+1+1,0,none⟩ (.int .i64 9))=W') :
  W'.heap[l]? = some (.deferred (some []))∧FR w D p sv Gs C J b ((xD Gs sum).map (zS Gs)) (.pointer none) (.int .i64 0) (.int .i64 9) (W'.putObj l (.deferred none)) ∧
   U5 w D p sv Gs sum f C J B (.returned (.tuple #[.pointer none,.int .i64 0,.int .i64 9])) (W'.putObj l (.deferred none)):=by
 subst hW';obtain⟨hr,hm⟩:=h.store hs (.pointer none) (.int .i64 0) (.int .i64 9);have hk:=hm.heap (by rintro(e | e | e)<;>subst e<;>first | (rw[h.h6]at hK;cases hK) | (rw[h.h7]at hK;cases hK) | (rw[h.h8]at hK;cases hK)) hK;have hr2:=hr.quiet hs hN (zB.putObj (.deferred none) hl hk rfl);exact⟨hk,hr2,hr2.pu,hr2.ix,.inr ⟨hf,rfl,hr2.j⟩⟩
theorem Azyw0 {P:Prop}(h:P:=by
 go_wp2;obtain⟨hk,hr,hp⟩:=HE.out;have y6:=zi _ _ 0 _ _ _ hr.h6;have y7:=zi _ _ 0 _ _ _ hr.h7;have y8:=zi _ _ 0 _ _ _ hr.h8;simp at y6 y7 y8;exact Z9 (v := .tuple #[.pointer none,.int .i64 0,.int .i64 9]) hk (by simp[results,results178,go_sem,y6,y7,y8]) ⟨B,c,rfl,hp⟩):P:=h
theorem Azmvu {P:Prop}(h:P:=by
 have:i∈xR part Gs.length:=by rw[hpost];simp
 unfold xR at this;obtain⟨k,hk,rfl⟩:=zI.1 this;exact vi _ HG.out.pos):P:=h
theorem Azwe9 {P:Prop}(h:P:=by
 rintro k (rfl | rfl | rfl)
 · exact zm hit.many
 · exact zm hit.part
 · exact zm hit.grps):P:=h
theorem zdA{w:World}{D:Nat→Prop}{p:Nat}{sv:Value}{Gs:List Grp}(h:yk w D p sv Gs)(sum:Nat)(hsum:sum<18446744073709551616){gf:Nat}{lb:Array Value}{f:List Nat→Nat→Bool}{C:TypeId→Prop}{J:List Nat→World→Prop}
    (hsame:uz prog gf lb f C J w) :
    Calls prog 178 #[.pointer (some ⟨p,0,none⟩),.int .u64 sum,.func (.func gf) #[] lb] w (fun e w' => ∃ B c,sv=.slice (some ⟨B,0,none⟩) Gs.length c∧U5 w D p sv Gs sum f C J B e w'):=by
  have hlp:p<w.heap.size:=zm h.box;obtain⟨B,c,rfl,hc,hB,hDB,hBf,hcells⟩:=h.at;have hfs:=FS.new (sum:=sum) hsame h;have HF:=za hfs;have HS:=za hsame;have HC:=za hcells;clear hfs hcells hsame hBf hc
  (refine(yB (n:=0)).1 (callsIn_of_wp_marks func178 rfl trivial (kH.2 ?_) rfl);simp only[ntmps178,List.size_toArray,List.length_cons,List.length_nil,Nat.reduceAdd,Nat.reduceSub,Array.replicate_succ,Array.replicate_zero,List.push_toArray,List.append_toArray,List.nil_append,List.cons_append])
  go_upto_region 1 with fail
  generalize(((((w.alloc (.cells #[.pointer (some ⟨p,0,none⟩)] 145)).alloc (.cells #[.int .u64 sum] 27)).alloc (.cells #[.func (.func gf) #[] lb] 214)).alloc (.cells #[.pointer none] 286)).alloc (.cells #[.int .i64 0] 3)).alloc (.cells #[.int .i64 0] 24)=W1 at HF ⊢;have hws:=HF.out.wb;generalize w.heap.size=b at HF ⊢;have z3:=HF.out.h3;have z4:=HF.out.h4;have zp:=HF.out.ix.box;obtain⟨z3_0,z3_f,z3_l,H_z3⟩:=cr1 z3;clear z3;obtain⟨z4_0,z4_f,z4_l,H_z4⟩:=cr1 z4;clear z4;obtain⟨zp_0,zp_1,zp_2,zp_f,zp_l,H_zp⟩:=cr3 zp;clear zp;have HG:=za HF.out.ix.ok.pow;have wg:IntKind.i64.wrap (Gs.length:Int)=Gs.length:=zt _ (by have:=HG.out.le;omega);have HPart:=za (fun W=>zdP sum W hsum);have HAll:=za (fun W=>zdi (sum/128) Gs.length W HG.out);obtain⟨part,hpart⟩:=zf (sum/128);rw[hpart]at HPart HAll
  go_region_held3 (fun w'=>w'.cell? ⟨b,0,none⟩=some (.pointer (some ⟨p,0,none⟩))∧w'.cell? ⟨b+1,0,none⟩=some (.int .u64 sum)∧w'.cell? ⟨p,0,none⟩=some (.slice (some ⟨B,0,none⟩) Gs.length c))
    (first | go_keep | exact⟨hp2.cell (fun h=>h) z3_0,hp2.cell (fun h=>h) z4_0,hp2.cell (fun h=>h) zp_0⟩)
    (first
      | (go_at_call 225;(with_reducible refine(HPart.out _).mono ?_);rintro e w' ⟨rfl,rfl⟩)
      | (go_at_call 224;(with_reducible refine(HAll.out _).mono ?_);rintro e w2 ⟨B1,B2,B3,rfl,hit,hp2,hB1,hB2,hB3⟩))
  have hpw:zb W1 w2:=hp2.of_drew;have hfo:Xj w D p (.slice (some ⟨B,0,none⟩) Gs.length c) Gs sum gf lb f C J b B1 B2 B3 w2.heap.size [] w2:=by
    refine⟨HF.out.pure HS.out hpw,by rw[hpart];exact hit,by simp,ziY f,zN _⟩
  have hItlt : ∀ k,qA B1 B2 B3 k→k<w2.heap.size:=by
    exact Azwe9
  have hw2:w.heap.size≤w2.heap.size:=zF HF.out.pu.size hpw.size;have hpl:part<144115188075855872:=by omega
  have HO:=za hfo;clear z3_0 z3_f z3_l;clear z4_0 z4_f z4_l;clear zp_0 zp_1 zp_2 zp_f zp_l;clear H_z3 H_z4 H_zp HF hfo HPart HAll hp2 hpw hB1 hB2 hB3;go_wp2;refine kH.1 (XE (gf:=270) (lb:=#[.pointer (some ⟨B1,0,none⟩),.pointer (some ⟨B2,0,none⟩),.pointer (some ⟨B3,0,none⟩)]) rfl (enters_of func270 (by kernel_rfl) rfl) (It:=qA B1 B2 B3) (zb2 hit HG.out hpl) hItlt (fun _=>rfl)
    (fun pre W=>Xj w D p (.slice (some ⟨B,0,none⟩) Gs.length c) Gs sum gf lb f C J b B1 B2 B3 w2.heap.size pre W) (fun cd _ W=>zeB w D p (.slice (some ⟨B,0,none⟩) Gs.length c) Gs sum gf lb f C J b B cd W) ?hI ?hIx HO.out ?round ?done ?stop)
  case hI=>exact fun pre X Y h hq=>h.quiet HS.out hw2 hq
  case hIx =>
    rintro cd pre X Y (⟨e,h,hf⟩ | ⟨e,h⟩) hq
    · exact .inl ⟨e,h.quiet HS.out hw2 hq,hf⟩
    · exact .inr ⟨e,h.quiet HS.out hw2 hq⟩
  case done =>
    rintro l xs W hl hS hI hK;have hseen:xD Gs sum=vu Gs (sum%128) xs:=by
      have hS':xs=xR part Gs.length:=hS;unfold xD;rw[hpart,← hS'];exact zdN xs hI.bl
    have h1:=hI.fs;have h2:=hI.fl;rw[← hseen]at h1 h2;have z6:=h1.h6;have z7:=h1.h7;have z8:=h1.h8;have HE:=za (find_none (B:=B) HS.out hw2 h1 h2 hl hK rfl);clear hI hK h1 h2 hseen HO hit hItlt;obtain⟨z6_0,z6_f,z6_l,H_z6⟩:=cr1 z6;clear z6;obtain⟨z7_0,z7_f,z7_l,H_z7⟩:=cr1 z7;clear z7;obtain⟨z8_0,z8_f,z8_l,H_z8⟩:=cr1 z8;clear z8;exact Azyw0
  case stop =>
    rintro l cd pre W hl hI hK;rcases hI with⟨rfl,h1,h2⟩ | ⟨rfl,h1⟩
    · have z6:=h1.h6;have z7:=h1.h7;have z8:=h1.h8
      have HE:=za (find_none (B:=B) HS.out hw2 h1 h2 hl hK rfl);clear hK h1 h2 HO hit hItlt;obtain⟨z6_0,z6_f,z6_l,H_z6⟩:=cr1 z6;clear z6;obtain⟨z7_0,z7_f,z7_l,H_z7⟩:=cr1 z7;clear z7;obtain⟨z8_0,z8_f,z8_l,H_z8⟩:=cr1 z8;clear z8;refine kH.2 ?_;exact Azyw0
    · have h1':=h1.quiet HS.out hw2 (zB.putObj (.deferred none) hl hK rfl)
      obtain⟨a,x,post,q1,q2,q3,q4,q5,q6⟩:=h1';have y6:=zi _ _ 0 _ _ _ q6.h6;have y7:=zi _ _ 0 _ _ _ q6.h7;have y8:=zi _ _ 0 _ _ _ q6.h8;simp at y6 y7 y8;refine kH.2 ?_;go_wp2;exact Z9 (v := .tuple #[.pointer (some ⟨B,x.1*9,none⟩),.int .i64 x.2,.int .i64 0]) hK (by simp[results,results178,go_sem,y6,y7,y8]) ⟨B,c,rfl,q6.pu,q6.ix,.inl ⟨a,x,post,q1,q2,q3,q4,q5,rfl,q6.j⟩⟩
  case round =>
    rintro l pre i W K hI hG hK;obtain⟨post,hpost⟩:=hG;have hil:i<Gs.length:=by
      exact Azmvu
    dsimp only[qR];have HI:=za hI;have HK:=za hK;have HPO:=za hpost;clear hI hK HO hit hpost;gi_wp2;refine HK.out _ _ (Mod.refl _ _) (fun l' W2 hl hr hq => ?_);obtain⟨r0,hr⟩:=hr;replace HI:=za (HI.out.quiet HS.out hw2 hq);clear HK hq W;have z3:=HI.out.fs.h3;have zp:=HI.out.fs.ix.box;obtain⟨z3_0,z3_f,z3_l,H_z3⟩:=cr1 z3;clear z3;obtain⟨zp_0,zp_1,zp_2,zp_f,zp_l,H_zp⟩:=cr3 zp;clear zp;have hi0:(0:Int)≤i:=by omega
    have hi1:(i:Int)<Gs.length:=by omega
    have hgl:=HG.out.le;gi_upto_region 5 with fail
    have hp3:zb W2 (W2.alloc (.cells #[.pointer (some ⟨B,i*9,none⟩)] 286)):=(Mod.refl _ W2).alloc _;have z12:=zk (w:=W2) (o := .cells #[.pointer (some ⟨B,i*9,none⟩)] 286 (0,0)) rfl;have hb12:w2.heap.size≤W2.heap.size:=HI.out.sz;have HI3:=za (HI.out.fs.pure HS.out hp3);have HK3:=za hp3;clear z3_0 z3_f z3_l;clear zp_0 zp_1 zp_2 zp_f zp_l;clear H_z3 H_zp hp3;generalize W2.alloc (.cells #[.pointer (some ⟨B,i*9,none⟩)] 286)=W3 at *;generalize W2.heap.size=b12 at *;have z4:=HI3.out.h4;obtain⟨B',c',hsv,_,hB',_,hBf',hcells'⟩:=HI3.out.ix.at
    cases hsv
    have zg:=(hcells' i hil).1;have ztag:=za (fun W=>zdt sum W hsum);have HGP:=za (HG.out);have hgo:=za (HI3.out.ix.ok.at hil);have zmt:=za (fun W=>zgh hgo.out.ctl.bytes (sum%128) W (vi _ (by omega)));have zml:zM ((zn Gs i).1.map (· == sum%128))<256:=jA (by rw[yH];exact hgo.out.ctl.1);have zla:=za (fun W=>zcS (zM ((zn Gs i).1.map (· == sum%128))) W);have HC3:=za hcells';clear hcells';have hseen:jf (zn Gs i) (sum%128)=vI (zM ((zn Gs i).1.map (· == sum%128))):=rfl;generalize zM ((zn Gs i).1.map (· == sum%128))=m at *;obtain⟨tag,htg⟩:=zf (sum%128);rw[htg]at ztag zmt hseen;obtain⟨z12_0,z12_f,z12_l,H_z12⟩:=cr1 z12;clear z12;obtain⟨z4_0,z4_f,z4_l,H_z4⟩:=cr1 z4;clear z4
    gi_cut [40]from 33 (fun v40 wc => ∃ BL,v40=.func (.func 272) #[] #[.pointer (some ⟨BL,0,none⟩)]∧qi wc BL m∧zb W3 wc∧W3.heap.size≤BL)
    case first =>
      rename_i Jc Kc hJc hKc
      gi_region_with (first
        | (gi_at_call 228;refine ku (CallsIn.inRound l' (yB.2 (ztag.out _))) ?_;rintro e w' ⟨rfl,rfl⟩)
        | (gi_at_call 227;refine ku (CallsIn.inRound l' (yB.2 (zmt.out _))) ?_;rintro e w' ⟨rfl,rfl⟩)
        | (gi_at_call 226;refine ku (CallsIn.inRound l' (yB.2 (zla.out _))) ?_;rintro e w4 ⟨BL,rfl,hla,hp4,hBL⟩))
      all_goals
        gi_wp2_with fail
        refine Met.intro (hJc _ _ ?_)
        repeat apply Exists.intro
        refine⟨?_,rfl⟩;exact⟨BL,rfl,hla,(by first | exact hp4 | exact Mod.of_drew hp4),hBL⟩
    case rest =>
      obtain⟨BL,rfl,hla,hp4,hBL⟩:=hcut;have hp24:zb W2 wc:=HK3.out.trans hp4;have hwc:W2.heap.size≤wc.heap.size:=hp24.size;have hin:FIn w D p (.slice (some ⟨B,0,none⟩) Gs.length c) Gs sum gf lb f C J b B1 B2 B3 BL B m w2.heap.size b12 i W2 pre [] wc:=by
        refine⟨?_,?_,hla,hp4.heap (fun h=>h) H_z12.out,?_,?_,hwc⟩
        · rw[List.map_nil,jt];exact HI3.out.pure HS.out hp4
        · exact HI.out.it.keeps (xi.of_pure hp24)
        · rw[List.map_nil,jt];exact HI.out.fl
        · exact(xh.of_pure (C:=fun _=>False) hp24).rec _
      have hl0:=hp24.heap (fun h=>h) hr;have HIN:=za hin;have HSE:=za hseen;have HLA:=za hla;have hBlt:BL<wc.heap.size:=zm hla.set;have hww:w.heap.size≤wc.heap.size:=by omega
      clear hin hseen hla;gi_wp2;refine zk4 hl0 (gf:=272) (lb:=#[.pointer (some ⟨BL,0,none⟩)]) rfl (enters_of func272 (by kernel_rfl) rfl) (It:=fun k=>k=BL) (zb4 HLA.out zml) (fun k hk=>by rw[hk];exact hBlt) (fun _=>rfl)
        (fun pre' W=>FIn w D p (.slice (some ⟨B,0,none⟩) Gs.length c) Gs sum gf lb f C J b B1 B2 B3 BL B m w2.heap.size b12 i W2 pre pre' W) (fun cd _ W=>cd=.ret∧XL w D p (.slice (some ⟨B,0,none⟩) Gs.length c) Gs sum f C J b B W∧xl w2.heap.size W2 W) ?hI2 ?hIx2 HIN.out ?round2 ?done2 ?stop2
      case hI2=>exact fun pre' X Y h hq=>h.quiet HS.out hww hwc hq
      case hIx2 =>
        rintro cd pre' X Y ⟨e,h,hk⟩ hq;exact⟨e,h.quiet HS.out hww hq,hk.quiet hq hwc⟩
      case stop2 =>
        rintro cd pre' W ⟨rfl,h,hk⟩;gi_wp2;exact⟨hk,.inr ⟨rfl,h⟩⟩
      case done2 =>
        rintro xs W hS hI2;have hxs:xs=jf (zn Gs i) (sum%128):=by rw[htg,HSE.out];exact hS
        have z12:=hI2.bx;obtain⟨B',c',hsv,_,hB',_,hBf',hcells'⟩:=hI2.fs.ix.at
        cases hsv
        have zg:=(hcells' i hil).1;have ze:=za (fun W=>X5 hgo.out.ctl.bytes W);have hmz:=J5 (p:=(zn Gs i).1.map (· == 128)) (by rw[yH];exact hgo.out.ctl.1);rw[show((zn Gs i).1.map (· == 128)).any id=vQ (zn Gs i) by unfold vQ;simp[List.any_map]]at hmz;have HI2:=za hI2;clear hcells' hI2;generalize zM ((zn Gs i).1.map (· == 128))=mz at *;obtain⟨z12_0,z12_f,z12_l,H_z12⟩:=cr1 z12;clear z12;have hkI:xi (qA B1 B2 B3) W2 W:=HI.out.it.keepsIt HI2.out.it HI2.out.sz
        cases hbl:vQ (zn Gs i)with
        | true =>
          rw[hbl]at hmz;have hm0:mz≠0:=by simpa using hmz
          have hm1:((mz:Int) != 0)=true:=by simp[hm0]
          have hm2:((mz:Int)==0)=false:=by simp[hm0]
          gi_wp2_with (gi_at_call 185;refine ku (CallsIn.inRound l' (yB.2 (ze.out _))) ?_;rintro e w' ⟨rfl,rfl⟩)
          have hsn:xD Gs sum=vu Gs (sum%128) pre++xs.map (fun j=>(i,j)):=by
            unfold xD;rw[hpart,HPO.out,UA pre i post HI.out.bl,hbl,zj rfl,jt,hxs]
            rfl
          refine⟨HI2.out.rc,.inl ⟨rfl,?_,?_⟩⟩
          · rw[hsn];exact HI2.out.fs
          · rw[hsn];exact HI2.out.fl
        | false =>
          rw[hbl]at hmz;have hm0:mz=0:=by simpa using hmz
          subst hm0
          gi_wp2_with (gi_at_call 185;refine ku (CallsIn.inRound l' (yB.2 (ze.out _))) ?_;rintro e w' ⟨rfl,rfl⟩)
          have hsp:vu Gs (sum%128) (pre++[i])=vu Gs (sum%128) pre++xs.map (fun j=>(i,j)):=by
            unfold vu;rw[ZQ,hxs];simp
          refine⟨HI2.out.rc,hkI,⟨?_,HI2.out.it,?_,?_,zF HI.out.sz HI2.out.sz⟩⟩
          · rw[hsp];exact HI2.out.fs
          · intro k hk
            rcases yI.1 hk with hk | hk
            · exact HI.out.bl k hk
            · have:k=i:=by simpa using hk
              rw[this];exact hbl
          · rw[hsp];exact HI2.out.fl
      case round2 =>
        rintro l2 pre' j W K2 hI2 hG2 hK2;obtain⟨post',hpost'⟩:=hG2;have hj8:j<8:=by
          have:j∈vI m:=by rw[hpost'];simp
          exact ZZ.1 (qY.1 this).1
        dsimp only[qR];have HI2:=za hI2;have HK2:=za hK2;have HPO2:=za hpost';clear hI2 hK2 hpost';gi_wp2;refine HK2.out _ _ (Mod.refl _ _) (fun l3 W5 hl5 hr5 hq5 => ?_);replace HI2:=za (HI2.out.quiet HS.out hww hwc hq5);clear HK2 hq5 W hr5;have z5:=HI2.out.fs.h5;have z12:=HI2.out.bx;obtain⟨B',c',hsv,_,hB',_,hBf',hcells'⟩:=HI2.out.fs.ix.at
        cases hsv
        have zs:=(hcells' i hil).2 j hj8;rw[show i*9+(j+1)=i*9+1+j by omega]at zs;have hsl:(zn Gs i).2.getD j 0=zS Gs (i,j):=rfl;rw[hsl]at zs;obtain⟨s,hss⟩:=zf (zS Gs (i,j));have hs32:zS Gs (i,j)≤4294967295:=hgo.out.slot j;have heg:=HS.out.enters;obtain⟨jl,hjl⟩:=zf ((vu Gs (sum%128) pre++pre'.map (fun j=>(i,j))).map (zS Gs));have hcall:=za (fun W hJ=>HS.out.call jl (zS Gs (i,j)) W hs32 hJ);have hkeep:=za (fun W hm=>HS.out.keep jl W5 W (hjl ▸ HI2.out.fs.j) hm);clear hcells' hsl;rw[hss]at zs hs32 hcall;have hsl:=hss;have hs0:(0:Int)≤s:=by omega
        have hs1:(s:Int)≤4294967295:=by omega
        have hj0:(0:Int)≤j:=by omega
        have hj1:(j:Int)<8:=by omega
        obtain⟨z5_0,z5_f,z5_l,H_z5⟩:=cr1 z5;clear z5;obtain⟨z12_0,z12_f,z12_l,H_z12⟩:=cr1 z12;clear z12;gi_upto_region 7 with fail
        gi_cut [49]from 42 (fun v49 wc5=>v49=.bool (f jl s)∧J (jl++[s]) wc5∧xh C W5 wc5)
        case first =>
          rename_i qa ka ha qb kb hb u1 u2 u3 u4 v1 v2 v3 v4 u5 u6 qc kc hc Jc Kc hJc hKc;generalize Exit.inBlock 3 qc=QQ;clear ha hb hc
          gi_region_with (refine ku (CallsIn.inRound l3 (hcall.out _ ?_)) ?_;exact hkeep.out _ (by exact ze6);rintro e w6 ⟨rfl,hj6,hm6⟩)
          all_goals
            gi_wp2_with fail
            refine Met.intro (hJc _ _ ?_)
            repeat apply Exists.intro
            refine⟨?_,rfl⟩;exact⟨rfl,hj6,(by first | exact hm6 | exact Mod.of_drew hm6)⟩
        case rest =>
          obtain⟨rfl,hj6,hm6⟩:=hcut;obtain⟨k1,k2,k3,k4,k5,k6,k7⟩:=HI2.out.back (j:=j) HS.out hsl hm6 (hjl ▸ hj6);have hsn:jf (zn Gs i) (sum%128)=pre'++j::post':=by rw[htg,HSE.out,HPO2.out]
          have HSN:=za hsn;have HM6:=za hm6;have HK3':=za k3;have HK2':=za k2;have HK6:=za k6;have HK1:=za k1;have HK5:=za k5;have z6:=k1.h6;have z7:=k1.h7;have z8:=k1.h8;have HFL:=za HI2.out.fl;clear z5_0 z5_f z5_l;clear z12_0 z12_f z12_l;clear H_z5 H_z12 hsn hm6 k3 k2 k6 k1 k5 hj6;rw[hjl]at HK5 HFL
          cases hb:f jl s with
          | true =>
            obtain⟨k4_0,k4_f,k4_l,H_k4⟩:=cr1 k4;clear k4;obtain⟨z6_0,z6_f,z6_l,H_z6⟩:=cr1 z6;clear z6;obtain⟨z7_0,z7_f,z7_l,H_z7⟩:=cr1 z7;clear z7;obtain⟨z8_0,z8_f,z8_l,H_z8⟩:=cr1 z8;clear z8;gi_wp2;obtain⟨hst,hmst⟩:=HK1.out.store HS.out (.pointer (some ⟨B,i*9,none⟩)) (.int .i64 j) (.int .i64 0);have krec : ∀ M,xl M wc (((wc.setCell ⟨b+1+1+1,0,none⟩ (.pointer (some ⟨B,i*9,none⟩))).setCell ⟨b+1+1+1+1,0,none⟩ (.int .i64 j)).setCell ⟨b+1+1+1+1+1,0,none⟩ (.int .i64 0)):=fun M =>
              xl.of_mod hmst (fun k _ hk o ho=>by
                rcases hk with rfl | rfl | rfl
                · rw[H_z6.out]at ho;cases ho;rfl
                · rw[H_z7.out]at ho;cases ho;rfl
                · rw[H_z8.out]at ho;cases ho;rfl)
            refine⟨(HM6.out.rec _).trans (krec _),rfl,⟨vu Gs (sum%128) pre++pre'.map (fun j=>(i,j)),(i,j),post'.map (fun j=>(i,j))++(if vQ (zn Gs i)then[]else jp Gs (sum%128) post),?_,?_,?_,hil,hj8,?_⟩,HK6.out.trans (krec _)⟩
            · unfold xD
              rw[hpart,HPO.out,UA pre i post HI.out.bl,HSN.out];unfold vu;simp
            · rw[hjl];exact HFL.out
            · rw[hjl,hsl];exact hb
            · have e:vu Gs (sum%128) pre++(pre'++[j]).map (fun j=>(i,j))=(vu Gs (sum%128) pre++pre'.map (fun j=>(i,j)))++[(i,j)]:=by simp
              rw[e]at hst;exact hst
          | false =>
            gi_wp2;refine⟨HM6.out.rec _,?_,⟨HK1.out,HK2'.out,HK3'.out,k4,HK5.out hb,HK6.out,k7⟩⟩;refine⟨HM6.out.size,?_⟩;rintro k rfl _;rw[HK3'.out.set,HI2.out.la.set]
end
end Go.Proofs.YtifbnponicgplaaGreatDoor
