/- Lemmas and contracts of functions. No condition. -/
import Derived.Test.YtdohbogbnheakaaGreatDoorJPfBoth4011
import Derived.LoopN
namespace Go.Proofs.YtdohbogbnheakaaGreatDoor
open _root_.Go.Proofs.Tryz
set_option maxRecDepth 100000
set_option maxHeartbeats 20000000
set_option linter.all false
section
open Go.RowKit Go.Maps Go.Shelf
attribute [local go_sem] Oper.semAt_some
section
variable{w w':World}{D S:Nat→Prop}{o l0 l1 bm:Nat}{lim:Int}{D0 D1:Nat→Prop}{Dm:DataW Unit}{A B:List Wt}
theorem zkj{m:Int}(h1 : -1≤m)(h2:m≤1099511627776)(w:World):Calls prog 98 #[.int .i64 m] w fun e w' => ∃ o l0 l1 bm D D0 D1 Dm,e=.returned (.tuple #[lkP o,.int .i64 0])∧yN w' D o l0 l1 bm m D0 D1 Dm [] []∧zc w w' ∧ ∀ k,D k→w.heap.size≤k:=by
  have d1 : ¬ m < -1:=by omega
  have d2 : ¬ (1099511627776:Int)<m:=by omega
  have HN:=za (fun W=>zgB W);have hmm := @run_makeMap prog;have T1:True:=trivial;go_enter func98,ntmps98
  go_wp2_with (first
    | (go_at_call 168;clear T1;refine(HN.out _).mono ?_;rintro e w1 ⟨l0,D0,rfl,q0,hp1,hf1⟩)
    | (go_at_call 168;refine(HN.out _).mono ?_;rintro e w2 ⟨l1,D1,rfl,q1,hp2,hf2⟩))
  have a1:zc w2 (w2.alloc (.map #[] 0)):=(Mod.refl _ w2).alloc _;have hs1:(w2.alloc (.map #[] 0)).heap.size=w2.heap.size+1:=by simp
  have t1:=xE.new w2;have a3:zc (w2.alloc (.map #[] 0)) ((w2.alloc (.map #[] 0)).alloc (.cells #[lkP l0,lkP l1,.int .i64 0,.int .i64 0,.map (some w2.heap.size),.int .i64 m] 211)):=(Mod.refl _ _).alloc _;have s1:=hp1.size;have s2:=hp2.size;have lt0:=fun k (hk:D0 k)=>q0.lt hk
  have lt1:=fun k (hk:D1 k)=>q1.lt hk
  have hfin:yN ((w2.alloc (.map #[] 0)).alloc (.cells #[lkP l0,lkP l1,.int .i64 0,.int .i64 0,.map (some w2.heap.size),.int .i64 m] 211)) (fun k=>k=w2.heap.size+1∨k=w2.heap.size∨D0 k∨D1 k) (w2.heap.size+1) l0 l1 w2.heap.size m D0 D1 (.map []) [] [] :=
    ⟨zj hs1.symm,((q0.pure hp2).pure a1).pure a3,(q1.pure a1).pure a3,t1.mod a3 (fun h=>h),⟨by omega,fun e=>by have:=lt0 _ e;omega,fun e=>by have:=lt1 _ e;omega,fun e=>by have:=lt0 _ e;omega,fun e=>by have:=lt1 _ e;omega,fun k hk hk2=>by have:=lt0 _ hk;have:=hf2 k hk2;omega⟩,⟨jf,fun x hx=>by cases hx⟩,fun k=>vP⟩
  have hpp:=((hp1.trans hp2).trans a1).trans a3;go_ret2;refine⟨w2.heap.size+1,l0,l1,w2.heap.size,_,D0,D1,_,rfl,hfin,hpp,fun k hk => ?_⟩;rcases hk with rfl | rfl | e | e
  · omega
  · omega
  · exact hf1 k e
  · have:=hf2 k e;omega
theorem xe.isCells{p:Nat}{xs:List Nat}(h:xe w D p xs){k:Nat}(hk:D k) : ∃ ob,w.heap[k]? = some ob∧ob.isCells=true:=by
 obtain⟨q,N,Dl,h1,h2,h3⟩:=h;rcases(h3 k).1 hk with rfl | e
 ·exact⟨_,h1,rfl⟩
 ·obtain⟨gF,gL,cF,cL,F,g1,g2⟩:=h2;rcases(g2 k).1 e with rfl | rfl | rfl
  ·exact⟨_,g1.box,rfl⟩
  ·exact⟨_,g1.fld,rfl⟩
  ·exact⟨_,g1.len,rfl⟩
theorem yN.quiet(h:yN w D o l0 l1 bm lim D0 D1 Dm A B){N:Nat}(hN:bm<N)(hq:zB N w w'):yN w' D o l0 l1 bm lim D0 D1 Dm A B:=by
 refine h.frame hq (fun k hk hs => ?_);obtain⟨h1,ob,h2,h3⟩:=hs;rcases(h.dd k).1 hk with rfl | rfl | e | e
 ·rw[h.box]at h2;cases h2;cases h3
 ·omega
 ·obtain⟨o2,e1,e2⟩:=h.q0.isCells e;rw[e1]at h2;cases h2;rw[e2]at h3;cases h3
 ·obtain⟨o2,e1,e2⟩:=h.q1.isCells e;rw[e1]at h2;cases h2;rw[e2]at h3;cases h3
structure RnS(Wb:World)(lim:Int)(b6 b8 o2 m0 m1 bm2 g:Nat)(It:Nat→Prop)(mk:List Nat)(A2 B2:List Wt)(W:World):Prop where
 dm : ∀ l∈mk,W.heap[l]? = some (.deferred (some []))
 pu:zc Wb W
 z6:W.heap[b6]? = some (.cells #[lkP o2] 129 (0,0))
 z8:W.heap[b8]? = some (.cells #[.int .i64 g] 3 (0,0))
 out : ∃ E E0 E1 Em,yN W E o2 m0 m1 bm2 lim E0 E1 Em A2 B2 ∧ ∀ k,E k→Wb.heap.size≤k∧k≠b6∧k≠b8 ∧ ¬ It k
theorem RnS.quiet{Wb:World}{lim:Int}{b6 b8 o2 m0 m1 bm2 g:Nat}{It:Nat→Prop}{mk:List Nat}{A2 B2:List Wt}{X Y:World}(h:RnS Wb lim b6 b8 o2 m0 m1 bm2 g It mk A2 B2 X){N:Nat}(hN:Wb.heap.size≤N)(hbm:bm2<N)(hmk : ∀ l∈mk,l<N)(hq:zB N X Y):RnS Wb lim b6 b8 o2 m0 m1 bm2 g It mk A2 B2 Y:=by
 obtain⟨E,E0,E1,Em,h1,h2⟩:=h.out;exact⟨fun l hl=>Mod.heap hq (fun hh=>by have h1:=hmk l hl;have h2:=hh.1;omega) (h.dm l hl),hq.mod h.pu hN,hq.cells h.z6,hq.cells h.z8,E,E0,E1,Em,h1.quiet hbm hq,h2⟩
end
end
end Go.Proofs.YtdohbogbnheakaaGreatDoor
