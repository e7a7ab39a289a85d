/- Lemmas and contracts of functions. No condition. -/
import Derived.Test.YtpadepliilhmhaaGreatDoorJPfBoth251
import Derived.KernelRfl
import Derived.OrdersIn
namespace Go.Proofs.YtpadepliilhmhaaGreatDoor
open _root_.Go.Proofs.Tryz
set_option maxRecDepth 100000
set_option maxHeartbeats 20000000
set_option linter.all false
section
open Go.RowKit
theorem ve{w:World}{b j:Nat}{cs:Array Value}{T:TypeId}{v:Value}(h:w.heap[b]? = some (.cells cs T (0,0))):(w.setCell ⟨b,j,none⟩ v).heap[b]? = some (.cells (cs.setIfInBounds j v) T (0,0)):=zT w b j cs T v h
theorem Qd{w:World}{b:Nat}{u0 u1 v0 v1:Value}{T:TypeId}(h:w.heap[b]? = some (.cells #[u0,u1] T (0,0))):((w.setCell ⟨b,0,none⟩ v0).setCell ⟨b,1,none⟩ v1).heap[b]? = some (.cells #[v0,v1] T (0,0)) :=
 ve (j:=1) (ve (j:=0) h)
theorem Mod.set1{w:World}(b j:Nat)(v:Value):Mod (fun i=>i=b) w (w.setCell ⟨b,j,none⟩ v):=(Mod.refl (fun i=>i=b) w).setCell (p:=⟨b,j,none⟩) (fun _=>rfl) v
theorem Mod.set2{w:World}(b j k:Nat)(u v:Value):Mod (fun i=>i=b) w ((w.setCell ⟨b,j,none⟩ u).setCell ⟨b,k,none⟩ v):=(Mod.set1 b j u).trans (Mod.set1 b k v)
theorem Mod.fresh{S:Nat→Prop}{a b c:World}(h:zb a b)(hm:Mod S b c)(hS : ∀ i,S i→a.heap.size≤i):zb a c:=h.then hm (fun i hi hs=>by have:=hS i hs;omega)
theorem zkj {p : Prop} (h : p := by (repeat' (first | (with_reducible exact Mod.refl _ _) | (with_reducible refine Mod.alloc ?_ _) | (with_reducible refine Mod.drew ?_) | (with_reducible refine Mod.drewN ?_ _) | (with_reducible refine Mod.setCell ?_ ?_ _) | (refine Mod.then ?_ (by with_reducible assumption) ?_)))) : p := h
theorem yW {p : Prop} (h : p := by ((repeat' (first | (with_reducible exact Mod.refl _ _) | (with_reducible refine Mod.alloc ?_ _) | (with_reducible refine Mod.drew ?_) | (with_reducible refine Mod.drewN ?_ _) | (with_reducible refine Mod.setCell ?_ ?_ _) | (refine Mod.then ?_ (by with_reducible assumption) ?_))); (all_goals (intros; first | (exfalso; assumption) | omega | (simp at *; done) | (simp at *; omega))))) : p := h
section
variable {P : Program} {ops : Array Oper} {Q : Exit → Act → World → Prop} {md : Region.Mode} {S : World → Prop} {fuel : Nat} {l : Array Bool} {a a' : Act} {w : World}
theorem clA (h : wpAnyH P md ops Q S fuel l a' w) (ha : a = a' := by (try simp only [Act.put, List.getElem_toArray, List.getElem_cons_zero, List.getElem_cons_succ, List.setIfInBounds_toArray, List.set_cons_zero, List.set_cons_succ]); exact rfl) : wpAnyH P md ops Q S fuel l a w := ha ▸ h
theorem hTk (i : Nat) {v : Value} {oi : Oper} (h : wpAnyH P md ops Q S fuel (l.setIfInBounds i true) a' w) (hS : S w := by assumption) (hi : ops[i]? = some oi := by exact rfl) (hs : Region.noSelect ops = true := by kernel_rfl) (hf : Region.free md ops l i = true := by kernel_rfl) (hr : (Region.ready md ops l).contains i = true := by kernel_rfl) (hQ : ∀ c a w, Q (.panic c) (a.put oi.dst v) w → Q (.panic c) a w := by exact fun _ _ _ h => h) (hy : Yields P ops oi v a := by exact Or.inl ⟨by rfl, by (intro w; go_simp; try with_reducible rfl)⟩) (ha : a.put oi.dst v = a' := by (try simp only [Act.put, List.getElem_toArray, List.getElem_cons_zero, List.getElem_cons_succ, List.setIfInBounds_toArray, List.set_cons_zero, List.set_cons_succ]); exact rfl) : wpAnyH P md ops Q S (fuel + 1) l a w :=
  wpAnyH_take hi hs hf hr hQ hy.yieldsIf hS (ha ▸ h)
theorem hLd (i : Nat) {v : Value} {oi : Oper} (h : wpAnyH P md ops Q S fuel (l.setIfInBounds i true) a' w) (hS : S w := by assumption) (hi : ops[i]? = some oi := by exact rfl) (hs : Region.noSelect ops = true := by kernel_rfl) (hf : Region.free md ops l i = true := by kernel_rfl) (hr : (Region.ready md ops l).contains i = true := by kernel_rfl) (hQ : ∀ c a w, Q (.panic c) (a.put oi.dst v) w → Q (.panic c) a w := by exact fun _ _ _ h => h) (hy : YieldsIf P ops S oi v a := by exact Or.inl ⟨by rfl, by (intro w hS; (try subst hS); (repeat (have hs := And.left hS; replace hS := And.right hS)); go_simp; try with_reducible rfl)⟩) (ha : a.put oi.dst v = a' := by (try simp only [Act.put, List.getElem_toArray, List.getElem_cons_zero, List.getElem_cons_succ, List.setIfInBounds_toArray, List.set_cons_zero, List.set_cons_succ]); exact rfl) : wpAnyH P md ops Q S (fuel + 1) l a w :=
  wpAnyH_take hi hs hf hr hQ hy hS (ha ▸ h)
theorem hSk (i : Nat) {oi : Oper} (h : wpAnyH P md ops Q S fuel (l.setIfInBounds i true) a' w) (hS : S w := by assumption) (hi : ops[i]? = some oi := by exact rfl) (hs : Region.noSelect ops = true := by kernel_rfl) (hf : Region.free md ops l i = true := by kernel_rfl) (hr : (Region.ready md ops l).contains i = true := by kernel_rfl) (hQ : ∀ c a w, Q (.panic c) (a.put oi.dst undef) w → Q (.panic c) a w := by exact fun _ _ _ h => h) (hy : YieldsIf P ops S oi undef a := by exact Or.inr ⟨by rfl, rfl⟩) (ha : a.put oi.dst undef = a' := by (try simp only [Act.put, List.getElem_toArray, List.getElem_cons_zero, List.getElem_cons_succ, List.setIfInBounds_toArray, List.set_cons_zero, List.set_cons_succ]); exact rfl) : wpAnyH P md ops Q S (fuel + 1) l a w :=
  wpAnyH_take hi hs hf hr hQ hy hS (ha ▸ h)
theorem hDn (h : Q .normal a w) (hr : Region.ready md ops l = [] := by kernel_rfl) : wpAnyH P md ops Q S fuel l a w := wpAnyH_done hr h _
theorem rHd {id : Nat} {S : World → Prop} (hS : S w.drew) (h : S w.drew → wpAnyH P .any ops Q S ops.size (Array.replicate ops.size false) a w.drew) (hm : P.follows .mixedOrders = true := by kernel_rfl) : (Code.region id ops true).wp P Q a w := wp_region_held_drew hm hS h
theorem hSt (i : Nat) {oi : Oper} (h : ∀ K' : Act → World → Prop, Shut (∀ a w, S w → (S w → wpAnyH P md ops Q S fuel (l.setIfInBounds i true) a w) → K' a w) → if Region.wanted oi (yielded ops a.tmps) = true then Oper.wp P oi a w K' Q else K' (a.put oi.dst undef) w)
    (hr : Region.ready md ops l = [i] := by kernel_rfl) (ho : ops[i]? = some oi := by exact rfl) : wpAnyH P md ops Q S (fuel + 1) l a w :=
  wpAnyH_ready hr (by simp) (AllReadyH.cons ho h AllReadyH.nil)
end
section
variable {w : World} {b T : Nat}
theorem cr1 {c0 : Value} (h : w.heap[b]? = some (.cells #[c0] T (0, 0))) : w.cell? ⟨b, 0, none⟩ = some c0 ∧ (∀ j, w.frozen? ⟨b, j, none⟩ = false) ∧ b < w.heap.size ∧ Hid (w.heap[b]? = some (.cells #[c0] T (0, 0))) :=
  ⟨cell_of_row _ _ 0 _ _ _ h, fun j => frozen_of_row _ _ j _ _ h, lt_of_block h, za h⟩
theorem cr2 {c0 c1 : Value} (h : w.heap[b]? = some (.cells #[c0, c1] T (0, 0))) : w.cell? ⟨b, 0, none⟩ = some c0 ∧ w.cell? ⟨b, 1, none⟩ = some c1 ∧ (∀ j, w.frozen? ⟨b, j, none⟩ = false) ∧ b < w.heap.size ∧ Hid (w.heap[b]? = some (.cells #[c0, c1] T (0, 0))) :=
  ⟨cell_of_row _ _ 0 _ _ _ h, cell_of_row _ _ 1 _ _ _ h, fun j => frozen_of_row _ _ j _ _ h, lt_of_block h, za h⟩
theorem cr3 {c0 c1 c2 : Value} (h : w.heap[b]? = some (.cells #[c0, c1, c2] T (0, 0))) : w.cell? ⟨b, 0, none⟩ = some c0 ∧ w.cell? ⟨b, 1, none⟩ = some c1 ∧ w.cell? ⟨b, 2, none⟩ = some c2 ∧ (∀ j, w.frozen? ⟨b, j, none⟩ = false) ∧ b < w.heap.size ∧ Hid (w.heap[b]? = some (.cells #[c0, c1, c2] T (0, 0))) :=
  ⟨cell_of_row _ _ 0 _ _ _ h, cell_of_row _ _ 1 _ _ _ h, cell_of_row _ _ 2 _ _ _ h, fun j => frozen_of_row _ _ j _ _ h, lt_of_block h, za h⟩
theorem cr4 {c0 c1 c2 c3 : Value} (h : w.heap[b]? = some (.cells #[c0, c1, c2, c3] T (0, 0))) : w.cell? ⟨b, 0, none⟩ = some c0 ∧ w.cell? ⟨b, 1, none⟩ = some c1 ∧ w.cell? ⟨b, 2, none⟩ = some c2 ∧ w.cell? ⟨b, 3, none⟩ = some c3 ∧ (∀ j, w.frozen? ⟨b, j, none⟩ = false) ∧ b < w.heap.size ∧ Hid (w.heap[b]? = some (.cells #[c0, c1, c2, c3] T (0, 0))) :=
  ⟨cell_of_row _ _ 0 _ _ _ h, cell_of_row _ _ 1 _ _ _ h, cell_of_row _ _ 2 _ _ _ h, cell_of_row _ _ 3 _ _ _ h, fun j => frozen_of_row _ _ j _ _ h, lt_of_block h, za h⟩
theorem cr5 {c0 c1 c2 c3 c4 : Value} (h : w.heap[b]? = some (.cells #[c0, c1, c2, c3, c4] T (0, 0))) : w.cell? ⟨b, 0, none⟩ = some c0 ∧ w.cell? ⟨b, 1, none⟩ = some c1 ∧ w.cell? ⟨b, 2, none⟩ = some c2 ∧ w.cell? ⟨b, 3, none⟩ = some c3 ∧ w.cell? ⟨b, 4, none⟩ = some c4 ∧ (∀ j, w.frozen? ⟨b, j, none⟩ = false) ∧ b < w.heap.size ∧ Hid (w.heap[b]? = some (.cells #[c0, c1, c2, c3, c4] T (0, 0))) :=
  ⟨cell_of_row _ _ 0 _ _ _ h, cell_of_row _ _ 1 _ _ _ h, cell_of_row _ _ 2 _ _ _ h, cell_of_row _ _ 3 _ _ _ h, cell_of_row _ _ 4 _ _ _ h, fun j => frozen_of_row _ _ j _ _ h, lt_of_block h, za h⟩
theorem cr6 {c0 c1 c2 c3 c4 c5 : Value} (h : w.heap[b]? = some (.cells #[c0, c1, c2, c3, c4, c5] T (0, 0))) : w.cell? ⟨b, 0, none⟩ = some c0 ∧ w.cell? ⟨b, 1, none⟩ = some c1 ∧ w.cell? ⟨b, 2, none⟩ = some c2 ∧ w.cell? ⟨b, 3, none⟩ = some c3 ∧ w.cell? ⟨b, 4, none⟩ = some c4 ∧ w.cell? ⟨b, 5, none⟩ = some c5 ∧ (∀ j, w.frozen? ⟨b, j, none⟩ = false) ∧ b < w.heap.size ∧ Hid (w.heap[b]? = some (.cells #[c0, c1, c2, c3, c4, c5] T (0, 0))) :=
  ⟨cell_of_row _ _ 0 _ _ _ h, cell_of_row _ _ 1 _ _ _ h, cell_of_row _ _ 2 _ _ _ h, cell_of_row _ _ 3 _ _ _ h, cell_of_row _ _ 4 _ _ _ h, cell_of_row _ _ 5 _ _ _ h, fun j => frozen_of_row _ _ j _ _ h, lt_of_block h, za h⟩
theorem cr7 {c0 c1 c2 c3 c4 c5 c6 : Value} (h : w.heap[b]? = some (.cells #[c0, c1, c2, c3, c4, c5, c6] T (0, 0))) : w.cell? ⟨b, 0, none⟩ = some c0 ∧ w.cell? ⟨b, 1, none⟩ = some c1 ∧ w.cell? ⟨b, 2, none⟩ = some c2 ∧ w.cell? ⟨b, 3, none⟩ = some c3 ∧ w.cell? ⟨b, 4, none⟩ = some c4 ∧ w.cell? ⟨b, 5, none⟩ = some c5 ∧ w.cell? ⟨b, 6, none⟩ = some c6 ∧ (∀ j, w.frozen? ⟨b, j, none⟩ = false) ∧ b < w.heap.size ∧ Hid (w.heap[b]? = some (.cells #[c0, c1, c2, c3, c4, c5, c6] T (0, 0))) :=
  ⟨cell_of_row _ _ 0 _ _ _ h, cell_of_row _ _ 1 _ _ _ h, cell_of_row _ _ 2 _ _ _ h, cell_of_row _ _ 3 _ _ _ h, cell_of_row _ _ 4 _ _ _ h, cell_of_row _ _ 5 _ _ _ h, cell_of_row _ _ 6 _ _ _ h, fun j => frozen_of_row _ _ j _ _ h, lt_of_block h, za h⟩
theorem cr9 {c0 c1 c2 c3 c4 c5 c6 c7 c8 : Value} (h : w.heap[b]? = some (.cells #[c0, c1, c2, c3, c4, c5, c6, c7, c8] T (0, 0))) : w.cell? ⟨b, 0, none⟩ = some c0 ∧ w.cell? ⟨b, 1, none⟩ = some c1 ∧ w.cell? ⟨b, 2, none⟩ = some c2 ∧ w.cell? ⟨b, 3, none⟩ = some c3 ∧ w.cell? ⟨b, 4, none⟩ = some c4 ∧ w.cell? ⟨b, 5, none⟩ = some c5 ∧ w.cell? ⟨b, 6, none⟩ = some c6 ∧ w.cell? ⟨b, 7, none⟩ = some c7 ∧ w.cell? ⟨b, 8, none⟩ = some c8 ∧ (∀ j, w.frozen? ⟨b, j, none⟩ = false) ∧ b < w.heap.size ∧ Hid (w.heap[b]? = some (.cells #[c0, c1, c2, c3, c4, c5, c6, c7, c8] T (0, 0))) :=
  ⟨cell_of_row _ _ 0 _ _ _ h, cell_of_row _ _ 1 _ _ _ h, cell_of_row _ _ 2 _ _ _ h, cell_of_row _ _ 3 _ _ _ h, cell_of_row _ _ 4 _ _ _ h, cell_of_row _ _ 5 _ _ _ h, cell_of_row _ _ 6 _ _ _ h, cell_of_row _ _ 7 _ _ _ h, cell_of_row _ _ 8 _ _ _ h, fun j => frozen_of_row _ _ j _ _ h, lt_of_block h, za h⟩
theorem Zs {c0 c1 c2 c3 c4 c5 c6 c7 c8 c9 : Value} (h : w.heap[b]? = some (.cells #[c0, c1, c2, c3, c4, c5, c6, c7, c8, c9] T (0, 0))) : w.cell? ⟨b, 0, none⟩ = some c0 ∧ w.cell? ⟨b, 1, none⟩ = some c1 ∧ w.cell? ⟨b, 2, none⟩ = some c2 ∧ w.cell? ⟨b, 3, none⟩ = some c3 ∧ w.cell? ⟨b, 4, none⟩ = some c4 ∧ w.cell? ⟨b, 5, none⟩ = some c5 ∧ w.cell? ⟨b, 6, none⟩ = some c6 ∧ w.cell? ⟨b, 7, none⟩ = some c7 ∧ w.cell? ⟨b, 8, none⟩ = some c8 ∧ w.cell? ⟨b, 9, none⟩ = some c9 ∧ (∀ j, w.frozen? ⟨b, j, none⟩ = false) ∧ b < w.heap.size ∧ Hid (w.heap[b]? = some (.cells #[c0, c1, c2, c3, c4, c5, c6, c7, c8, c9] T (0, 0))) :=
  ⟨cell_of_row _ _ 0 _ _ _ h, cell_of_row _ _ 1 _ _ _ h, cell_of_row _ _ 2 _ _ _ h, cell_of_row _ _ 3 _ _ _ h, cell_of_row _ _ 4 _ _ _ h, cell_of_row _ _ 5 _ _ _ h, cell_of_row _ _ 6 _ _ _ h, cell_of_row _ _ 7 _ _ _ h, cell_of_row _ _ 8 _ _ _ h, cell_of_row _ _ 9 _ _ _ h, fun j => frozen_of_row _ _ j _ _ h, lt_of_block h, za h⟩
theorem xz {c0 c1 c2 c3 c4 c5 c6 c7 c8 c9 c10 : Value} (h : w.heap[b]? = some (.cells #[c0, c1, c2, c3, c4, c5, c6, c7, c8, c9, c10] T (0, 0))) : w.cell? ⟨b, 0, none⟩ = some c0 ∧ w.cell? ⟨b, 1, none⟩ = some c1 ∧ w.cell? ⟨b, 2, none⟩ = some c2 ∧ w.cell? ⟨b, 3, none⟩ = some c3 ∧ w.cell? ⟨b, 4, none⟩ = some c4 ∧ w.cell? ⟨b, 5, none⟩ = some c5 ∧ w.cell? ⟨b, 6, none⟩ = some c6 ∧ w.cell? ⟨b, 7, none⟩ = some c7 ∧ w.cell? ⟨b, 8, none⟩ = some c8 ∧ w.cell? ⟨b, 9, none⟩ = some c9 ∧ w.cell? ⟨b, 10, none⟩ = some c10 ∧ (∀ j, w.frozen? ⟨b, j, none⟩ = false) ∧ b < w.heap.size ∧ Hid (w.heap[b]? = some (.cells #[c0, c1, c2, c3, c4, c5, c6, c7, c8, c9, c10] T (0, 0))) :=
  ⟨cell_of_row _ _ 0 _ _ _ h, cell_of_row _ _ 1 _ _ _ h, cell_of_row _ _ 2 _ _ _ h, cell_of_row _ _ 3 _ _ _ h, cell_of_row _ _ 4 _ _ _ h, cell_of_row _ _ 5 _ _ _ h, cell_of_row _ _ 6 _ _ _ h, cell_of_row _ _ 7 _ _ _ h, cell_of_row _ _ 8 _ _ _ h, cell_of_row _ _ 9 _ _ _ h, cell_of_row _ _ 10 _ _ _ h, fun j => frozen_of_row _ _ j _ _ h, lt_of_block h, za h⟩
end
section
variable {F : Fence} {n : Nat} {P : Program} {ops : Array Oper} {Q : Exit → Act → World → Prop} {md : Region.Mode} {fuel : Nat} {l : Array Bool} {a a' : Act} {w : World}
theorem iTk (i : Nat) {oi : Oper} {v : Value} (h : wpAnyIn F n P md ops Q fuel (l.setIfInBounds i true) (a.put oi.dst v) w) (hro : F.round = none := by exact rfl) (hi : ops[i]? = some oi := by exact rfl) (hs : Region.noSelect ops = true := by kernel_rfl) (hf : Region.free md ops l i = true := by kernel_rfl) (hr : (Region.ready md ops l).contains i = true := by kernel_rfl)
    (hQ : ∀ c a w, Q (.panic c) (a.put oi.dst v) w → Q (.panic c) a w := by exact fun _ _ _ h => h) (hy : YieldsFenced P ops oi v a := by exact ⟨Or.inl ⟨by rfl, by (intro w; go_simp; try with_reducible rfl)⟩, fun _ => rfl⟩) : wpAnyIn F n P md ops Q (fuel + 1) l a w :=
  wpAnyIn_take hro hi hs hf hr hQ hy h
theorem iSt (i : Nat) {o : Oper} (h : ∀ K' : Act → World → Prop, (∀ a w, wpAnyIn F n P md ops Q fuel (l.setIfInBounds i true) a w → K' a w) → if Region.wanted o (yielded ops a.tmps) = true then Oper.wpIn F n P o a w K' Q else (∀ f, o.about P w a.eval = some f → F.fn f) ∧ K' (a.put o.dst undef) w)
    (hr : Region.ready md ops l = [i] := by kernel_rfl) (ho : ops[i]? = some o := by exact rfl) : wpAnyIn F n P md ops Q (fuel + 1) l a w :=
  wpAnyIn_ready hr (by simp) (AllReadyIn.cons ho h AllReadyIn.nil)
end
theorem zdt:(prog.info? 5).map (fun i=>(i.zero,i.size,i.bytes))=some (some (.int .u8 0),1,1):=by kernel_rfl
@[go_sem] theorem zk9 (w : World) (a : Option Addr) (n c : Nat) : (binOp .eql 45 (.slice a n c) (.slice none 0 0)).run prog w=.ok (.bool a.isNone) w :=
 Lib.run_eql_slice_nil w _ _ a n c 0 0 underlying45
def vo(w:World)(v:Value):Prop := ∀ g,v.ownBlock=some g→w.heap.size≤g
def yy(w:World)(v:Value)(xs:List Value):Prop:=w.ownsRow 0 5 1 v xs.length xs
theorem qX{w:World}{v:Value}{n:Nat}{xs:List Value}(h:w.ownsRow 0 5 1 v n xs):yy w v xs:=by
 have:=h.1;rw[j3]at this;unfold yy;rw[this];exact h
theorem yy.read{w:World}{v:Value}{xs:List Value}(h:yy w v xs)(h1 : ∀ u∈xs,u.oneCell'=true):zn w v 1 xs:=zn.of_owns h h1
def XH(T k:Nat)(xs:List Value)(w:World)(e:Ending)(w':World):Prop :=
 ∃ a n c,e=.returned (.slice a n c)∧w'.ownsRow 0 T k (.slice a n c) n xs∧vo w (.slice a n c)∧zb w w'
theorem V6(k:Nat)(xs:List Value)(w:World)(n c:Nat)(h:zn w (.slice none n c) k xs):xs=[]:=by
 obtain⟨a',n',c',he,hl,_,h0,_⟩:=h
 cases he
 exact jY (by rw[hl,h0 rfl,Nat.zero_mul])
theorem UB(w:World)(T k:Nat):(w.alloc (.cells #[] T)).ownsRow 0 T k (.slice (some ⟨w.heap.size,0,none⟩) 0 0) 0 [] :=
 ⟨by simp,.inr ⟨_,_,#[],rfl,yk _,heap_alloc_new w _,zH _,by simp[maxLen],by simp,by simp⟩⟩
theorem UI(T k:Nat)(xs:List Value)(w w':World)(a:Option Addr)(m c:Nat)
  (ho:w'.ownsRow 0 T k (.slice a m c) m xs) (hg:(w.alloc (.cells #[] T)).grownBy w' (some w.heap.size)) (hb:(Value.slice a m c).ownBlock=some w.heap.size∨(Value.slice a m c).ownBlock=some (w.heap.size+1)) :
  XH T k xs w (.returned (.slice a m c)) w':=by
 exact⟨a,m,c,rfl,ho,fun g e=>by rcases hb with hb | hb<;>(rw[hb]at e;cases e;omega),
  ((Mod.refl _ w).alloc _).trans' (Mod.of_grown (S:=fun k=>w.heap.size≤k) hg (fun k e _=>by cases e;exact zH _)) (fun _ _ h=>h) (fun i hi h=>by omega)⟩
theorem Az737 {P:Prop}(h:P:=by
 go_ret;simp only[List.nil_append,Nat.zero_add,World.size_alloc]at ho hb;exact UI _ _ _ _ _ _ _ _ ho hg hb):P:=h
theorem Az4m3 {P:Prop}(h:P:=by
 go_wp2;go_ret;exact⟨none,0,0,rfl,by rw[h0];exact vD _ _ _ _,(fun g e=>by cases e),Mod.refl _ _⟩):P:=h
theorem UT(a:Option Addr)(n c:Nat)(xs:List Value)(w:World)(hx:zn w (.slice a n c) 1 xs)(hn:n≤140737488355328) :
  Calls prog 132 #[.slice a n c] w (XH 5 1 xs w):=by
 obtain⟨i0,hi,hz0,hz1,hz2⟩:=xy zdt;have hlen:xs.length=n*1:=by obtain⟨a',n',c',he,hl,_⟩:=hx;cases he;exact hl
 cases a with
 | none =>
  have h0:=V6 _ _ _ _ _ hx;have H:=za hx;clear hx;go_enter func132,ntmps132;exact Az4m3
 | some ad =>
  have H:=za (hx.frame ((Mod.refl (fun _=>False) w).alloc (.cells #[] 5)) (fun _ _ h=>h));clear hx;have HO:=za (UB w 5 1);go_enter func132,ntmps132
  go_wp2_with (at_builtin;refine uE _ rfl _ _ 45 rfl 5 i0 _ 1 1 underlying45 hi hz0 hz1 hz2 rfl (by decide) _ 0 [] rfl HO.out _ xs n rfl H.out hlen (by unfold maxLen;omega) (by omega) ?_;intro a' c' w1 ho hg hb)
  exact Az737
structure Ent where
 key:ByteArray
 val:List UInt8
 dl:Int
 birth:Int
def zS(l:List UInt8):List Value:=l.map fun b => .int .u8 b.toNat
theorem Yy(l:List UInt8) : ∀ u∈zS l,u.oneCell'=true:=by
 intro u hu;obtain⟨_,_,rfl⟩:=zD.1 hu
 rfl
theorem uT(l:List UInt8):(zS l).length=l.length:=by simp[zS]
def kJ(n:Nat):Bool:=decide (0<n)&&decide (n≤250)
def vh(ks:Nat)(n:Nat)(birth:Int):Int:=if !(kJ ks)||birth==0 then 2 else if decide (65536<(n:Int))then 5 else 0
theorem zgI(s:ByteArray)(w:World)(hs:s.size≤140737488355328):Calls prog 140 #[.string s] w fun e w'=>e=.returned (.bool (kJ s.size))∧w=w':=by
 have H:Hid (∀ x:Bool,x=(decide ((0:Int)<s.size)&&decide ((s.size:Int)≤250))→x=kJ s.size):=by
  rintro x rfl;simp only[kJ,Int.natCast_pos]
  congr 2
  exact propext ⟨fun h=>by omega,fun h=>by omega⟩
 by_cases h:0<s.size
 all_goals
  go_enter func140,ntmps140;go_wp2;go_ret;exact⟨congrArg (fun b=>Ending.returned (.bool b)) (H.out _ (by simp[h])),rfl⟩
def zaH(b1 b2:Bool)(e1 e2:Int):Int:=if b1 then e1 else if b2 then e2 else 0
def zgP(b1 b2:Bool)(e1 e2:Int)(w:World)(e:Ending)(w':World):Prop :=
 e=.returned (.int .i64 (zaH b1 b2 e1 e2))∧zb w w'
theorem zfL(b1 b2:Bool)(e1 e2:Int)(g:Nat)(w:World)(h0:w.cell? ⟨g,0,none⟩=some (.bool b1))(h1:w.cell? ⟨g,1,none⟩=some (.int .i64 e1))
  (h2:w.cell? ⟨g,2,none⟩=some (.bool b2)) (h3:w.cell? ⟨g,3,none⟩=some (.int .i64 e2)) (hg:g<w.heap.size) :
  Calls prog 139 #[.slice (some ⟨g,0,none⟩) 2 2] w (zgP b1 b2 e1 e2 w):=by
 have hg1:g<w.heap.size+1:=by omega
 cases b1
 ·cases b2
  all_goals
   go_enter func139,ntmps139;go_wp2
   go_rounds 3
   go_ret;exact⟨rfl,((Mod.refl _ w).alloc _).alloc _⟩
 ·go_enter func139,ntmps139;go_wp2
  go_rounds 3
  go_ret;exact⟨rfl,(Mod.refl _ w).alloc _⟩
def KM(ks n:Nat)(birth:Int)(w:World)(e:Ending)(w':World):Prop:=e=.returned (.int .i64 (vh ks n birth))∧zb w w'
theorem KZ(s:ByteArray)(a:Option Addr)(n c:Nat)(b:Int)(w:World)(hs:s.size≤140737488355328)(hn:n≤140737488355328) :
  Calls prog 86 #[.string s,.slice a n c,.int .u64 b] w (KM s.size n b w):=by
 cases hk:kJ s.size
 all_goals
  have E:=za (show vh s.size n b=zaH (!(kJ s.size)||b==0) (decide (65536<(n:Int))) 2 5 from rfl);go_enter func86,ntmps86
  go_wp2_with (first | (go_at_call 140;refine zm (zgI s w hs) ?_;rintro e w' ⟨rfl,rfl⟩) | (go_at_call 139;refine zm (zfL _ _ _ _ w.heap.size _ (Vd w _ _ 0) (Vd w _ _ 1) (Vd w _ _ 2) (Vd w _ _ 3) (by simp)) ?_;intro e w1 hp;obtain⟨rfl,hp⟩:=hp))
  go_ret;exact⟨by rw[E.out,hk];rfl,((Mod.refl _ _).alloc _).trans hp⟩
def zfW(k:ByteArray)(xs:List Value)(d b:Int)(w:World)(e:Ending)(w':World):Prop :=
 ∃ a n c,e=.returned (.agg #[.string k,.slice a n c,.int .u64 d,.int .u64 b])∧w'.ownsRow 0 5 1 (.slice a n c) n xs∧vo w (.slice a n c)∧zb w w'
theorem VG(k:ByteArray)(a:Option Addr)(n c:Nat)(d b:Int)(xs:List Value)(w:World)(hx:zn w (.slice a n c) 1 xs)(hn:n≤140737488355328) :
  Calls prog 80 #[.agg #[.string k,.slice a n c,.int .u64 d,.int .u64 b]] w (zfW k xs d b w):=by
 have H:=za (hx.frame (((Mod.refl (fun _=>False) w).alloc (.cells #[.string k,.slice a n c,.int .u64 d,.int .u64 b] 47)).alloc (.cells #[.string ByteArray.empty,.slice none 0 0,.int .u64 0,.int .u64 0] 47)) (fun _ _ h=>h));clear hx;go_enter func80,ntmps80
 go_wp2_with (go_at_call 132;refine zm (UT a n c xs _ H.out hn) ?_;rintro e w1 ⟨a',n',c',rfl,hr,hf,hp⟩;have h1:=hp.box (b:=w.heap.size) (zL (zi rfl)) (fun h=>h);have h2:=hp.box (b:=w.heap.size+1) (zi (by simp)) (fun h=>h);obtain⟨h1c,h1f⟩:=h1;obtain⟨h2c,h2f⟩:=h2)
 have hm:=((((((Mod.refl (fun k=>k=w.heap.size∨k=w.heap.size+1) w1).setCell (p:=⟨w.heap.size,1,none⟩) (fun _ => .inl rfl) (.slice a' n' c')).setCell (p:=⟨w.heap.size+1,0,none⟩) (fun _ => .inr rfl) (.string k)).setCell (p:=⟨w.heap.size+1,1,none⟩) (fun _ => .inr rfl) (.slice a' n' c')).setCell (p:=⟨w.heap.size+1,2,none⟩) (fun _ => .inr rfl) (.int .u64 d)).setCell (p:=⟨w.heap.size+1,3,none⟩) (fun _ => .inr rfl) (.int .u64 b));refine zM (v := .agg #[.string k,.slice a' n' c',.int .u64 d,.int .u64 b]) (by simp[results,results80,go_sem,h1c,h2c]) rfl ⟨a',n',c',rfl,zA hr hm ?_,?_,?_⟩
 ·intro g e h;have:=hf g e;simp at this;omega
 ·intro g e;have:=hf g e;simp at this;omega
 ·exact(((Mod.refl (fun k=>w.heap.size≤k) w).alloc _).alloc _).trans' (hp.trans' hm (fun _ _ h=>h.elim) (fun i _ h=>show w.heap.size≤i by omega)) (fun i h h'=>by omega) (fun i h h'=>by omega)
def zig(k:ByteArray)(xs:List Value)(d b:Int)(w:World)(e:Ending)(w':World):Prop :=
 ∃ a n c,e=.returned (.tuple #[.agg #[.string k,.slice a n c,.int .u64 d,.int .u64 b],.int .i64 0])∧w'.ownsRow 0 5 1 (.slice a n c) n xs∧vo w (.slice a n c)∧zb w w'
theorem kD{w:World}{a:Option Addr}{n c k:Nat}{xs:List Value}(h:zn w (.slice a n c) k xs):xs.length=n*k:=by
 obtain⟨a',n',c',he,hl,_⟩:=h
 cases he
 exact hl
theorem JL(k:ByteArray)(a:Option Addr)(n c:Nat)(d b:Int)(xs:List Value)(w:World)(hx:zn w (.slice a n c) 1 xs)(hn:n≤65536)(hk0:0<k.size)(hk:k.size≤250)(hb:(b==0)=false) :
    Calls prog 112 #[.string k,.slice a n c,.int .u64 d,.int .u64 b] w (zig k xs d b w):=by
  have E:vh k.size n b=0:=by
    have:kJ k.size=true:=by simp[kJ,hk0,hk]
    have h2 : ¬ ((65536:Int)<n):=by omega
    simp[vh,this,hb,h2]
  go_enter func112,ntmps112
  go_wp2_with (first
    | (go_at_call 86;refine zm (KZ k a n c b _ (by omega) (by omega)) ?_;rintro e w1 ⟨he,hp⟩;rw[E]at he;subst he;obtain⟨hpc,hpf⟩:=hp.cells;have hz:w.heap.size<w1.heap.size:=by have:=hp.size;simp at this;omega)
    | (go_at_call 80;refine zm (VG k a n c d b xs _ (hx.frame (S:=fun _=>False) (by exact yW) (fun _ _ h=>h)) (by omega)) ?_;rintro e w2 ⟨a',n',c',rfl,hr,hf,hp2⟩;obtain⟨hqc,hqf⟩:=hp2.cells))
  refine zM (v := .tuple #[.agg #[.string k,.slice a' n' c',.int .u64 d,.int .u64 b],.int .i64 0]) (by simp[results,results112,go_sem,hqc,hqf,hpc,hpf,hz]) rfl ⟨a',n',c',rfl,?_,?_,?_⟩
  · refine zA hr (S:=fun k=>k=w.heap.size) ?_ (fun g e h=>by have:=hf g e;omega)
    exact yW
  · intro g e
    have:=hf g e;omega
  · exact yW
end
section
open Go.RowKit
variable{Fo:Nat→Prop}
theorem zb1:(prog.info? 47).map (fun i=>(i.zero,i.size,i.bytes))=some (some (.agg #[.string ⟨#[]⟩,.slice none 0 0,.int .u64 0,.int .u64 0]),4,56):=by kernel_rfl
def y9:Option Ent × Value→List Value
 | (some e,v)=>[.string e.key,v,.int .u64 e.dl,.int .u64 e.birth]
 | (none,_)=>[.string ⟨#[]⟩,.slice none 0 0,.int .u64 0,.int .u64 0]
def zV(L:List (Option Ent)):Nat:=L.countP Option.isSome
structure Ent.Ok(e:Ent):Prop where
 k0:0<e.key.size
 k1:e.key.size≤250
 v1:e.val.length≤65536
 b0:0<e.birth
structure VF(L:List (Option Ent)):Prop where
 len:L.length≤4194304
 ent : ∀ e,some e∈L→e.Ok
structure zP(Fo:Nat→Prop)(w:World)(D:Nat→Prop)(p:Nat)(sv:Value)(M:List (Option Ent × Value)):Prop where
 box:w.heap[p]? = some (.cells #[.bool true,sv,.int .i64 (zV (M.map Prod.fst))] 282 (0,0))
 row:w.ownsRow 0 47 4 sv M.length (M.flatMap y9)
 vals : ∀ e v,(some e,v)∈M→yy w v (zS e.val)
 dd : ∀ k,D k↔(k=p∨sv.ownBlock=some k)
 ok:VF (M.map Prod.fst)
 off : ∀ e v g,(some e,v)∈M→v.ownBlock=some g → ¬ Fo g
 flt : ∀ k,Fo k→k<w.heap.size
def zX(Fo:Nat→Prop)(w:World)(D:Nat→Prop)(p:Nat)(L:List (Option Ent)):Prop := ∃ sv M,M.map Prod.fst=L∧zP Fo w D p sv M
section
variable{w w':World}{D S:Nat→Prop}{p:Nat}{sv:Value}{M:List (Option Ent × Value)}
theorem zP.np(h:zP Fo w D p sv M){g:Nat}(hg:sv.ownBlock=some g):g≠p:=by
 rintro rfl;obtain⟨c,e⟩:=ym h.row hg;rw[h.box]at e
 cases e
theorem zP.lt(h:zP Fo w D p sv M){k:Nat}(hk:D k):k<w.heap.size:=by
 rcases(h.dd k).1 hk with rfl | e
 ·exact zl h.box
 ·exact ua h.row e
theorem zP.nobytes(h:zP Fo w D p sv M){k:Nat}(hk:D k)(cs:Array Value)(fz:Nat × Nat):w.heap[k]? ≠ some (.cells cs 5 fz):=by
 intro e;rcases(h.dd k).1 hk with rfl | e'
 ·rw[h.box]at e;cases e
 ·obtain⟨c,e2⟩:=ym h.row e';rw[e2]at e;cases e
theorem jy{v:Value}{xs:List Value}(h:yy w v xs)(hm:Mod S w w')(hS : ∀ k,k<w.heap.size→S k → ∀ cs fz,w.heap[k]? ≠ some (.cells cs 5 fz)):yy w' v xs :=
 zA h hm (fun g hg hs=>by obtain⟨c,e⟩:=ym h hg;exact hS g (zl e) hs _ _ e)
theorem zP.frame(h:zP Fo w D p sv M)(hm:Mod S w w')(hD : ∀ k,D k → ¬ S k)(hS : ∀ k,k<w.heap.size→S k → ∀ cs fz,w.heap[k]? ≠ some (.cells cs 5 fz)):zP Fo w' D p sv M :=
 ⟨hm.heap (hD p ((h.dd p).2 (.inl rfl))) h.box,zA h.row hm (fun g hg=>hD g ((h.dd g).2 (.inr hg))),fun e v hv=>jy (h.vals e v hv) hm hS,h.dd,h.ok,h.off,fun k hk=>hm.lt (h.flt k hk)⟩
theorem Qn{v:Value}{xs:List Value}(h:yy w v xs)(ho : ∀ g,v.ownBlock=some g → ¬ Fo g)(hm:Mod S w w')(hS : ∀ k,k<w.heap.size→S k→Fo k ∨ ∀ cs fz,w.heap[k]? ≠ some (.cells cs 5 fz)):yy w' v xs :=
 zA h hm (fun g hg hs=>by
  obtain⟨c,e⟩:=ym h hg;rcases hS g (zl e) hs with hf | hf
  ·exact ho g hg hf
  ·exact hf _ _ e)
theorem zP.frameF(h:zP Fo w D p sv M)(hm:Mod S w w')(hD : ∀ k,D k → ¬ S k)(hS : ∀ k,k<w.heap.size→S k→Fo k ∨ ∀ cs fz,w.heap[k]? ≠ some (.cells cs 5 fz)):zP Fo w' D p sv M :=
 ⟨hm.heap (hD p ((h.dd p).2 (.inl rfl))) h.box,zA h.row hm (fun g hg=>hD g ((h.dd g).2 (.inr hg))),fun e v hv=>Qn (h.vals e v hv) (fun g hg=>h.off e v g hv hg) hm hS,h.dd,h.ok,h.off,fun k hk=>hm.lt (h.flt k hk)⟩
theorem zP.refo{Fo':Nat→Prop}(h:zP Fo w D p sv M)(hm:zb w w')(h1 : ∀ k,Fo' k→Fo k∨w.heap.size≤k)(h2 : ∀ k,Fo' k→k<w'.heap.size):zP Fo' w' D p sv M :=
 ⟨hm.heap (fun h=>h) h.box,zA h.row hm (fun _ _ h=>h),fun e v hv=>zA (h.vals e v hv) hm (fun _ _ h=>h),h.dd,h.ok,fun e v g hv hg hf=>(by
  rcases h1 g hf with hx | hx
  ·exact h.off e v g hv hg hx
  ·have:=ua (h.vals e v hv) hg;omega),h2⟩
theorem zP.pure(h:zP Fo w D p sv M)(hm:zb w w'):zP Fo w' D p sv M:=h.frame hm (fun _ _ h=>h) (fun _ _ h=>h.elim)
end
theorem zdG(w:World):Calls prog 126 #[] w fun e w'=>e=.returned (.pointer (some ⟨w.heap.size,0,none⟩))∧w.alloc (.cells #[.bool true,.slice none 0 0,.int .i64 0] 282)=w':=by
 go_enter func126,ntmps126;go_wp2;go_ret;exact⟨rfl,rfl⟩
theorem qG(p:Nat)(b:Bool)(w:World)(h:w.cell? ⟨p,0,none⟩=some (.bool b)):Calls prog 175 #[.pointer (some ⟨p,0,none⟩)] w fun e w'=>e=.returned (.bool (!b))∧w=w':=by
 go_enter func175,ntmps175;go_wp2;go_ret;exact⟨rfl,rfl⟩
theorem Azsac {P:Prop}(h:P:=by
 go_enter func147,ntmps147
 go_wp2_with (go_at_call 175;refine zm (qG p true _ h0) ?_;rintro e w' ⟨rfl,rfl⟩)
 go_ret2;exact⟨rfl,rfl⟩):P:=h
theorem VI(p g n c i:Nat)(b:Int)(w:World)(h0:w.cell? ⟨p,0,none⟩=some (.bool true))(h1:w.cell? ⟨p,1,none⟩=some (.slice (some ⟨g,0,none⟩) n c))(hi:i<n)(hn:n≤4194304)
  (h3:w.cell? ⟨g,i*4+3,none⟩=some (.int .u64 b)) (hb:(b==0)=false) :
  Calls prog 147 #[.pointer (some ⟨p,0,none⟩),.int .u32 i] w fun e w'=>e=.returned (.tuple #[.pointer (some ⟨g,i*4,none⟩),.int .i64 0])∧w=w':=by
 have hi0:(0:Int)≤i:=by omega
 have hi1:(i:Int)<n:=by omega
 exact Azsac
theorem zdV(p g n c i:Nat)(w:World)(h0:w.cell? ⟨p,0,none⟩=some (.bool true))(h1:w.cell? ⟨p,1,none⟩=some (.slice (some ⟨g,0,none⟩) n c))(hi:i<n)(hn:n≤4194304)
  (h3:w.cell? ⟨g,i*4+3,none⟩=some (.int .u64 0)) :
  Calls prog 147 #[.pointer (some ⟨p,0,none⟩),.int .u32 i] w fun e w'=>e=.returned (.tuple #[.pointer none,.int .i64 9])∧w=w':=by
 have hi0:(0:Int)≤i:=by omega
 have hi1:(i:Int)<n:=by omega
 exact Azsac
theorem zeq(p n c i:Nat)(a:Option Addr)(w:World)(h0:w.cell? ⟨p,0,none⟩=some (.bool true))(h1:w.cell? ⟨p,1,none⟩=some (.slice a n c))(hi:n≤i)(hu:i≤4294967295) :
  Calls prog 147 #[.pointer (some ⟨p,0,none⟩),.int .u32 i] w fun e w'=>e=.returned (.tuple #[.pointer none,.int .i64 9])∧w=w':=by
 have hi1:(n:Int)≤i:=by omega
 exact Azsac
theorem je(m:Option Ent × Value):(y9 m).length=4:=by
 obtain⟨o,v⟩:=m
 cases o<;>rfl
theorem zP.cells{w:World}{D:Nat→Prop}{p:Nat}{sv:Value}{M:List (Option Ent × Value)}(h:zP Fo w D p sv M) :
  w.cell? ⟨p,0,none⟩=some (.bool true)∧w.cell? ⟨p,1,none⟩=some sv∧w.cell? ⟨p,2,none⟩=some (.int .i64 (zV (M.map Prod.fst)))∧(∀ j,w.frozen? ⟨p,j,none⟩=false):=by
 have:=h.box;exact⟨by simp[cell_of_row w p _ _ _ _ this],by simp[cell_of_row w p _ _ _ _ this],by simp[cell_of_row w p _ _ _ _ this],fun j=>yP w p j _ _ this⟩
theorem zP.slot{w:World}{D:Nat→Prop}{p:Nat}{sv:Value}{M:List (Option Ent × Value)}(h:zP Fo w D p sv M){i:Nat}{m:Option Ent × Value}(hi:M[i]? = some m) :
  ∃ g c,sv=.slice (some ⟨g,0,none⟩) M.length c∧g<w.heap.size∧g≠p∧i<M.length∧M.length≤4194304∧(∀ j u,(y9 m)[j]? = some u→w.cell? ⟨g,i*4+j,none⟩=some u) ∧ ∀ j,w.frozen? ⟨g,j,none⟩=false:=by
 have hlt:i<M.length:=(zC.1 hi).1;obtain⟨g,c,rfl,_,hg,hc,hf,_⟩:=kh h.row (by omega);have ng:=h.np (g:=g) rfl;have hlen:=h.ok.len;rw[yB]at hlen;refine⟨g,c,rfl,hg,ng,hlt,hlen,fun j u hu=>hc _ _ ?_,hf⟩;have hj:j<4:=by rw[← je m];exact(zC.1 hu).1
 rw[uL y9 4 je j hj,hi];exact hu
def zbn(o:Option Ent)(w:World)(e:Ending)(w':World):Prop :=
 match o with
 | some x => ∃ a n c,e=.returned (.tuple #[.agg #[.string x.key,.slice a n c,.int .u64 x.dl,.int .u64 x.birth],.int .i64 0])∧yy w' (.slice a n c) (zS x.val)∧vo w (.slice a n c)∧zb w w'
 | none=>e=.returned (.tuple #[.agg #[.string ⟨#[]⟩,.slice none 0 0,.int .u64 0,.int .u64 0],.int .i64 9])∧zb w w'
def qH(M:List (Option Ent × Value))(i:Nat):Option Ent:=(M[i]?).bind Prod.fst
theorem zkH{w:World}{D:Nat→Prop}{p:Nat}{sv:Value}{M:List (Option Ent × Value)}(h:zP Fo w D p sv M){i:Nat}{x:Ent}{v:Value}(hi:M[i]? = some (some x,v)) :
  Calls prog 96 #[.pointer (some ⟨p,0,none⟩),.int .u32 i] w (zbn (some x) w):=by
 obtain⟨g,c,rfl,hg,ng,hlt,hn,hc,hf⟩:=h.slot hi;obtain⟨c0,c1,c2,cf⟩:=h.cells;have hx:=(h.vals x v (yh hi)).read (Yy _);have hok:=h.ok.ent x (zD.2 ⟨_,yh hi,rfl⟩);have s0:w.cell? ⟨g,i*4,none⟩=_:=hc 0 _ rfl;have s1:=hc 1 _ rfl;have s2:=hc 2 _ rfl;have s3:=hc 3 _ rfl;have hlp:p<w.heap.size:=Yf w _ c0;have hb:(x.birth==0)=false:=by have:=hok.b0;simp;omega
 obtain⟨a,n,cc,rfl,hl,_⟩:=id hx;have hn':n≤140737488355328:=by have:=hok.v1;rw[uT]at hl;omega
 have H:=za (hx.frame ((Mod.refl (fun _=>False) w).alloc (.cells #[.string ByteArray.empty,.slice none 0 0,.int .u64 0,.int .u64 0] 47)) (fun _ _ h=>h));have HL:=za h;clear h hx hc hl;have hlp1:p<w.heap.size+1:=by omega
 have hg1:g<w.heap.size+1:=by omega
 go_enter func96,ntmps96
 go_wp2_with (first | (go_at_call 147;refine zm (VI p g _ c i x.birth _ (by simpa[go_sem,hlp]using c0) (by simpa[go_sem,hlp]using c1) hlt hn (by simpa[go_sem,hg]using s3) hb) ?_;rintro e w' ⟨rfl,rfl⟩) | (go_at_call 80;refine zm (VG x.key a n cc _ _ _ _ H.out hn') ?_;rintro e w1 ⟨a',n',c',rfl,hr,hf,hp⟩;obtain⟨hpc,hpf⟩:=hp.cells))
 refine zM (v := .tuple #[.agg #[.string x.key,.slice a' n' c',.int .u64 x.dl,.int .u64 x.birth],.int .i64 0]) (by simp[results,results96,go_sem,hpc,hpf]) rfl ⟨a',n',c',rfl,?_,?_,?_⟩
 ·refine zA (qX hr) (S:=fun k=>k=w.heap.size) ?_ (fun g e h=>by have:=hf g e;simp at this;omega);exact yW
 ·intro g e;have:=hf g e;simp at this;omega
 ·exact yW
def vA(D D':Nat→Prop)(w:World):Prop := ∀ k,D' k→D k∨w.heap.size≤k
def zgo(Fo:Nat→Prop)(w:World)(D:Nat→Prop)(p:Nat)(M:List (Option Ent × Value))(x:Ent)(e:Ending)(w':World):Prop :=
 e=.returned (.tuple #[.int .u32 M.length,.int .i64 0]) ∧ ∃ D' sv' v',zP Fo w' D' p sv' (M++[(some x,v')])∧Mod D w w'∧vA D D' w
theorem zbE(L:List (Option Ent)):zV L≤L.length:=VE
theorem zjx{w W Wg w2:World}{D:Nat→Prop}{p:Nat}{sv sv2 v:Value}{M:List (Option Ent × Value)}{x:Ent}(HL:zP Fo w D p sv M)(hL:M.length<4194304)(HO:x.Ok)(HP:zb w W)(HG:zb W Wg)
  (hgrow:Wg.grownBy w2 sv.ownBlock) (hown:w2.ownsRow 0 47 4 sv2 (M.length+1) (M.flatMap y9++[.string x.key,v,.int .u64 x.dl,.int .u64 x.birth]))
  (hat:sv2.ownBlock=sv.ownBlock∨sv2.ownBlock=some Wg.heap.size) (hrd:yy W v (zS x.val)) (hfr : ∀ g,v.ownBlock=some g→w.heap.size≤g) :
  ∃ D' sv' v',zP Fo ((w2.setCell ⟨p,1,none⟩ sv2).setCell ⟨p,2,none⟩ (.int .i64 ((zV (M.map Prod.fst):Int)+1))) D' p sv' (M++[(some x,v')]) ∧
   Mod D w ((w2.setCell ⟨p,1,none⟩ sv2).setCell ⟨p,2,none⟩ (.int .i64 ((zV (M.map Prod.fst):Int)+1)))∧vA D D' w:=by
 have hlp:p<w.heap.size:=zl HL.box;have hWp:=HP.then HG (fun _ _ h=>h);have sz1:=hWp.size;have HLg:=HL.pure hWp;have hb2:w2.heap[p]? = some (.cells #[.bool true,sv,.int .i64 (zV (M.map Prod.fst))] 282 (0,0)):=by
  rw[hgrow.block p (by omega) (fun e=>HL.np e.symm rfl)];exact HLg.box
 have hbox:((w2.setCell ⟨p,1,none⟩ sv2).setCell ⟨p,2,none⟩ (.int .i64 ((zV (M.map Prod.fst):Int)+1))).heap[p]? = some (.cells #[.bool true,sv2,.int .i64 ((zV (M.map Prod.fst):Int)+1)] 282 (0,0)):=by
  have h1:=zT w2 p 1 _ _ sv2 hb2;exact zT _ p 2 _ _ (.int .i64 ((zV (M.map Prod.fst):Int)+1)) h1
 have hset:Mod (fun k=>k=p) w2 ((w2.setCell ⟨p,1,none⟩ sv2).setCell ⟨p,2,none⟩ (.int .i64 ((zV (M.map Prod.fst):Int)+1))) :=
  ((Mod.refl (fun k=>k=p) w2).setCell (p:=⟨p,1,none⟩) (fun _=>rfl) _).setCell (p:=⟨p,2,none⟩) (fun _=>rfl) _
 have hall:Mod D Wg ((w2.setCell ⟨p,1,none⟩ sv2).setCell ⟨p,2,none⟩ (.int .i64 ((zV (M.map Prod.fst):Int)+1))) :=
  (Mod.of_grown hgrow (S:=D) (fun k e _=>(HL.dd k).2 (.inr e))).trans' hset (fun _ _ h=>h) (fun i _ h=>(HL.dd i).2 (.inl h))
 have hnb:=fun k (_:k<Wg.heap.size) (hk:D k) cs fz=>HLg.nobytes hk cs fz
 have hnp2 : ∀ g,sv2.ownBlock=some g→g≠p:=fun g e=>by
  rcases hat with h | h
  ·exact HL.np (h ▸ e)
  ·rw[h]at e;cases e;omega
 refine⟨fun k=>k=p∨sv2.ownBlock=some k,sv2,v,⟨?_,?_,?_,fun _=>vg,?_,?_,fun k hk=>hall.lt (hWp.lt (HL.flt k hk))⟩,?_,?_⟩
 ·rw[hbox];simp[zV]
 ·have:=zA hown hset (fun g e h=>hnp2 g e h);simpa[y9]using this
 ·intro e u hm;rw[yz]at hm;rcases hm with hm | hm
  ·exact jy (HLg.vals e u hm) hall hnb
  ·simp at hm;obtain⟨rfl,rfl⟩:=hm;exact jy (zA hrd HG (fun _ _ h=>h)) hall hnb
 ·refine⟨by simp;omega,fun e he => ?_⟩;simp at he;rcases he with he | he
  ·exact HL.ok.ent e (by simpa using he)
  ·subst he;exact HO
 ·intro e u g hm hg hf;rw[yz]at hm;rcases hm with hm | hm
  ·exact HL.off e u g hm hg hf
  ·simp at hm;obtain⟨rfl,rfl⟩:=hm;have:=hfr g hg;have:=HL.flt g hf;omega
 ·exact hWp.trans' hall (fun _ _ h=>h.elim) (fun _ _ h=>h)
 ·rintro k (h | h)
  ·exact .inl ((HL.dd k).2 (.inl h))
  ·rcases hat with h' | h'
   ·exact .inl ((HL.dd k).2 (.inr (h' ▸ h)))
   ·rw[h']at h;cases h;exact .inr sz1
theorem zjn{w:World}{D:Nat→Prop}{p:Nat}{sv:Value}{M:List (Option Ent × Value)}(h:zP Fo w D p sv M)(hL:M.length<4194304)(x:Ent)(hok:x.Ok)(a:Option Addr)(n c:Nat)
    (hx:zn w (.slice a n c) 1 (zS x.val)) :
    Calls prog 115 #[.pointer (some ⟨p,0,none⟩),.agg #[.string x.key,.slice a n c,.int .u64 x.dl,.int .u64 x.birth]] w (zgo Fo w D p M x):=by
  obtain⟨sa,sc,rfl,_⟩:=kx h.row;obtain⟨c0,c1,c2,cf⟩:=h.cells;have hlp:p<w.heap.size:=Yf w _ c0;have hb:(x.birth==0)=false:=by have:=hok.b0;simp;omega
  have hn:n≤65536:=by have:=kD hx;rw[uT]at this;have:=hok.v1;omega
  obtain⟨i0,hi,iz0,iz1,iz2⟩:=xy zb1;have ng : ∀ g,(Value.slice sa M.length sc).ownBlock=some g→g≠p∧g<w.heap.size:=fun g e=>⟨h.np e,ua h.row e⟩
  have NG:=za ng;clear ng;have H:=za hx;have HL:=za h;have HO:=za hok;have hd:decide ((4194304:Int)≤(M.length:Int))=false:=by simp;omega
  have HLL:=za hL;clear h hx hok hL;have hlp1:p<w.heap.size+1:=by omega
  go_enter func115,ntmps115;go_upto_region 8 with(first
    | (go_at_call 175;refine zm (qG p true _ (by simpa[go_sem,hlp]using c0)) ?_;rintro e w' ⟨rfl,rfl⟩)
    | (go_at_call 112;go_must (refine zm (JL x.key a n c _ _ (zS x.val) _ (H.out.frame (S:=fun _=>False) (by exact yW) (fun _ _ h=>h)) hn HO.out.k0 HO.out.k1 hb) ?_);rintro e w1 ⟨a',n',c',rfl,hr,hf,hp⟩;obtain⟨hpc,hpf⟩:=hp.cells;have hz:w.heap.size<w1.heap.size:=(by have:=hp.size;simp at this;omega);have hz2:p<w1.heap.size:=(by omega)))
  have HP:zb w (w1.alloc (.cells #[.string x.key,.slice a' n' c',.int .u64 x.dl,.int .u64 x.birth] 47)):=by
    exact yW
  have hB:w.heap.size≤w1.heap.size∧(w1.alloc (.cells #[.string x.key,.slice a' n' c',.int .u64 x.dl,.int .u64 x.birth] 47)).heap[w1.heap.size]? = some (.cells #[.string x.key,.slice a' n' c',.int .u64 x.dl,.int .u64 x.birth] 47 (0,0)):=⟨by omega,zi rfl⟩;have HRD:yy (w1.alloc (.cells #[.string x.key,.slice a' n' c',.int .u64 x.dl,.int .u64 x.birth] 47)) (.slice a' n' c') (zS x.val):=zA (qX hr) ((Mod.refl (fun _=>False) w1).alloc _) (fun _ _ h=>h);have hfr : ∀ g,(Value.slice a' n' c').ownBlock=some g→w.heap.size<g:=fun g e=>by have:=hf g e;simp at this;omega
  generalize hW:w1.alloc (.cells #[.string x.key,.slice a' n' c',.int .u64 x.dl,.int .u64 x.birth] 47)=W at HP hB HRD ⊢;generalize w1.heap.size=B at hB ⊢;clear hW hpc hpf hz hz2 hp hr hf hlp1;have HROW:=za (zA HL.out.row HP (fun _ _ h=>h));have e1:=HP.cell (fun h=>h) c1;have e2:=HP.cell (fun h=>h) c2;have ef : ∀ j,W.frozen? ⟨p,j,none⟩=false:=fun j=>(Y1 (w:=w) (a:=⟨p,j,none⟩) (HP.block p hlp (fun h=>h))).trans (cf j)
  have lp:p<W.heap.size:=HP.lt hlp;have b0:=zj W B 0 _ _ _ hB.2;have b1:=zj W B 1 _ _ _ hB.2;have b2:=zj W B 2 _ _ _ hB.2;have b3:=zj W B 3 _ _ _ hB.2;simp at b0 b1 b2 b3;have lB:B<W.heap.size:=zl hB.2;have np:Hid (some p≠(Value.slice sa M.length sc).ownBlock):=fun e=>(NG.out p e.symm).1 rfl
  have nb:Hid (some B≠(Value.slice sa M.length sc).ownBlock):=fun e=>by have:=(NG.out _ e.symm).2;omega
  have HHB:=za hB;have HHP:=za HP;have HH1:=za HRD;have HH2:=za hfr;clear hB HP HRD hfr;generalize hlv:(zV (M.map Prod.fst))=lv at e2 ⊢;have hlv2:lv≤4194304:=by have:=zbE (M.map Prod.fst);rw[yB]at this;have:=HLL.out;omega
  have HLV:=za hlv;clear hlv c0 c1 c2 cf
  go_region_law ((refine Vn _ (by rfl) _ _ 93 (by rfl) 47 i0 _ 4 56 underlying93 hi iz0 iz1 iz2 rfl (by decide) (.slice sa M.length sc) M.length _ (by rfl) ((HROW.out.alloc _).drew) _ [.string x.key,.slice a' n' c',.int .u64 x.dl,.int .u64 x.birth] 1 (by rfl) (zn.of_block 1 1 4 (zi (by simp)) (by rfl) (by simp[Value.oneCell'])) (by rfl) (by unfold maxLen;have:=HLL.out;omega) (by have:=HLL.out;omega) ?_;intro a2 cc2 w2 hown2 hgrow2 hat2;have f2 : ∀ j,w2.frozen? ⟨p,j,none⟩=false:=(fun j=>(hgrow2.frozen_far ⟨p,j,none⟩ (by simp;omega) np.out).trans ((World.frozen?_alloc_past _ _ _ lp).trans (ef j)));have f3:=(hgrow2.cell (a:=⟨p,1,none⟩) (v := .slice sa M.length sc) (by simp[*,World.cell?_alloc_some,World.cell?_setCell_far,go_sem]) np.out);have f4:=(hgrow2.cell (a:=⟨p,2,none⟩) (v := .int .i64 lv) (by simp[*,World.cell?_alloc_some,World.cell?_setCell_far,go_sem]) np.out)))
  all_goals
    go_wp2;go_ret2;refine⟨by simp;exact zdj _ (by have:=HLL.out;omega),?_⟩;rw[← HLV.out];exact zjx HL.out HLL.out HO.out HHP.out (by exact yW) hgrow2 hown2 (by simpa using hat2) HH1.out (fun g e=>qI (HH2.out g e))
theorem zP.miss{w:World}{D:Nat→Prop}{p:Nat}{sv:Value}{M:List (Option Ent × Value)}(h:zP Fo w D p sv M){i:Nat}(hu:i≤4294967295)(hi:qH M i=none) :
  ∀ W,zb w W→Calls prog 147 #[.pointer (some ⟨p,0,none⟩),.int .u32 i] W fun e w'=>e=.returned (.tuple #[.pointer none,.int .i64 9])∧W=w':=by
 intro W hW;have h:=h.pure hW;obtain⟨c0,c1,c2,cf⟩:=h.cells;by_cases hlt:i<M.length
 ·have he:=zQ hlt;generalize M[i]=m at he;obtain⟨o,v⟩:=m;have ho:o=none:=by simpa[qH,he]using hi
  subst ho;obtain⟨g,c,rfl,hg,ng,_,hn,hc,hf⟩:=h.slot he;exact zdV p g _ c i W c0 c1 hlt hn (hc 3 _ rfl)
 ·obtain⟨a,c,rfl,_⟩:=kx h.row;exact zeq p _ c i a W c0 c1 (by omega) hu
theorem zck{w:World}{D:Nat→Prop}{p:Nat}{sv:Value}{M:List (Option Ent × Value)}(h:zP Fo w D p sv M){i:Nat}(hu:i≤4294967295)(hi:qH M i=none) :
  Calls prog 96 #[.pointer (some ⟨p,0,none⟩),.int .u32 i] w (zbn none w):=by
 have HA:=za (h.miss hu hi);clear h;go_enter func96,ntmps96
 go_wp2_with (go_at_call 147;refine(HA.out _ (by exact yW)).mono ?_;rintro e w' ⟨rfl,rfl⟩)
 refine zM (v := .tuple #[.agg #[.string ⟨#[]⟩,.slice none 0 0,.int .u64 0,.int .u64 0],.int .i64 9]) (by simp[results,results96,go_sem]) rfl ⟨rfl,?_⟩;exact yW
theorem Azewz {P:Prop}(h:P:=by
 go_wp2_with (go_at_call 175;refine zm (qG p true _ c0) ?_;rintro e w' ⟨rfl,rfl⟩)
 go_ret;exact⟨rfl,rfl⟩):P:=h
theorem zjW{w:World}{D:Nat→Prop}{p:Nat}{sv:Value}{M:List (Option Ent × Value)}(h:zP Fo w D p sv M) :
  Calls prog 158 #[.pointer (some ⟨p,0,none⟩)] w fun e w'=>e=.returned (.int .i64 M.length)∧w=w':=by
 obtain⟨c0,c1,c2,cf⟩:=h.cells;obtain⟨a,c,rfl,_⟩:=kx h.row;clear h;go_enter func158,ntmps158;exact Azewz
theorem zdn{w:World}{D:Nat→Prop}{p:Nat}{sv:Value}{M:List (Option Ent × Value)}(h:zP Fo w D p sv M) :
  Calls prog 141 #[.pointer (some ⟨p,0,none⟩)] w fun e w'=>e=.returned (.int .i64 (zV (M.map Prod.fst)))∧w=w':=by
 obtain⟨c0,c1,c2,cf⟩:=h.cells;clear h;go_enter func141,ntmps141;exact Azewz
@[go_sem] theorem zlu (w : World) (a : Option Addr) (n c : Nat) : (binOp .eql 93 (.slice a n c) (.slice none 0 0)).run prog w=.ok (.bool a.isNone) w :=
 Lib.run_eql_slice_nil w _ _ a n c 0 0 underlying93
theorem zbU(a:Option Addr)(n c:Nat)(xs:List Value)(w:World)(hx:zn w (.slice a n c) 4 xs)(hn:n≤4294967295) :
  Calls prog 236 #[.slice a n c] w (XH 47 4 xs w):=by
 obtain⟨i0,hi,hz0,hz1,hz2⟩:=xy zb1;have hlen:xs.length=n*4:=kD hx
 cases a with
 | none =>
  have h0:=V6 _ _ _ _ _ hx;have H:=za hx;clear hx;go_enter func236,ntmps236;exact Az4m3
 | some ad =>
  have H:=za (hx.frame ((Mod.refl (fun _=>False) w).alloc (.cells #[] 47)) (fun _ _ h=>h));clear hx;have HO:=za (UB w 47 4);go_enter func236,ntmps236
  go_wp2_with (at_builtin;refine uE _ rfl _ _ 93 rfl 47 i0 _ 4 56 underlying93 hi hz0 hz1 hz2 rfl (by decide) _ 0 [] rfl HO.out _ xs n rfl H.out hlen (by unfold maxLen;omega) (by omega) ?_;intro a' c' w1 ho hg hb)
  exact Az737
theorem zgQ{M:List (Option Ent × Value)}{w:World}(h : ∀ e v,(some e,v)∈M→yy w v (zS e.val)) : ∀ u∈M.flatMap y9,u.oneCell'=true:=by
 intro u hu;obtain⟨⟨o,v⟩,hm,hu⟩:=Zh.1 hu
 cases o with
 | none=>simp[y9]at hu;rcases hu with rfl | rfl | rfl<;>rfl
 | some e =>
  obtain⟨a,c,hv,_⟩:=kx (h e v hm);simp[y9,hv]at hu;rcases hu with rfl | rfl | rfl | rfl<;>rfl
theorem zP.read{w:World}{D:Nat→Prop}{p:Nat}{sv:Value}{M:List (Option Ent × Value)}(h:zP Fo w D p sv M):zn w sv 4 (M.flatMap y9) :=
 zn.of_owns h.row (zgQ h.vals)
def zfp(Fo:Nat→Prop)(w:World)(M:List (Option Ent × Value))(e:Ending)(w':World):Prop :=
 ∃ q sv' D',e=.returned (.pointer (some ⟨q,0,none⟩))∧zP Fo w' D' q sv' M∧zb w w' ∧ ∀ k,D' k→w.heap.size≤k
theorem zdR{w:World}{D:Nat→Prop}{p:Nat}{sv:Value}{M:List (Option Ent × Value)}(h:zP Fo w D p sv M) :
  Calls prog 235 #[.pointer (some ⟨p,0,none⟩)] w (zfp Fo w M):=by
 obtain⟨c0,c1,c2,cf⟩:=h.cells;obtain⟨a,c,rfl,_⟩:=kx h.row;have HR:=za h.read;have HL:=za h;have hn:M.length≤4294967295:=by have:=h.ok.len;rw[yB]at this;omega
 clear h;go_enter func235,ntmps235;go_upto_region 3 with(go_at_call 175;refine zm (qG p true _ c0) ?_;rintro e w' ⟨rfl,rfl⟩)
 go_region_held3 (fun w'=>w'.cell? ⟨p,1,none⟩=some (.slice a M.length c)∧w'.cell? ⟨p,2,none⟩=some (.int .i64 (zV (M.map Prod.fst))))
  (first | exact⟨c1,c2⟩ | exact⟨hp.cell (fun h=>h) c1,hp.cell (fun h=>h) c2⟩ | exact⟨(hp.alloc _).cell (fun h=>h) c1,(hp.alloc _).cell (fun h=>h) c2⟩)
  (first | (go_at_call 236;refine zm (zbU a M.length c _ _ HR.out hn) ?_;rintro e w1 ⟨a',n',c',rfl,hr,hf,hp⟩))
 go_wp2;go_ret;obtain rfl:=Qg hr (by decide) (ZQ y9 4 je M);have hq:(w1.alloc (.cells #[.bool true,.slice a' M.length c',.int .i64 (zV (M.map Prod.fst))] 282)).heap[w1.heap.size]? = _:=zi rfl;have hp':zb w w1:=hp.of_drew;refine⟨w1.heap.size,.slice a' M.length c',fun k=>k=w1.heap.size∨(Value.slice a' M.length c').ownBlock=some k,rfl,⟨hq,?_,fun e v hm => ?_,fun _=>vg,HL.out.ok,HL.out.off,fun k hk=>(hp'.alloc _).lt (HL.out.flt k hk)⟩,hp'.alloc _,?_⟩
 ·exact zA hr ((Mod.refl (fun _=>False) w1).alloc _) (fun _ _ h=>h)
 ·exact zA (HL.out.vals e v hm) (hp'.alloc _) (fun _ _ h=>h)
 ·rintro k (rfl | h)
  ·exact hp'.size
  ·exact hf k h
theorem zkc{w:World}{q:Nat}(hFo : ∀ k,Fo k→k<w.heap.size)(h:w.heap[q]? = some (.cells #[.bool true,.slice none 0 0,.int .i64 0] 282 (0,0))):zP Fo w (fun k=>k=q) q (.slice none 0 0) [] :=
 ⟨h,vD _ _ _ _,(fun _ _ h=>by cases h),fun k=>⟨.inl,fun h=>by rcases h with h | h;exact h;cases h⟩,⟨by simp,fun _ h=>by simp at h⟩,(fun _ _ _ h=>by cases h),hFo⟩
end
end Go.Proofs.YtpadepliilhmhaaGreatDoor
