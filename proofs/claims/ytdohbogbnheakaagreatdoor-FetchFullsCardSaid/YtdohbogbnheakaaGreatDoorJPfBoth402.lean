/- Lemmas and contracts of functions. No condition. -/
import Derived.Test.YtdohbogbnheakaaGreatDoorJPfBoth401
import Derived.KernelRfl
import Derived.OrdersIn
namespace Go.Proofs.YtdohbogbnheakaaGreatDoor
open _root_.Go.Proofs.Tryz
set_option maxRecDepth 100000
set_option maxHeartbeats 20000000
set_option linter.all false
section
open Go.RowKit
theorem UW {p : Prop} (h : p := by (repeat' (first | (with_reducible exact Mod.refl _ _) | (with_reducible refine Mod.alloc ?_ _) | (with_reducible refine Mod.drew ?_) | (with_reducible refine Mod.drewN ?_ _) | (with_reducible refine Mod.setCell ?_ ?_ _) | (refine Mod.then ?_ (by with_reducible assumption) ?_)))) : p := h
theorem yx {p : Prop} (h : p := by ((repeat' (first | (with_reducible exact Mod.refl _ _) | (with_reducible refine Mod.alloc ?_ _) | (with_reducible refine Mod.drew ?_) | (with_reducible refine Mod.drewN ?_ _) | (with_reducible refine Mod.setCell ?_ ?_ _) | (refine Mod.then ?_ (by with_reducible assumption) ?_))); (all_goals (intros; first | (exfalso; assumption) | omega | (simp at *; done) | (simp at *; omega))))) : p := h
section
variable {P : Program} {ops : Array Oper} {Q : Exit → Act → World → Prop} {md : Region.Mode} {S : World → Prop} {fuel : Nat} {l : Array Bool} {a a' : Act} {w : World}
theorem clA (h : wpAnyH P md ops Q S fuel l a' w) (ha : a = a' := by (try simp only [Act.put, List.getElem_toArray, List.getElem_cons_zero, List.getElem_cons_succ, List.setIfInBounds_toArray, List.set_cons_zero, List.set_cons_succ]); exact rfl) : wpAnyH P md ops Q S fuel l a w := ha ▸ h
theorem hTk (i : Nat) {v : Value} {oi : Oper} (h : wpAnyH P md ops Q S fuel (l.setIfInBounds i true) a' w) (hS : S w := by assumption) (hi : ops[i]? = some oi := by exact rfl) (hs : Region.noSelect ops = true := by kernel_rfl) (hf : Region.free md ops l i = true := by kernel_rfl) (hr : (Region.ready md ops l).contains i = true := by kernel_rfl) (hQ : ∀ c a w, Q (.panic c) (a.put oi.dst v) w → Q (.panic c) a w := by exact fun _ _ _ h => h) (hy : Yields P ops oi v a := by exact Or.inl ⟨by rfl, by (intro w; go_simp; try with_reducible rfl)⟩) (ha : a.put oi.dst v = a' := by (try simp only [Act.put, List.getElem_toArray, List.getElem_cons_zero, List.getElem_cons_succ, List.setIfInBounds_toArray, List.set_cons_zero, List.set_cons_succ]); exact rfl) : wpAnyH P md ops Q S (fuel + 1) l a w :=
  wpAnyH_take hi hs hf hr hQ hy.yieldsIf hS (ha ▸ h)
theorem hLd (i : Nat) {v : Value} {oi : Oper} (h : wpAnyH P md ops Q S fuel (l.setIfInBounds i true) a' w) (hS : S w := by assumption) (hi : ops[i]? = some oi := by exact rfl) (hs : Region.noSelect ops = true := by kernel_rfl) (hf : Region.free md ops l i = true := by kernel_rfl) (hr : (Region.ready md ops l).contains i = true := by kernel_rfl) (hQ : ∀ c a w, Q (.panic c) (a.put oi.dst v) w → Q (.panic c) a w := by exact fun _ _ _ h => h) (hy : YieldsIf P ops S oi v a := by exact Or.inl ⟨by rfl, by (intro w hS; (try subst hS); (repeat (have hs := And.left hS; replace hS := And.right hS)); go_simp; try with_reducible rfl)⟩) (ha : a.put oi.dst v = a' := by (try simp only [Act.put, List.getElem_toArray, List.getElem_cons_zero, List.getElem_cons_succ, List.setIfInBounds_toArray, List.set_cons_zero, List.set_cons_succ]); exact rfl) : wpAnyH P md ops Q S (fuel + 1) l a w :=
  wpAnyH_take hi hs hf hr hQ hy hS (ha ▸ h)
theorem hSk (i : Nat) {oi : Oper} (h : wpAnyH P md ops Q S fuel (l.setIfInBounds i true) a' w) (hS : S w := by assumption) (hi : ops[i]? = some oi := by exact rfl) (hs : Region.noSelect ops = true := by kernel_rfl) (hf : Region.free md ops l i = true := by kernel_rfl) (hr : (Region.ready md ops l).contains i = true := by kernel_rfl) (hQ : ∀ c a w, Q (.panic c) (a.put oi.dst undef) w → Q (.panic c) a w := by exact fun _ _ _ h => h) (hy : YieldsIf P ops S oi undef a := by exact Or.inr ⟨by rfl, rfl⟩) (ha : a.put oi.dst undef = a' := by (try simp only [Act.put, List.getElem_toArray, List.getElem_cons_zero, List.getElem_cons_succ, List.setIfInBounds_toArray, List.set_cons_zero, List.set_cons_succ]); exact rfl) : wpAnyH P md ops Q S (fuel + 1) l a w :=
  wpAnyH_take hi hs hf hr hQ hy hS (ha ▸ h)
theorem hDn (h : Q .normal a w) (hr : Region.ready md ops l = [] := by kernel_rfl) : wpAnyH P md ops Q S fuel l a w := wpAnyH_done hr h _
theorem rHd {id : Nat} {S : World → Prop} (hS : S w.drew) (h : S w.drew → wpAnyH P .any ops Q S ops.size (Array.replicate ops.size false) a w.drew) (hm : P.follows .mixedOrders = true := by kernel_rfl) : (Code.region id ops true).wp P Q a w := wp_region_held_drew hm hS h
theorem hSt (i : Nat) {oi : Oper} (h : ∀ K' : Act → World → Prop, Shut (∀ a w, S w → (S w → wpAnyH P md ops Q S fuel (l.setIfInBounds i true) a w) → K' a w) → if Region.wanted oi (yielded ops a.tmps) = true then Oper.wp P oi a w K' Q else K' (a.put oi.dst undef) w)
    (hr : Region.ready md ops l = [i] := by kernel_rfl) (ho : ops[i]? = some oi := by exact rfl) : wpAnyH P md ops Q S (fuel + 1) l a w :=
  wpAnyH_ready hr (by simp) (AllReadyH.cons ho h AllReadyH.nil)
end
section
variable {w : World} {b T : Nat}
theorem cr1 {c0 : Value} (h : w.heap[b]? = some (.cells #[c0] T (0, 0))) : w.cell? ⟨b, 0, none⟩ = some c0 ∧ (∀ j, w.frozen? ⟨b, j, none⟩ = false) ∧ b < w.heap.size ∧ Hid (w.heap[b]? = some (.cells #[c0] T (0, 0))) :=
  ⟨cell_of_row _ _ 0 _ _ _ h, fun j => frozen_of_row _ _ j _ _ h, lt_of_block h, za h⟩
theorem cr2 {c0 c1 : Value} (h : w.heap[b]? = some (.cells #[c0, c1] T (0, 0))) : w.cell? ⟨b, 0, none⟩ = some c0 ∧ w.cell? ⟨b, 1, none⟩ = some c1 ∧ (∀ j, w.frozen? ⟨b, j, none⟩ = false) ∧ b < w.heap.size ∧ Hid (w.heap[b]? = some (.cells #[c0, c1] T (0, 0))) :=
  ⟨cell_of_row _ _ 0 _ _ _ h, cell_of_row _ _ 1 _ _ _ h, fun j => frozen_of_row _ _ j _ _ h, lt_of_block h, za h⟩
theorem cr3 {c0 c1 c2 : Value} (h : w.heap[b]? = some (.cells #[c0, c1, c2] T (0, 0))) : w.cell? ⟨b, 0, none⟩ = some c0 ∧ w.cell? ⟨b, 1, none⟩ = some c1 ∧ w.cell? ⟨b, 2, none⟩ = some c2 ∧ (∀ j, w.frozen? ⟨b, j, none⟩ = false) ∧ b < w.heap.size ∧ Hid (w.heap[b]? = some (.cells #[c0, c1, c2] T (0, 0))) :=
  ⟨cell_of_row _ _ 0 _ _ _ h, cell_of_row _ _ 1 _ _ _ h, cell_of_row _ _ 2 _ _ _ h, fun j => frozen_of_row _ _ j _ _ h, lt_of_block h, za h⟩
theorem cr4 {c0 c1 c2 c3 : Value} (h : w.heap[b]? = some (.cells #[c0, c1, c2, c3] T (0, 0))) : w.cell? ⟨b, 0, none⟩ = some c0 ∧ w.cell? ⟨b, 1, none⟩ = some c1 ∧ w.cell? ⟨b, 2, none⟩ = some c2 ∧ w.cell? ⟨b, 3, none⟩ = some c3 ∧ (∀ j, w.frozen? ⟨b, j, none⟩ = false) ∧ b < w.heap.size ∧ Hid (w.heap[b]? = some (.cells #[c0, c1, c2, c3] T (0, 0))) :=
  ⟨cell_of_row _ _ 0 _ _ _ h, cell_of_row _ _ 1 _ _ _ h, cell_of_row _ _ 2 _ _ _ h, cell_of_row _ _ 3 _ _ _ h, fun j => frozen_of_row _ _ j _ _ h, lt_of_block h, za h⟩
theorem cr5 {c0 c1 c2 c3 c4 : Value} (h : w.heap[b]? = some (.cells #[c0, c1, c2, c3, c4] T (0, 0))) : w.cell? ⟨b, 0, none⟩ = some c0 ∧ w.cell? ⟨b, 1, none⟩ = some c1 ∧ w.cell? ⟨b, 2, none⟩ = some c2 ∧ w.cell? ⟨b, 3, none⟩ = some c3 ∧ w.cell? ⟨b, 4, none⟩ = some c4 ∧ (∀ j, w.frozen? ⟨b, j, none⟩ = false) ∧ b < w.heap.size ∧ Hid (w.heap[b]? = some (.cells #[c0, c1, c2, c3, c4] T (0, 0))) :=
  ⟨cell_of_row _ _ 0 _ _ _ h, cell_of_row _ _ 1 _ _ _ h, cell_of_row _ _ 2 _ _ _ h, cell_of_row _ _ 3 _ _ _ h, cell_of_row _ _ 4 _ _ _ h, fun j => frozen_of_row _ _ j _ _ h, lt_of_block h, za h⟩
theorem cr6 {c0 c1 c2 c3 c4 c5 : Value} (h : w.heap[b]? = some (.cells #[c0, c1, c2, c3, c4, c5] T (0, 0))) : w.cell? ⟨b, 0, none⟩ = some c0 ∧ w.cell? ⟨b, 1, none⟩ = some c1 ∧ w.cell? ⟨b, 2, none⟩ = some c2 ∧ w.cell? ⟨b, 3, none⟩ = some c3 ∧ w.cell? ⟨b, 4, none⟩ = some c4 ∧ w.cell? ⟨b, 5, none⟩ = some c5 ∧ (∀ j, w.frozen? ⟨b, j, none⟩ = false) ∧ b < w.heap.size ∧ Hid (w.heap[b]? = some (.cells #[c0, c1, c2, c3, c4, c5] T (0, 0))) :=
  ⟨cell_of_row _ _ 0 _ _ _ h, cell_of_row _ _ 1 _ _ _ h, cell_of_row _ _ 2 _ _ _ h, cell_of_row _ _ 3 _ _ _ h, cell_of_row _ _ 4 _ _ _ h, cell_of_row _ _ 5 _ _ _ h, fun j => frozen_of_row _ _ j _ _ h, lt_of_block h, za h⟩
theorem cr7 {c0 c1 c2 c3 c4 c5 c6 : Value} (h : w.heap[b]? = some (.cells #[c0, c1, c2, c3, c4, c5, c6] T (0, 0))) : w.cell? ⟨b, 0, none⟩ = some c0 ∧ w.cell? ⟨b, 1, none⟩ = some c1 ∧ w.cell? ⟨b, 2, none⟩ = some c2 ∧ w.cell? ⟨b, 3, none⟩ = some c3 ∧ w.cell? ⟨b, 4, none⟩ = some c4 ∧ w.cell? ⟨b, 5, none⟩ = some c5 ∧ w.cell? ⟨b, 6, none⟩ = some c6 ∧ (∀ j, w.frozen? ⟨b, j, none⟩ = false) ∧ b < w.heap.size ∧ Hid (w.heap[b]? = some (.cells #[c0, c1, c2, c3, c4, c5, c6] T (0, 0))) :=
  ⟨cell_of_row _ _ 0 _ _ _ h, cell_of_row _ _ 1 _ _ _ h, cell_of_row _ _ 2 _ _ _ h, cell_of_row _ _ 3 _ _ _ h, cell_of_row _ _ 4 _ _ _ h, cell_of_row _ _ 5 _ _ _ h, cell_of_row _ _ 6 _ _ _ h, fun j => frozen_of_row _ _ j _ _ h, lt_of_block h, za h⟩
theorem cr8 {c0 c1 c2 c3 c4 c5 c6 c7 : Value} (h : w.heap[b]? = some (.cells #[c0, c1, c2, c3, c4, c5, c6, c7] T (0, 0))) : w.cell? ⟨b, 0, none⟩ = some c0 ∧ w.cell? ⟨b, 1, none⟩ = some c1 ∧ w.cell? ⟨b, 2, none⟩ = some c2 ∧ w.cell? ⟨b, 3, none⟩ = some c3 ∧ w.cell? ⟨b, 4, none⟩ = some c4 ∧ w.cell? ⟨b, 5, none⟩ = some c5 ∧ w.cell? ⟨b, 6, none⟩ = some c6 ∧ w.cell? ⟨b, 7, none⟩ = some c7 ∧ (∀ j, w.frozen? ⟨b, j, none⟩ = false) ∧ b < w.heap.size ∧ Hid (w.heap[b]? = some (.cells #[c0, c1, c2, c3, c4, c5, c6, c7] T (0, 0))) :=
  ⟨cell_of_row _ _ 0 _ _ _ h, cell_of_row _ _ 1 _ _ _ h, cell_of_row _ _ 2 _ _ _ h, cell_of_row _ _ 3 _ _ _ h, cell_of_row _ _ 4 _ _ _ h, cell_of_row _ _ 5 _ _ _ h, cell_of_row _ _ 6 _ _ _ h, cell_of_row _ _ 7 _ _ _ h, fun j => frozen_of_row _ _ j _ _ h, lt_of_block h, za h⟩
theorem cr9 {c0 c1 c2 c3 c4 c5 c6 c7 c8 : Value} (h : w.heap[b]? = some (.cells #[c0, c1, c2, c3, c4, c5, c6, c7, c8] T (0, 0))) : w.cell? ⟨b, 0, none⟩ = some c0 ∧ w.cell? ⟨b, 1, none⟩ = some c1 ∧ w.cell? ⟨b, 2, none⟩ = some c2 ∧ w.cell? ⟨b, 3, none⟩ = some c3 ∧ w.cell? ⟨b, 4, none⟩ = some c4 ∧ w.cell? ⟨b, 5, none⟩ = some c5 ∧ w.cell? ⟨b, 6, none⟩ = some c6 ∧ w.cell? ⟨b, 7, none⟩ = some c7 ∧ w.cell? ⟨b, 8, none⟩ = some c8 ∧ (∀ j, w.frozen? ⟨b, j, none⟩ = false) ∧ b < w.heap.size ∧ Hid (w.heap[b]? = some (.cells #[c0, c1, c2, c3, c4, c5, c6, c7, c8] T (0, 0))) :=
  ⟨cell_of_row _ _ 0 _ _ _ h, cell_of_row _ _ 1 _ _ _ h, cell_of_row _ _ 2 _ _ _ h, cell_of_row _ _ 3 _ _ _ h, cell_of_row _ _ 4 _ _ _ h, cell_of_row _ _ 5 _ _ _ h, cell_of_row _ _ 6 _ _ _ h, cell_of_row _ _ 7 _ _ _ h, cell_of_row _ _ 8 _ _ _ h, fun j => frozen_of_row _ _ j _ _ h, lt_of_block h, za h⟩
theorem js {c0 c1 c2 c3 c4 c5 c6 c7 c8 c9 : Value} (h : w.heap[b]? = some (.cells #[c0, c1, c2, c3, c4, c5, c6, c7, c8, c9] T (0, 0))) : w.cell? ⟨b, 0, none⟩ = some c0 ∧ w.cell? ⟨b, 1, none⟩ = some c1 ∧ w.cell? ⟨b, 2, none⟩ = some c2 ∧ w.cell? ⟨b, 3, none⟩ = some c3 ∧ w.cell? ⟨b, 4, none⟩ = some c4 ∧ w.cell? ⟨b, 5, none⟩ = some c5 ∧ w.cell? ⟨b, 6, none⟩ = some c6 ∧ w.cell? ⟨b, 7, none⟩ = some c7 ∧ w.cell? ⟨b, 8, none⟩ = some c8 ∧ w.cell? ⟨b, 9, none⟩ = some c9 ∧ (∀ j, w.frozen? ⟨b, j, none⟩ = false) ∧ b < w.heap.size ∧ Hid (w.heap[b]? = some (.cells #[c0, c1, c2, c3, c4, c5, c6, c7, c8, c9] T (0, 0))) :=
  ⟨cell_of_row _ _ 0 _ _ _ h, cell_of_row _ _ 1 _ _ _ h, cell_of_row _ _ 2 _ _ _ h, cell_of_row _ _ 3 _ _ _ h, cell_of_row _ _ 4 _ _ _ h, cell_of_row _ _ 5 _ _ _ h, cell_of_row _ _ 6 _ _ _ h, cell_of_row _ _ 7 _ _ _ h, cell_of_row _ _ 8 _ _ _ h, cell_of_row _ _ 9 _ _ _ h, fun j => frozen_of_row _ _ j _ _ h, lt_of_block h, za h⟩
theorem vg {c0 c1 c2 c3 c4 c5 c6 c7 c8 c9 c10 : Value} (h : w.heap[b]? = some (.cells #[c0, c1, c2, c3, c4, c5, c6, c7, c8, c9, c10] T (0, 0))) : w.cell? ⟨b, 0, none⟩ = some c0 ∧ w.cell? ⟨b, 1, none⟩ = some c1 ∧ w.cell? ⟨b, 2, none⟩ = some c2 ∧ w.cell? ⟨b, 3, none⟩ = some c3 ∧ w.cell? ⟨b, 4, none⟩ = some c4 ∧ w.cell? ⟨b, 5, none⟩ = some c5 ∧ w.cell? ⟨b, 6, none⟩ = some c6 ∧ w.cell? ⟨b, 7, none⟩ = some c7 ∧ w.cell? ⟨b, 8, none⟩ = some c8 ∧ w.cell? ⟨b, 9, none⟩ = some c9 ∧ w.cell? ⟨b, 10, none⟩ = some c10 ∧ (∀ j, w.frozen? ⟨b, j, none⟩ = false) ∧ b < w.heap.size ∧ Hid (w.heap[b]? = some (.cells #[c0, c1, c2, c3, c4, c5, c6, c7, c8, c9, c10] T (0, 0))) :=
  ⟨cell_of_row _ _ 0 _ _ _ h, cell_of_row _ _ 1 _ _ _ h, cell_of_row _ _ 2 _ _ _ h, cell_of_row _ _ 3 _ _ _ h, cell_of_row _ _ 4 _ _ _ h, cell_of_row _ _ 5 _ _ _ h, cell_of_row _ _ 6 _ _ _ h, cell_of_row _ _ 7 _ _ _ h, cell_of_row _ _ 8 _ _ _ h, cell_of_row _ _ 9 _ _ _ h, cell_of_row _ _ 10 _ _ _ h, fun j => frozen_of_row _ _ j _ _ h, lt_of_block h, za h⟩
end
section
variable {F : Fence} {n : Nat} {P : Program} {ops : Array Oper} {Q : Exit → Act → World → Prop} {md : Region.Mode} {fuel : Nat} {l : Array Bool} {a a' : Act} {w : World}
theorem iTk (i : Nat) {oi : Oper} {v : Value} (h : wpAnyIn F n P md ops Q fuel (l.setIfInBounds i true) (a.put oi.dst v) w) (hro : F.round = none := by exact rfl) (hi : ops[i]? = some oi := by exact rfl) (hs : Region.noSelect ops = true := by kernel_rfl) (hf : Region.free md ops l i = true := by kernel_rfl) (hr : (Region.ready md ops l).contains i = true := by kernel_rfl)
    (hQ : ∀ c a w, Q (.panic c) (a.put oi.dst v) w → Q (.panic c) a w := by exact fun _ _ _ h => h) (hy : YieldsFenced P ops oi v a := by exact ⟨Or.inl ⟨by rfl, by (intro w; go_simp; try with_reducible rfl)⟩, fun _ => rfl⟩) : wpAnyIn F n P md ops Q (fuel + 1) l a w :=
  wpAnyIn_take hro hi hs hf hr hQ hy h
theorem iSt (i : Nat) {o : Oper} (h : ∀ K' : Act → World → Prop, (∀ a w, wpAnyIn F n P md ops Q fuel (l.setIfInBounds i true) a w → K' a w) → if Region.wanted o (yielded ops a.tmps) = true then Oper.wpIn F n P o a w K' Q else (∀ f, o.about P w a.eval = some f → F.fn f) ∧ K' (a.put o.dst undef) w)
    (hr : Region.ready md ops l = [i] := by kernel_rfl) (ho : ops[i]? = some o := by exact rfl) : wpAnyIn F n P md ops Q (fuel + 1) l a w :=
  wpAnyIn_ready hr (by simp) (AllReadyIn.cons ho h AllReadyIn.nil)
end
theorem zW{w:World}{b j:Nat}{cs:Array Value}{T:TypeId}{v:Value}(h:w.heap[b]? = some (.cells cs T (0,0))):(w.setCell ⟨b,j,none⟩ v).heap[b]? = some (.cells (cs.setIfInBounds j v) T (0,0)):=ya w b j cs T v h
theorem QK{w:World}{b:Nat}{u0 u1 v0 v1:Value}{T:TypeId}(h:w.heap[b]? = some (.cells #[u0,u1] T (0,0))):((w.setCell ⟨b,0,none⟩ v0).setCell ⟨b,1,none⟩ v1).heap[b]? = some (.cells #[v0,v1] T (0,0)) :=
 zW (j:=1) (zW (j:=0) h)
theorem Mod.set1{w:World}(b j:Nat)(v:Value):Mod (fun i=>i=b) w (w.setCell ⟨b,j,none⟩ v):=(Mod.refl (fun i=>i=b) w).setCell (p:=⟨b,j,none⟩) (fun _=>rfl) v
theorem Mod.set2{w:World}(b j k:Nat)(u v:Value):Mod (fun i=>i=b) w ((w.setCell ⟨b,j,none⟩ u).setCell ⟨b,k,none⟩ v):=(Mod.set1 b j u).trans (Mod.set1 b k v)
theorem Mod.fresh{S:Nat→Prop}{a b c:World}(h:zc a b)(hm:Mod S b c)(hS : ∀ i,S i→a.heap.size≤i):zc a c:=h.then hm (fun i hi hs=>by have:=hS i hs;omega)
theorem zkA:(prog.info? 5).map (fun i=>(i.zero,i.size,i.bytes))=some (some (.int .u8 0),1,1):=by kernel_rfl
@[go_sem] theorem zlo (w : World) (a : Option Addr) (n c : Nat) : (binOp .eql 32 (.slice a n c) (.slice none 0 0)).run prog w=.ok (.bool a.isNone) w :=
 Lib.run_eql_slice_nil w _ _ a n c 0 0 underlying32
def vf(w:World)(v:Value):Prop := ∀ g,v.ownBlock=some g→w.heap.size≤g
def yq(w:World)(v:Value)(xs:List Value):Prop:=w.ownsRow 0 5 1 v xs.length xs
theorem ZJ{w:World}{v:Value}{n:Nat}{xs:List Value}(h:w.ownsRow 0 5 1 v n xs):yq w v xs:=by
 have:=h.1;rw[jW]at this;unfold yq;rw[this];exact h
theorem yq.read{w:World}{v:Value}{xs:List Value}(h:yq w v xs)(h1 : ∀ u∈xs,u.oneCell'=true):zo w v 1 xs:=zo.of_owns h h1
def Kb(T k:Nat)(xs:List Value)(w:World)(e:Ending)(w':World):Prop :=
 ∃ a n c,e=.returned (.slice a n c)∧w'.ownsRow 0 T k (.slice a n c) n xs∧vf w (.slice a n c)∧zc w w'
theorem QI(k:Nat)(xs:List Value)(w:World)(n c:Nat)(h:zo w (.slice none n c) k xs):xs=[]:=by
 obtain⟨a',n',c',he,hl,_,h0,_⟩:=h
 cases he
 exact jU (by rw[hl,h0 rfl,Nat.zero_mul])
theorem zap(w:World)(T k:Nat):(w.alloc (.cells #[] T)).ownsRow 0 T k (.slice (some ⟨w.heap.size,0,none⟩) 0 0) 0 [] :=
 ⟨by simp,.inr ⟨_,_,#[],rfl,yi _,heap_alloc_new w _,zI _,by simp[maxLen],by simp,by simp⟩⟩
theorem zbH(T k:Nat)(xs:List Value)(w w':World)(a:Option Addr)(m c:Nat)
  (ho:w'.ownsRow 0 T k (.slice a m c) m xs) (hg:(w.alloc (.cells #[] T)).grownBy w' (some w.heap.size)) (hb:(Value.slice a m c).ownBlock=some w.heap.size∨(Value.slice a m c).ownBlock=some (w.heap.size+1)) :
  Kb T k xs w (.returned (.slice a m c)) w':=by
 exact⟨a,m,c,rfl,ho,fun g e=>by rcases hb with hb | hb<;>(rw[hb]at e;cases e;omega),
  ((Mod.refl _ w).alloc _).trans' (Mod.of_grown (S:=fun k=>w.heap.size≤k) hg (fun k e _=>by cases e;exact zI _)) (fun _ _ h=>h) (fun i hi h=>by omega)⟩
theorem Az0xy {P:Prop}(h:P:=by
 go_ret;simp only[List.nil_append,Nat.zero_add,World.size_alloc]at ho hb;exact zbH _ _ _ _ _ _ _ _ ho hg hb):P:=h
theorem Azyx6 {P:Prop}(h:P:=by
 go_wp2;go_ret;exact⟨none,0,0,rfl,by rw[h0];exact vJ _ _ _ _,(fun g e=>by cases e),Mod.refl _ _⟩):P:=h
theorem Vh(a:Option Addr)(n c:Nat)(xs:List Value)(w:World)(hx:zo w (.slice a n c) 1 xs)(hn:n≤140737488355328) :
  Calls prog 44 #[.slice a n c] w (Kb 5 1 xs w):=by
 obtain⟨i0,hi,hz0,hz1,hz2⟩:=xG zkA;have hlen:xs.length=n*1:=by obtain⟨a',n',c',he,hl,_⟩:=hx;cases he;exact hl
 cases a with
 | none =>
  have h0:=QI _ _ _ _ _ hx;have H:=za hx;clear hx;go_enter func44,ntmps44;exact Azyx6
 | some ad =>
  have H:=za (hx.frame ((Mod.refl (fun _=>False) w).alloc (.cells #[] 5)) (fun _ _ h=>h));clear hx;have HO:=za (zap w 5 1);go_enter func44,ntmps44
  go_wp2_with (at_builtin;refine uK _ rfl _ _ 32 rfl 5 i0 _ 1 1 underlying32 hi hz0 hz1 hz2 rfl (by decide) _ 0 [] rfl HO.out _ xs n rfl H.out hlen (by unfold maxLen;omega) (by omega) ?_;intro a' c' w1 ho hg hb)
  exact Az0xy
structure Ent where
 key:ByteArray
 val:List UInt8
 dl:Int
 birth:Int
def zQ(l:List UInt8):List Value:=l.map fun b => .int .u8 b.toNat
theorem jn(l:List UInt8) : ∀ u∈zQ l,u.oneCell'=true:=by
 intro u hu;obtain⟨_,_,rfl⟩:=zz.1 hu
 rfl
theorem kG(l:List UInt8):(zQ l).length=l.length:=by simp[zQ]
def xy(n:Nat):Bool:=decide (0<n)&&decide (n≤250)
def vi(ks:Nat)(n:Nat)(birth:Int):Int:=if !(xy ks)||birth==0 then 2 else if decide (65536<(n:Int))then 5 else 0
theorem Vw(s:ByteArray)(w:World)(hs:s.size≤140737488355328):Calls prog 33 #[.string s] w fun e w'=>e=.returned (.bool (xy s.size))∧w=w':=by
 have H:Hid (∀ x:Bool,x=(decide ((0:Int)<s.size)&&decide ((s.size:Int)≤250))→x=xy s.size):=by
  rintro x rfl;simp only[xy,Int.natCast_pos]
  congr 2
  exact propext ⟨fun h=>by omega,fun h=>by omega⟩
 by_cases h:0<s.size
 all_goals
  go_enter func33,ntmps33;go_wp2;go_ret;exact⟨congrArg (fun b=>Ending.returned (.bool b)) (H.out _ (by simp[h])),rfl⟩
def zcm(b1 b2:Bool)(e1 e2:Int):Int:=if b1 then e1 else if b2 then e2 else 0
def zkt(b1 b2:Bool)(e1 e2:Int)(w:World)(e:Ending)(w':World):Prop :=
 e=.returned (.int .i64 (zcm b1 b2 e1 e2))∧zc w w'
theorem zjY(b1 b2:Bool)(e1 e2:Int)(g:Nat)(w:World)(h0:w.cell? ⟨g,0,none⟩=some (.bool b1))(h1:w.cell? ⟨g,1,none⟩=some (.int .i64 e1))
  (h2:w.cell? ⟨g,2,none⟩=some (.bool b2)) (h3:w.cell? ⟨g,3,none⟩=some (.int .i64 e2)) (hg:g<w.heap.size) :
  Calls prog 251 #[.slice (some ⟨g,0,none⟩) 2 2] w (zkt b1 b2 e1 e2 w):=by
 have hg1:g<w.heap.size+1:=by omega
 cases b1
 ·cases b2
  all_goals
   go_enter func251,ntmps251;go_wp2
   go_rounds 3
   go_ret;exact⟨rfl,((Mod.refl _ w).alloc _).alloc _⟩
 ·go_enter func251,ntmps251;go_wp2
  go_rounds 3
  go_ret;exact⟨rfl,(Mod.refl _ w).alloc _⟩
def UT(ks n:Nat)(birth:Int)(w:World)(e:Ending)(w':World):Prop:=e=.returned (.int .i64 (vi ks n birth))∧zc w w'
theorem J5(s:ByteArray)(a:Option Addr)(n c:Nat)(b:Int)(w:World)(hs:s.size≤140737488355328)(hn:n≤140737488355328) :
  Calls prog 188 #[.string s,.slice a n c,.int .u64 b] w (UT s.size n b w):=by
 cases hk:xy s.size
 all_goals
  have E:=za (show vi s.size n b=zcm (!(xy s.size)||b==0) (decide (65536<(n:Int))) 2 5 from rfl);go_enter func188,ntmps188
  go_wp2_with (first | (go_at_call 33;refine zq (Vw s w hs) ?_;rintro e w' ⟨rfl,rfl⟩) | (go_at_call 251;refine zq (zjY _ _ _ _ w.heap.size _ (Ux w _ _ 0) (Ux w _ _ 1) (Ux w _ _ 2) (Ux w _ _ 3) (by simp)) ?_;intro e w1 hp;obtain⟨rfl,hp⟩:=hp))
  go_ret;exact⟨by rw[E.out,hk];rfl,((Mod.refl _ _).alloc _).trans hp⟩
def zhZ(k:ByteArray)(xs:List Value)(d b:Int)(w:World)(e:Ending)(w':World):Prop :=
 ∃ a n c,e=.returned (.agg #[.string k,.slice a n c,.int .u64 d,.int .u64 b])∧w'.ownsRow 0 5 1 (.slice a n c) n xs∧vf w (.slice a n c)∧zc w w'
theorem KR(k:ByteArray)(a:Option Addr)(n c:Nat)(d b:Int)(xs:List Value)(w:World)(hx:zo w (.slice a n c) 1 xs)(hn:n≤140737488355328) :
  Calls prog 154 #[.agg #[.string k,.slice a n c,.int .u64 d,.int .u64 b]] w (zhZ k xs d b w):=by
 have H:=za (hx.frame (((Mod.refl (fun _=>False) w).alloc (.cells #[.string k,.slice a n c,.int .u64 d,.int .u64 b] 141)).alloc (.cells #[.string ByteArray.empty,.slice none 0 0,.int .u64 0,.int .u64 0] 141)) (fun _ _ h=>h));clear hx;go_enter func154,ntmps154
 go_wp2_with (go_at_call 44;refine zq (Vh a n c xs _ H.out hn) ?_;rintro e w1 ⟨a',n',c',rfl,hr,hf,hp⟩;have h1:=hp.box (b:=w.heap.size) (zG (zj rfl)) (fun h=>h);have h2:=hp.box (b:=w.heap.size+1) (zj (by simp)) (fun h=>h);obtain⟨h1c,h1f⟩:=h1;obtain⟨h2c,h2f⟩:=h2)
 have hm:=((((((Mod.refl (fun k=>k=w.heap.size∨k=w.heap.size+1) w1).setCell (p:=⟨w.heap.size,1,none⟩) (fun _ => .inl rfl) (.slice a' n' c')).setCell (p:=⟨w.heap.size+1,0,none⟩) (fun _ => .inr rfl) (.string k)).setCell (p:=⟨w.heap.size+1,1,none⟩) (fun _ => .inr rfl) (.slice a' n' c')).setCell (p:=⟨w.heap.size+1,2,none⟩) (fun _ => .inr rfl) (.int .u64 d)).setCell (p:=⟨w.heap.size+1,3,none⟩) (fun _ => .inr rfl) (.int .u64 b));refine zN (v := .agg #[.string k,.slice a' n' c',.int .u64 d,.int .u64 b]) (by simp[results,results154,go_sem,h1c,h2c]) rfl ⟨a',n',c',rfl,zy hr hm ?_,?_,?_⟩
 ·intro g e h;have:=hf g e;simp at this;omega
 ·intro g e;have:=hf g e;simp at this;omega
 ·exact(((Mod.refl (fun k=>w.heap.size≤k) w).alloc _).alloc _).trans' (hp.trans' hm (fun _ _ h=>h.elim) (fun i _ h=>show w.heap.size≤i by omega)) (fun i h h'=>by omega) (fun i h h'=>by omega)
def zhp(k:ByteArray)(xs:List Value)(d b:Int)(w:World)(e:Ending)(w':World):Prop :=
 ∃ a n c,e=.returned (.tuple #[.agg #[.string k,.slice a n c,.int .u64 d,.int .u64 b],.int .i64 0])∧w'.ownsRow 0 5 1 (.slice a n c) n xs∧vf w (.slice a n c)∧zc w w'
theorem jH{w:World}{a:Option Addr}{n c k:Nat}{xs:List Value}(h:zo w (.slice a n c) k xs):xs.length=n*k:=by
 obtain⟨a',n',c',he,hl,_⟩:=h
 cases he
 exact hl
theorem QR(k:ByteArray)(a:Option Addr)(n c:Nat)(d b:Int)(xs:List Value)(w:World)(hx:zo w (.slice a n c) 1 xs)(hn:n≤65536)(hk0:0<k.size)(hk:k.size≤250)(hb:(b==0)=false) :
    Calls prog 193 #[.string k,.slice a n c,.int .u64 d,.int .u64 b] w (zhp k xs d b w):=by
  have E:vi k.size n b=0:=by
    have:xy k.size=true:=by simp[xy,hk0,hk]
    have h2 : ¬ ((65536:Int)<n):=by omega
    simp[vi,this,hb,h2]
  go_enter func193,ntmps193
  go_wp2_with (first
    | (go_at_call 188;refine zq (J5 k a n c b _ (by omega) (by omega)) ?_;rintro e w1 ⟨he,hp⟩;rw[E]at he;subst he;obtain⟨hpc,hpf⟩:=hp.cells;have hz:w.heap.size<w1.heap.size:=by have:=hp.size;simp at this;omega)
    | (go_at_call 154;refine zq (KR k a n c d b xs _ (hx.frame (S:=fun _=>False) (by exact yx) (fun _ _ h=>h)) (by omega)) ?_;rintro e w2 ⟨a',n',c',rfl,hr,hf,hp2⟩;obtain⟨hqc,hqf⟩:=hp2.cells))
  refine zN (v := .tuple #[.agg #[.string k,.slice a' n' c',.int .u64 d,.int .u64 b],.int .i64 0]) (by simp[results,results193,go_sem,hqc,hqf,hpc,hpf,hz]) rfl ⟨a',n',c',rfl,?_,?_,?_⟩
  · refine zy hr (S:=fun k=>k=w.heap.size) ?_ (fun g e h=>by have:=hf g e;omega)
    exact yx
  · intro g e
    have:=hf g e;omega
  · exact yx
end
section
open Go.RowKit
variable{Fo:Nat→Prop}
theorem zep:(prog.info? 141).map (fun i=>(i.zero,i.size,i.bytes))=some (some (.agg #[.string ⟨#[]⟩,.slice none 0 0,.int .u64 0,.int .u64 0]),4,56):=by kernel_rfl
def xn:Option Ent × Value→List Value
 | (some e,v)=>[.string e.key,v,.int .u64 e.dl,.int .u64 e.birth]
 | (none,_)=>[.string ⟨#[]⟩,.slice none 0 0,.int .u64 0,.int .u64 0]
def zZ(L:List (Option Ent)):Nat:=L.countP Option.isSome
structure Ent.Ok(e:Ent):Prop where
 k0:0<e.key.size
 k1:e.key.size≤250
 v1:e.val.length≤65536
 b0:0<e.birth
structure Vk(L:List (Option Ent)):Prop where
 len:L.length≤4194304
 ent : ∀ e,some e∈L→e.Ok
structure zU(Fo:Nat→Prop)(w:World)(D:Nat→Prop)(p:Nat)(sv:Value)(M:List (Option Ent × Value)):Prop where
 box:w.heap[p]? = some (.cells #[.bool true,sv,.int .i64 (zZ (M.map Prod.fst))] 356 (0,0))
 row:w.ownsRow 0 141 4 sv M.length (M.flatMap xn)
 vals : ∀ e v,(some e,v)∈M→yq w v (zQ e.val)
 dd : ∀ k,D k↔(k=p∨sv.ownBlock=some k)
 ok:Vk (M.map Prod.fst)
 off : ∀ e v g,(some e,v)∈M→v.ownBlock=some g → ¬ Fo g
 flt : ∀ k,Fo k→k<w.heap.size
def yg(Fo:Nat→Prop)(w:World)(D:Nat→Prop)(p:Nat)(L:List (Option Ent)):Prop := ∃ sv M,M.map Prod.fst=L∧zU Fo w D p sv M
section
variable{w w':World}{D S:Nat→Prop}{p:Nat}{sv:Value}{M:List (Option Ent × Value)}
theorem zU.np(h:zU Fo w D p sv M){g:Nat}(hg:sv.ownBlock=some g):g≠p:=by
 rintro rfl;obtain⟨c,e⟩:=yc h.row hg;rw[h.box]at e
 cases e
theorem zU.lt(h:zU Fo w D p sv M){k:Nat}(hk:D k):k<w.heap.size:=by
 rcases(h.dd k).1 hk with rfl | e
 ·exact zm h.box
 ·exact vY h.row e
theorem zU.nobytes(h:zU Fo w D p sv M){k:Nat}(hk:D k)(cs:Array Value)(fz:Nat × Nat):w.heap[k]? ≠ some (.cells cs 5 fz):=by
 intro e;rcases(h.dd k).1 hk with rfl | e'
 ·rw[h.box]at e;cases e
 ·obtain⟨c,e2⟩:=yc h.row e';rw[e2]at e;cases e
theorem jY{v:Value}{xs:List Value}(h:yq w v xs)(hm:Mod S w w')(hS : ∀ k,k<w.heap.size→S k → ∀ cs fz,w.heap[k]? ≠ some (.cells cs 5 fz)):yq w' v xs :=
 zy h hm (fun g hg hs=>by obtain⟨c,e⟩:=yc h hg;exact hS g (zm e) hs _ _ e)
theorem zU.frame(h:zU Fo w D p sv M)(hm:Mod S w w')(hD : ∀ k,D k → ¬ S k)(hS : ∀ k,k<w.heap.size→S k → ∀ cs fz,w.heap[k]? ≠ some (.cells cs 5 fz)):zU Fo w' D p sv M :=
 ⟨hm.heap (hD p ((h.dd p).2 (.inl rfl))) h.box,zy h.row hm (fun g hg=>hD g ((h.dd g).2 (.inr hg))),fun e v hv=>jY (h.vals e v hv) hm hS,h.dd,h.ok,h.off,fun k hk=>hm.lt (h.flt k hk)⟩
theorem zbJ{v:Value}{xs:List Value}(h:yq w v xs)(ho : ∀ g,v.ownBlock=some g → ¬ Fo g)(hm:Mod S w w')(hS : ∀ k,k<w.heap.size→S k→Fo k ∨ ∀ cs fz,w.heap[k]? ≠ some (.cells cs 5 fz)):yq w' v xs :=
 zy h hm (fun g hg hs=>by
  obtain⟨c,e⟩:=yc h hg;rcases hS g (zm e) hs with hf | hf
  ·exact ho g hg hf
  ·exact hf _ _ e)
theorem zU.frameF(h:zU Fo w D p sv M)(hm:Mod S w w')(hD : ∀ k,D k → ¬ S k)(hS : ∀ k,k<w.heap.size→S k→Fo k ∨ ∀ cs fz,w.heap[k]? ≠ some (.cells cs 5 fz)):zU Fo w' D p sv M :=
 ⟨hm.heap (hD p ((h.dd p).2 (.inl rfl))) h.box,zy h.row hm (fun g hg=>hD g ((h.dd g).2 (.inr hg))),fun e v hv=>zbJ (h.vals e v hv) (fun g hg=>h.off e v g hv hg) hm hS,h.dd,h.ok,h.off,fun k hk=>hm.lt (h.flt k hk)⟩
theorem zU.refo{Fo':Nat→Prop}(h:zU Fo w D p sv M)(hm:zc w w')(h1 : ∀ k,Fo' k→Fo k∨w.heap.size≤k)(h2 : ∀ k,Fo' k→k<w'.heap.size):zU Fo' w' D p sv M :=
 ⟨hm.heap (fun h=>h) h.box,zy h.row hm (fun _ _ h=>h),fun e v hv=>zy (h.vals e v hv) hm (fun _ _ h=>h),h.dd,h.ok,fun e v g hv hg hf=>(by
  rcases h1 g hf with hx | hx
  ·exact h.off e v g hv hg hx
  ·have:=vY (h.vals e v hv) hg;omega),h2⟩
theorem zU.pure(h:zU Fo w D p sv M)(hm:zc w w'):zU Fo w' D p sv M:=h.frame hm (fun _ _ h=>h) (fun _ _ h=>h.elim)
end
theorem ziF(w:World):Calls prog 171 #[] w fun e w'=>e=.returned (.pointer (some ⟨w.heap.size,0,none⟩))∧w.alloc (.cells #[.bool true,.slice none 0 0,.int .i64 0] 356)=w':=by
 go_enter func171,ntmps171;go_wp2;go_ret;exact⟨rfl,rfl⟩
theorem YC(p:Nat)(b:Bool)(w:World)(h:w.cell? ⟨p,0,none⟩=some (.bool b)):Calls prog 239 #[.pointer (some ⟨p,0,none⟩)] w fun e w'=>e=.returned (.bool (!b))∧w=w':=by
 go_enter func239,ntmps239;go_wp2;go_ret;exact⟨rfl,rfl⟩
theorem Azxil {P:Prop}(h:P:=by
 go_enter func178,ntmps178
 go_wp2_with (go_at_call 239;refine zq (YC p true _ h0) ?_;rintro e w' ⟨rfl,rfl⟩)
 go_ret2;exact⟨rfl,rfl⟩):P:=h
theorem Uy(p g n c i:Nat)(b:Int)(w:World)(h0:w.cell? ⟨p,0,none⟩=some (.bool true))(h1:w.cell? ⟨p,1,none⟩=some (.slice (some ⟨g,0,none⟩) n c))(hi:i<n)(hn:n≤4194304)
  (h3:w.cell? ⟨g,i*4+3,none⟩=some (.int .u64 b)) (hb:(b==0)=false) :
  Calls prog 178 #[.pointer (some ⟨p,0,none⟩),.int .u32 i] w fun e w'=>e=.returned (.tuple #[.pointer (some ⟨g,i*4,none⟩),.int .i64 0])∧w=w':=by
 have hi0:(0:Int)≤i:=by omega
 have hi1:(i:Int)<n:=by omega
 exact Azxil
theorem zjc(p g n c i:Nat)(w:World)(h0:w.cell? ⟨p,0,none⟩=some (.bool true))(h1:w.cell? ⟨p,1,none⟩=some (.slice (some ⟨g,0,none⟩) n c))(hi:i<n)(hn:n≤4194304)
  (h3:w.cell? ⟨g,i*4+3,none⟩=some (.int .u64 0)) :
  Calls prog 178 #[.pointer (some ⟨p,0,none⟩),.int .u32 i] w fun e w'=>e=.returned (.tuple #[.pointer none,.int .i64 9])∧w=w':=by
 have hi0:(0:Int)≤i:=by omega
 have hi1:(i:Int)<n:=by omega
 exact Azxil
theorem zgo(p n c i:Nat)(a:Option Addr)(w:World)(h0:w.cell? ⟨p,0,none⟩=some (.bool true))(h1:w.cell? ⟨p,1,none⟩=some (.slice a n c))(hi:n≤i)(hu:i≤4294967295) :
  Calls prog 178 #[.pointer (some ⟨p,0,none⟩),.int .u32 i] w fun e w'=>e=.returned (.tuple #[.pointer none,.int .i64 9])∧w=w':=by
 have hi1:(n:Int)≤i:=by omega
 exact Azxil
theorem Zm(m:Option Ent × Value):(xn m).length=4:=by
 obtain⟨o,v⟩:=m
 cases o<;>rfl
theorem zU.cells{w:World}{D:Nat→Prop}{p:Nat}{sv:Value}{M:List (Option Ent × Value)}(h:zU Fo w D p sv M) :
  w.cell? ⟨p,0,none⟩=some (.bool true)∧w.cell? ⟨p,1,none⟩=some sv∧w.cell? ⟨p,2,none⟩=some (.int .i64 (zZ (M.map Prod.fst)))∧(∀ j,w.frozen? ⟨p,j,none⟩=false):=by
 have:=h.box;exact⟨by simp[cell_of_row w p _ _ _ _ this],by simp[cell_of_row w p _ _ _ _ this],by simp[cell_of_row w p _ _ _ _ this],fun j=>yU w p j _ _ this⟩
theorem zU.slot{w:World}{D:Nat→Prop}{p:Nat}{sv:Value}{M:List (Option Ent × Value)}(h:zU Fo w D p sv M){i:Nat}{m:Option Ent × Value}(hi:M[i]? = some m) :
  ∃ g c,sv=.slice (some ⟨g,0,none⟩) M.length c∧g<w.heap.size∧g≠p∧i<M.length∧M.length≤4194304∧(∀ j u,(xn m)[j]? = some u→w.cell? ⟨g,i*4+j,none⟩=some u) ∧ ∀ j,w.frozen? ⟨g,j,none⟩=false:=by
 have hlt:i<M.length:=(zE.1 hi).1;obtain⟨g,c,rfl,_,hg,hc,hf,_⟩:=uO h.row (by omega);have ng:=h.np (g:=g) rfl;have hlen:=h.ok.len;rw[yn]at hlen;refine⟨g,c,rfl,hg,ng,hlt,hlen,fun j u hu=>hc _ _ ?_,hf⟩;have hj:j<4:=by rw[← Zm m];exact(zE.1 hu).1
 rw[uW xn 4 Zm j hj,hi];exact hu
def Qx(o:Option Ent)(w:World)(e:Ending)(w':World):Prop :=
 match o with
 | some x => ∃ a n c,e=.returned (.tuple #[.agg #[.string x.key,.slice a n c,.int .u64 x.dl,.int .u64 x.birth],.int .i64 0])∧yq w' (.slice a n c) (zQ x.val)∧vf w (.slice a n c)∧zc w w'
 | none=>e=.returned (.tuple #[.agg #[.string ⟨#[]⟩,.slice none 0 0,.int .u64 0,.int .u64 0],.int .i64 9])∧zc w w'
def Zi(M:List (Option Ent × Value))(i:Nat):Option Ent:=(M[i]?).bind Prod.fst
theorem zkS{w:World}{D:Nat→Prop}{p:Nat}{sv:Value}{M:List (Option Ent × Value)}(h:zU Fo w D p sv M){i:Nat}{x:Ent}{v:Value}(hi:M[i]? = some (some x,v)) :
  Calls prog 113 #[.pointer (some ⟨p,0,none⟩),.int .u32 i] w (Qx (some x) w):=by
 obtain⟨g,c,rfl,hg,ng,hlt,hn,hc,hf⟩:=h.slot hi;obtain⟨c0,c1,c2,cf⟩:=h.cells;have hx:=(h.vals x v (yl hi)).read (jn _);have hok:=h.ok.ent x (zz.2 ⟨_,yl hi,rfl⟩);have s0:w.cell? ⟨g,i*4,none⟩=_:=hc 0 _ rfl;have s1:=hc 1 _ rfl;have s2:=hc 2 _ rfl;have s3:=hc 3 _ rfl;have hlp:p<w.heap.size:=YE w _ c0;have hb:(x.birth==0)=false:=by have:=hok.b0;simp;omega
 obtain⟨a,n,cc,rfl,hl,_⟩:=id hx;have hn':n≤140737488355328:=by have:=hok.v1;rw[kG]at hl;omega
 have H:=za (hx.frame ((Mod.refl (fun _=>False) w).alloc (.cells #[.string ByteArray.empty,.slice none 0 0,.int .u64 0,.int .u64 0] 141)) (fun _ _ h=>h));have HL:=za h;clear h hx hc hl;have hlp1:p<w.heap.size+1:=by omega
 have hg1:g<w.heap.size+1:=by omega
 go_enter func113,ntmps113
 go_wp2_with (first | (go_at_call 178;refine zq (Uy p g _ c i x.birth _ (by simpa[go_sem,hlp]using c0) (by simpa[go_sem,hlp]using c1) hlt hn (by simpa[go_sem,hg]using s3) hb) ?_;rintro e w' ⟨rfl,rfl⟩) | (go_at_call 154;refine zq (KR x.key a n cc _ _ _ _ H.out hn') ?_;rintro e w1 ⟨a',n',c',rfl,hr,hf,hp⟩;obtain⟨hpc,hpf⟩:=hp.cells))
 refine zN (v := .tuple #[.agg #[.string x.key,.slice a' n' c',.int .u64 x.dl,.int .u64 x.birth],.int .i64 0]) (by simp[results,results113,go_sem,hpc,hpf]) rfl ⟨a',n',c',rfl,?_,?_,?_⟩
 ·refine zy (ZJ hr) (S:=fun k=>k=w.heap.size) ?_ (fun g e h=>by have:=hf g e;simp at this;omega);exact yx
 ·intro g e;have:=hf g e;simp at this;omega
 ·exact yx
def uc(D D':Nat→Prop)(w:World):Prop := ∀ k,D' k→D k∨w.heap.size≤k
def zex(Fo:Nat→Prop)(w:World)(D:Nat→Prop)(p:Nat)(M:List (Option Ent × Value))(x:Ent)(e:Ending)(w':World):Prop :=
 e=.returned (.tuple #[.int .u32 M.length,.int .i64 0]) ∧ ∃ D' sv' v',zU Fo w' D' p sv' (M++[(some x,v')])∧Mod D w w'∧uc D D' w
theorem zaX(L:List (Option Ent)):zZ L≤L.length:=VV
theorem zfJ{w W Wg w2:World}{D:Nat→Prop}{p:Nat}{sv sv2 v:Value}{M:List (Option Ent × Value)}{x:Ent}(HL:zU Fo w D p sv M)(hL:M.length<4194304)(HO:x.Ok)(HP:zc w W)(HG:zc W Wg)
  (hgrow:Wg.grownBy w2 sv.ownBlock) (hown:w2.ownsRow 0 141 4 sv2 (M.length+1) (M.flatMap xn++[.string x.key,v,.int .u64 x.dl,.int .u64 x.birth]))
  (hat:sv2.ownBlock=sv.ownBlock∨sv2.ownBlock=some Wg.heap.size) (hrd:yq W v (zQ x.val)) (hfr : ∀ g,v.ownBlock=some g→w.heap.size≤g) :
  ∃ D' sv' v',zU Fo ((w2.setCell ⟨p,1,none⟩ sv2).setCell ⟨p,2,none⟩ (.int .i64 ((zZ (M.map Prod.fst):Int)+1))) D' p sv' (M++[(some x,v')]) ∧
   Mod D w ((w2.setCell ⟨p,1,none⟩ sv2).setCell ⟨p,2,none⟩ (.int .i64 ((zZ (M.map Prod.fst):Int)+1)))∧uc D D' w:=by
 have hlp:p<w.heap.size:=zm HL.box;have hWp:=HP.then HG (fun _ _ h=>h);have sz1:=hWp.size;have HLg:=HL.pure hWp;have hb2:w2.heap[p]? = some (.cells #[.bool true,sv,.int .i64 (zZ (M.map Prod.fst))] 356 (0,0)):=by
  rw[hgrow.block p (by omega) (fun e=>HL.np e.symm rfl)];exact HLg.box
 have hbox:((w2.setCell ⟨p,1,none⟩ sv2).setCell ⟨p,2,none⟩ (.int .i64 ((zZ (M.map Prod.fst):Int)+1))).heap[p]? = some (.cells #[.bool true,sv2,.int .i64 ((zZ (M.map Prod.fst):Int)+1)] 356 (0,0)):=by
  have h1:=ya w2 p 1 _ _ sv2 hb2;exact ya _ p 2 _ _ (.int .i64 ((zZ (M.map Prod.fst):Int)+1)) h1
 have hset:Mod (fun k=>k=p) w2 ((w2.setCell ⟨p,1,none⟩ sv2).setCell ⟨p,2,none⟩ (.int .i64 ((zZ (M.map Prod.fst):Int)+1))) :=
  ((Mod.refl (fun k=>k=p) w2).setCell (p:=⟨p,1,none⟩) (fun _=>rfl) _).setCell (p:=⟨p,2,none⟩) (fun _=>rfl) _
 have hall:Mod D Wg ((w2.setCell ⟨p,1,none⟩ sv2).setCell ⟨p,2,none⟩ (.int .i64 ((zZ (M.map Prod.fst):Int)+1))) :=
  (Mod.of_grown hgrow (S:=D) (fun k e _=>(HL.dd k).2 (.inr e))).trans' hset (fun _ _ h=>h) (fun i _ h=>(HL.dd i).2 (.inl h))
 have hnb:=fun k (_:k<Wg.heap.size) (hk:D k) cs fz=>HLg.nobytes hk cs fz
 have hnp2 : ∀ g,sv2.ownBlock=some g→g≠p:=fun g e=>by
  rcases hat with h | h
  ·exact HL.np (h ▸ e)
  ·rw[h]at e;cases e;omega
 refine⟨fun k=>k=p∨sv2.ownBlock=some k,sv2,v,⟨?_,?_,?_,fun _=>vP,?_,?_,fun k hk=>hall.lt (hWp.lt (HL.flt k hk))⟩,?_,?_⟩
 ·rw[hbox];simp[zZ]
 ·have:=zy hown hset (fun g e h=>hnp2 g e h);simpa[xn]using this
 ·intro e u hm;rw[yz]at hm;rcases hm with hm | hm
  ·exact jY (HLg.vals e u hm) hall hnb
  ·simp at hm;obtain⟨rfl,rfl⟩:=hm;exact jY (zy hrd HG (fun _ _ h=>h)) hall hnb
 ·refine⟨by simp;omega,fun e he => ?_⟩;simp at he;rcases he with he | he
  ·exact HL.ok.ent e (by simpa using he)
  ·subst he;exact HO
 ·intro e u g hm hg hf;rw[yz]at hm;rcases hm with hm | hm
  ·exact HL.off e u g hm hg hf
  ·simp at hm;obtain⟨rfl,rfl⟩:=hm;have:=hfr g hg;have:=HL.flt g hf;omega
 ·exact hWp.trans' hall (fun _ _ h=>h.elim) (fun _ _ h=>h)
 ·rintro k (h | h)
  ·exact .inl ((HL.dd k).2 (.inl h))
  ·rcases hat with h' | h'
   ·exact .inl ((HL.dd k).2 (.inr (h' ▸ h)))
   ·rw[h']at h;cases h;exact .inr sz1
theorem ziO{w:World}{D:Nat→Prop}{p:Nat}{sv:Value}{M:List (Option Ent × Value)}(h:zU Fo w D p sv M)(hL:M.length<4194304)(x:Ent)(hok:x.Ok)(a:Option Addr)(n c:Nat)
    (hx:zo w (.slice a n c) 1 (zQ x.val)) :
    Calls prog 196 #[.pointer (some ⟨p,0,none⟩),.agg #[.string x.key,.slice a n c,.int .u64 x.dl,.int .u64 x.birth]] w (zex Fo w D p M x):=by
  obtain⟨sa,sc,rfl,_⟩:=qr h.row;obtain⟨c0,c1,c2,cf⟩:=h.cells;have hlp:p<w.heap.size:=YE w _ c0;have hb:(x.birth==0)=false:=by have:=hok.b0;simp;omega
  have hn:n≤65536:=by have:=jH hx;rw[kG]at this;have:=hok.v1;omega
  obtain⟨i0,hi,iz0,iz1,iz2⟩:=xG zep;have ng : ∀ g,(Value.slice sa M.length sc).ownBlock=some g→g≠p∧g<w.heap.size:=fun g e=>⟨h.np e,vY h.row e⟩
  have NG:=za ng;clear ng;have H:=za hx;have HL:=za h;have HO:=za hok;have hd:decide ((4194304:Int)≤(M.length:Int))=false:=by simp;omega
  have HLL:=za hL;clear h hx hok hL;have hlp1:p<w.heap.size+1:=by omega
  go_enter func196,ntmps196;go_upto_region 8 with(first
    | (go_at_call 239;refine zq (YC p true _ (by simpa[go_sem,hlp]using c0)) ?_;rintro e w' ⟨rfl,rfl⟩)
    | (go_at_call 193;go_must (refine zq (QR x.key a n c _ _ (zQ x.val) _ (H.out.frame (S:=fun _=>False) (by exact yx) (fun _ _ h=>h)) hn HO.out.k0 HO.out.k1 hb) ?_);rintro e w1 ⟨a',n',c',rfl,hr,hf,hp⟩;obtain⟨hpc,hpf⟩:=hp.cells;have hz:w.heap.size<w1.heap.size:=(by have:=hp.size;simp at this;omega);have hz2:p<w1.heap.size:=(by omega)))
  have HP:zc w (w1.alloc (.cells #[.string x.key,.slice a' n' c',.int .u64 x.dl,.int .u64 x.birth] 141)):=by
    exact yx
  have hB:w.heap.size≤w1.heap.size∧(w1.alloc (.cells #[.string x.key,.slice a' n' c',.int .u64 x.dl,.int .u64 x.birth] 141)).heap[w1.heap.size]? = some (.cells #[.string x.key,.slice a' n' c',.int .u64 x.dl,.int .u64 x.birth] 141 (0,0)):=⟨by omega,zj rfl⟩;have HRD:yq (w1.alloc (.cells #[.string x.key,.slice a' n' c',.int .u64 x.dl,.int .u64 x.birth] 141)) (.slice a' n' c') (zQ x.val):=zy (ZJ hr) ((Mod.refl (fun _=>False) w1).alloc _) (fun _ _ h=>h);have hfr : ∀ g,(Value.slice a' n' c').ownBlock=some g→w.heap.size<g:=fun g e=>by have:=hf g e;simp at this;omega
  generalize hW:w1.alloc (.cells #[.string x.key,.slice a' n' c',.int .u64 x.dl,.int .u64 x.birth] 141)=W at HP hB HRD ⊢;generalize w1.heap.size=B at hB ⊢;clear hW hpc hpf hz hz2 hp hr hf hlp1;have HROW:=za (zy HL.out.row HP (fun _ _ h=>h));have e1:=HP.cell (fun h=>h) c1;have e2:=HP.cell (fun h=>h) c2;have ef : ∀ j,W.frozen? ⟨p,j,none⟩=false:=fun j=>(Xc (w:=w) (a:=⟨p,j,none⟩) (HP.block p hlp (fun h=>h))).trans (cf j)
  have lp:p<W.heap.size:=HP.lt hlp;have b0:=zi W B 0 _ _ _ hB.2;have b1:=zi W B 1 _ _ _ hB.2;have b2:=zi W B 2 _ _ _ hB.2;have b3:=zi W B 3 _ _ _ hB.2;simp at b0 b1 b2 b3;have lB:B<W.heap.size:=zm hB.2;have np:Hid (some p≠(Value.slice sa M.length sc).ownBlock):=fun e=>(NG.out p e.symm).1 rfl
  have nb:Hid (some B≠(Value.slice sa M.length sc).ownBlock):=fun e=>by have:=(NG.out _ e.symm).2;omega
  have HHB:=za hB;have HHP:=za HP;have HH1:=za HRD;have HH2:=za hfr;clear hB HP HRD hfr;generalize hlv:(zZ (M.map Prod.fst))=lv at e2 ⊢;have hlv2:lv≤4194304:=by have:=zaX (M.map Prod.fst);rw[yn]at this;have:=HLL.out;omega
  have HLV:=za hlv;clear hlv c0 c1 c2 cf
  go_region_law ((refine XU _ (by rfl) _ _ 161 (by rfl) 141 i0 _ 4 56 underlying161 hi iz0 iz1 iz2 rfl (by decide) (.slice sa M.length sc) M.length _ (by rfl) ((HROW.out.alloc _).drew) _ [.string x.key,.slice a' n' c',.int .u64 x.dl,.int .u64 x.birth] 1 (by rfl) (zo.of_block 1 1 4 (zj (by simp)) (by rfl) (by simp[Value.oneCell'])) (by rfl) (by unfold maxLen;have:=HLL.out;omega) (by have:=HLL.out;omega) ?_;intro a2 cc2 w2 hown2 hgrow2 hat2;have f2 : ∀ j,w2.frozen? ⟨p,j,none⟩=false:=(fun j=>(hgrow2.frozen_far ⟨p,j,none⟩ (by simp;omega) np.out).trans ((World.frozen?_alloc_past _ _ _ lp).trans (ef j)));have f3:=(hgrow2.cell (a:=⟨p,1,none⟩) (v := .slice sa M.length sc) (by simp[*,World.cell?_alloc_some,World.cell?_setCell_far,go_sem]) np.out);have f4:=(hgrow2.cell (a:=⟨p,2,none⟩) (v := .int .i64 lv) (by simp[*,World.cell?_alloc_some,World.cell?_setCell_far,go_sem]) np.out)))
  all_goals
    go_wp2;go_ret2;refine⟨by simp;exact zjO _ (by have:=HLL.out;omega),?_⟩;rw[← HLV.out];exact zfJ HL.out HLL.out HO.out HHP.out (by exact yx) hgrow2 hown2 (by simpa using hat2) HH1.out (fun g e=>Zk (HH2.out g e))
theorem zU.miss{w:World}{D:Nat→Prop}{p:Nat}{sv:Value}{M:List (Option Ent × Value)}(h:zU Fo w D p sv M){i:Nat}(hu:i≤4294967295)(hi:Zi M i=none) :
  ∀ W,zc w W→Calls prog 178 #[.pointer (some ⟨p,0,none⟩),.int .u32 i] W fun e w'=>e=.returned (.tuple #[.pointer none,.int .i64 9])∧W=w':=by
 intro W hW;have h:=h.pure hW;obtain⟨c0,c1,c2,cf⟩:=h.cells;by_cases hlt:i<M.length
 ·have he:=zL hlt;generalize M[i]=m at he;obtain⟨o,v⟩:=m;have ho:o=none:=by simpa[Zi,he]using hi
  subst ho;obtain⟨g,c,rfl,hg,ng,_,hn,hc,hf⟩:=h.slot he;exact zjc p g _ c i W c0 c1 hlt hn (hc 3 _ rfl)
 ·obtain⟨a,c,rfl,_⟩:=qr h.row;exact zgo p _ c i a W c0 c1 (by omega) hu
theorem zbw{w:World}{D:Nat→Prop}{p:Nat}{sv:Value}{M:List (Option Ent × Value)}(h:zU Fo w D p sv M){i:Nat}(hu:i≤4294967295)(hi:Zi M i=none) :
  Calls prog 113 #[.pointer (some ⟨p,0,none⟩),.int .u32 i] w (Qx none w):=by
 have HA:=za (h.miss hu hi);clear h;go_enter func113,ntmps113
 go_wp2_with (go_at_call 178;refine(HA.out _ (by exact yx)).mono ?_;rintro e w' ⟨rfl,rfl⟩)
 refine zN (v := .tuple #[.agg #[.string ⟨#[]⟩,.slice none 0 0,.int .u64 0,.int .u64 0],.int .i64 9]) (by simp[results,results113,go_sem]) rfl ⟨rfl,?_⟩;exact yx
theorem Az8ht {P:Prop}(h:P:=by
 go_wp2_with (go_at_call 239;refine zq (YC p true _ c0) ?_;rintro e w' ⟨rfl,rfl⟩)
 go_ret;exact⟨rfl,rfl⟩):P:=h
theorem zjj{w:World}{D:Nat→Prop}{p:Nat}{sv:Value}{M:List (Option Ent × Value)}(h:zU Fo w D p sv M) :
  Calls prog 205 #[.pointer (some ⟨p,0,none⟩)] w fun e w'=>e=.returned (.int .i64 M.length)∧w=w':=by
 obtain⟨c0,c1,c2,cf⟩:=h.cells;obtain⟨a,c,rfl,_⟩:=qr h.row;clear h;go_enter func205,ntmps205;exact Az8ht
theorem zfo{w:World}{D:Nat→Prop}{p:Nat}{sv:Value}{M:List (Option Ent × Value)}(h:zU Fo w D p sv M) :
  Calls prog 173 #[.pointer (some ⟨p,0,none⟩)] w fun e w'=>e=.returned (.int .i64 (zZ (M.map Prod.fst)))∧w=w':=by
 obtain⟨c0,c1,c2,cf⟩:=h.cells;clear h;go_enter func173,ntmps173;exact Az8ht
@[go_sem] theorem zlQ (w : World) (a : Option Addr) (n c : Nat) : (binOp .eql 161 (.slice a n c) (.slice none 0 0)).run prog w=.ok (.bool a.isNone) w :=
 Lib.run_eql_slice_nil w _ _ a n c 0 0 underlying161
theorem ziE{M:List (Option Ent × Value)}{w:World}(h : ∀ e v,(some e,v)∈M→yq w v (zQ e.val)) : ∀ u∈M.flatMap xn,u.oneCell'=true:=by
 intro u hu;obtain⟨⟨o,v⟩,hm,hu⟩:=ZX.1 hu
 cases o with
 | none=>simp[xn]at hu;rcases hu with rfl | rfl | rfl<;>rfl
 | some e =>
  obtain⟨a,c,hv,_⟩:=qr (h e v hm);simp[xn,hv]at hu;rcases hu with rfl | rfl | rfl | rfl<;>rfl
theorem zU.read{w:World}{D:Nat→Prop}{p:Nat}{sv:Value}{M:List (Option Ent × Value)}(h:zU Fo w D p sv M):zo w sv 4 (M.flatMap xn) :=
 zo.of_owns h.row (ziE h.vals)
theorem zd0{w:World}{q:Nat}(hFo : ∀ k,Fo k→k<w.heap.size)(h:w.heap[q]? = some (.cells #[.bool true,.slice none 0 0,.int .i64 0] 356 (0,0))):zU Fo w (fun k=>k=q) q (.slice none 0 0) [] :=
 ⟨h,vJ _ _ _ _,(fun _ _ h=>by cases h),fun k=>⟨.inl,fun h=>by rcases h with h | h;exact h;cases h⟩,⟨by simp,fun _ h=>by simp at h⟩,(fun _ _ _ h=>by cases h),hFo⟩
end
section
open Go.RowKit
variable{Fo:Nat→Prop}
theorem zcS{α:Type}{l:List α}{i:Nat}{a:α}(h:l[i]? = some a):l.set i a=l:=by
 apply uv;intro j;rw[Xr];split
 ·rename_i e;subst e;rw[zk (zE.1 h).1,h]
 ·rfl
theorem zbE(M:List (Option Ent × Value))(i:Nat)(m m':Option Ent × Value)(hi:M[i]? = some m)(a b c d:Value)(hm:xn m'=[a,b,c,d]) :
  ((((M.flatMap xn).set (i*4) a).set (i*4+1) b).set (i*4+2) c).set (i*4+3) d=(M.set i m').flatMap xn:=by
 have h0 : ∀ r∈M.map xn,r.length=4:=by
  intro r hr;obtain⟨x,_,rfl⟩:=zz.1 hr;exact Zm x
 have e:=ZA 4 0 (by decide) a _ h0 i;rw[Xp]at e;simp only[List.flatMap_def];rw[e,ZA 4 1 (by decide) b _ (ZC h0 i 0 a) i,ZA 4 2 (by decide) c _ (ZC (ZC h0 i 0 a) i 1 b) i,
  ZA 4 3 (by decide) d _ (ZC (ZC (ZC h0 i 0 a) i 1 b) i 2 c) i]
 congr 1
 have e2 : ∀(f g:List Value→List Value) (R:List (List Value)),(R.modify i f).modify i g=R.modify i (g ∘ f):=fun f g R=>List.modify_modify_eq f g i R
 rw[e2,e2,e2];refine zch xn _ m' M i m hi ?_;rw[hm];have:=Zm m
 match h:xn m,this with
 | [_,_,_,_],_=>rfl
theorem Azmzi {P:Prop}(h:P:=by
 induction M generalizing i with
 | nil=>simp at hi
 | cons a M ih =>
  cases i with
  | zero =>
   simp at hi;subst hi;simp[zZ]
  | succ i =>
   have:=ih i (by simpa using hi);simp only[List.set_cons_succ,List.map_cons,zZ,List.countP_cons]at this ⊢;omega):P:=h
theorem zbn(M:List (Option Ent × Value))(i:Nat)(e:Ent)(v v':Value)(hi:M[i]? = some (some e,v)):(zZ ((M.set i (none,v')).map Prod.fst):Int)=(zZ (M.map Prod.fst):Int)-1∧1≤zZ (M.map Prod.fst):=by
 exact Azmzi
def ziJ(Fo:Nat→Prop)(w:World)(D:Nat→Prop)(p i:Nat)(x:Ent)(sv:Value)(M:List (Option Ent × Value))(e:Ending)(w':World):Prop :=
 ∃ a n c,e=.returned (.tuple #[.agg #[.string x.key,.slice a n c,.int .u64 x.dl,.int .u64 x.birth],.int .i64 0])∧yq w' (.slice a n c) (zQ x.val)∧vf w (.slice a n c) ∧
  zU Fo w' D p sv (M.set i (none,.slice none 0 0))∧Mod D w w'
theorem zg6{w W w':World}{D:Nat→Prop}{p g c i lv:Nat}{x:Ent}{v:Value}{M:List (Option Ent × Value)}
  (HL:zU Fo w D p (.slice (some ⟨g,0,none⟩) M.length c) M) (hi:M[i]? = some (some x,v)) (HP:zc w W)
  (hlv:zZ (M.map Prod.fst)=lv)
  (hw':(((((W.setCell ⟨g,i*4,none⟩ (.string ⟨#[]⟩)).setCell ⟨g,i*4+1,none⟩ (.slice none 0 0)).setCell ⟨g,i*4+2,none⟩ (.int .u64 0)).setCell ⟨g,i*4+3,none⟩ (.int .u64 0)).setCell ⟨p,2,none⟩ (.int .i64 ((lv:Int)-1)))=w') :
  zU Fo w' D p (.slice (some ⟨g,0,none⟩) M.length c) (M.set i (none,.slice none 0 0))∧Mod D w w':=by
 subst hw';have HW:=HL.pure HP;have hlt:i<M.length:=(zE.1 hi).1;have hgp:=HL.np (g:=g) rfl;have hDg:D g:=(HL.dd g).2 (.inr rfl);have hDp:D p:=(HL.dd p).2 (.inl rfl);have hmod:Mod D W (((((W.setCell ⟨g,i*4,none⟩ (.string ⟨#[]⟩)).setCell ⟨g,i*4+1,none⟩ (.slice none 0 0)).setCell ⟨g,i*4+2,none⟩ (.int .u64 0)).setCell ⟨g,i*4+3,none⟩ (.int .u64 0)).setCell ⟨p,2,none⟩ (.int .i64 ((lv:Int)-1))) :=
  (((((Mod.refl D W).setCell (p:=⟨g,i*4,none⟩) (fun _=>hDg) _).setCell (p:=⟨g,i*4+1,none⟩) (fun _=>hDg) _).setCell (p:=⟨g,i*4+2,none⟩) (fun _=>hDg) _).setCell (p:=⟨g,i*4+3,none⟩) (fun _=>hDg) _).setCell (p:=⟨p,2,none⟩) (fun _=>hDp) _
 have hl:=zbn M i x v (.slice none 0 0) hi;refine⟨⟨?_,?_,fun e u hm => ?_,?_,?_,fun e u g hm hg => ?_,fun k hk=>hmod.lt (HP.lt (HL.flt k hk))⟩,(Mod.of_pure HP).trans hmod⟩
 ·have hb:((((W.setCell ⟨g,i*4,none⟩ (.string ⟨#[]⟩)).setCell ⟨g,i*4+1,none⟩ (.slice none 0 0)).setCell ⟨g,i*4+2,none⟩ (.int .u64 0)).setCell ⟨g,i*4+3,none⟩ (.int .u64 0)).heap[p]? = _ :=
   xm (xm (xm (xm HW.box hgp.symm) hgp.symm) hgp.symm) hgp.symm
  have:=ya _ p 2 _ _ (.int .i64 ((lv:Int)-1)) hb;rw[this,hl.1,hlv]
  rfl
 ·have r0:=uR HW.row (i*4) (.string ⟨#[]⟩) (by omega);have r1:=uR r0 (i*4+1) (.slice none 0 0) (by omega);have r2:=uR r1 (i*4+2) (.int .u64 0) (by omega);have r3:=uR r2 (i*4+3) (.int .u64 0) (by omega);rw[zbE M i _ (none,.slice none 0 0) hi _ _ _ _ rfl]at r3;have r4:=zy r3 (S:=fun k=>k=p) ((Mod.refl (fun k=>k=p) _).setCell (p:=⟨p,2,none⟩) (fun _=>rfl) (.int .i64 ((lv:Int)-1))) (fun g' e h=>by cases e;exact hgp h);rw[xF];exact r4
 ·have hm':(some e,u)∈M:=by
   rcases jI hm with h | h
   ·exact h
   ·cases h
  exact jY (HW.vals e u hm') hmod (fun k _ hk cs fz=>HW.nobytes hk cs fz)
 ·exact HL.dd
 ·refine⟨by have:=HL.ok.len;simpa using this,fun e he => ?_⟩;rw[YM]at he;rcases jI he with h | h
  ·exact HL.ok.ent e h
  ·cases h
 ·have hm':(some e,u)∈M:=by
   rcases jI hm with h | h
   ·exact h
   ·cases h
  exact HL.off e u g hm' hg
theorem ziu{w:World}{D:Nat→Prop}{p:Nat}{sv:Value}{M:List (Option Ent × Value)}(h:zU Fo w D p sv M){i:Nat}{x:Ent}{v:Value}(hi:M[i]? = some (some x,v)) :
  Calls prog 216 #[.pointer (some ⟨p,0,none⟩),.int .u32 i] w (ziJ Fo w D p i x sv M):=by
 obtain⟨g,c,rfl,hg,ng,hlt,hn,hc,hf⟩:=h.slot hi;obtain⟨c0,c1,c2,cf⟩:=h.cells;have hx:=(h.vals x v (yl hi)).read (jn _);have hok:=h.ok.ent x (zz.2 ⟨_,yl hi,rfl⟩);have s0:w.cell? ⟨g,i*4,none⟩=_:=hc 0 _ rfl;have s1:=hc 1 _ rfl;have s2:=hc 2 _ rfl;have s3:=hc 3 _ rfl;have hlp:p<w.heap.size:=YE w _ c0;have hb:(x.birth==0)=false:=by have:=hok.b0;simp;omega
 obtain⟨a,n,cc,rfl,hl,_⟩:=id hx;have hn':n≤140737488355328:=by have:=hok.v1;rw[kG]at hl;omega
 have H:=za (hx.frame ((Mod.refl (fun _=>False) w).alloc (.cells #[.string ByteArray.empty,.slice none 0 0,.int .u64 0,.int .u64 0] 141)) (fun _ _ h=>h));have HL:=za h;have HI:=za hi;generalize hlv:(zZ (M.map Prod.fst))=lv at c2;have hlv1:1≤lv∧lv≤4194304:=by have:=(zbn M i x _ (.slice none 0 0) hi).2;have:=zaX (M.map Prod.fst);rw[yn]at this;omega
 have HLV:=za hlv;obtain⟨hlv1,hlv2⟩:=hlv1;clear h hx hc hl hlv hi;have hlp1:p<w.heap.size+1:=by omega
 have hg1:g<w.heap.size+1:=by omega
 go_enter func216,ntmps216;go_upto_region 5 with(first | (go_at_call 178;refine zq (Uy p g _ c i x.birth _ (by simpa[go_sem,hlp]using c0) (by simpa[go_sem,hlp]using c1) hlt hn (by simpa[go_sem,hg]using s3) hb) ?_;rintro e w' ⟨rfl,rfl⟩) | (go_at_call 154;refine zq (KR x.key a n cc _ _ _ _ H.out hn') ?_;rintro e w1 ⟨a',n',c',rfl,hr,hfr,hp⟩;obtain⟨hpc,hpf⟩:=hp.cells))
 have hz:w.heap.size<w1.heap.size:=by have:=hp.size;simp at this;omega
 have HP:zc w (w1.alloc (.cells #[.string x.key,.slice a' n' c',.int .u64 x.dl,.int .u64 x.birth] 141)):=by
  exact yx
 have hA:(w1.alloc (.cells #[.string x.key,.slice a' n' c',.int .u64 x.dl,.int .u64 x.birth] 141)).heap[w.heap.size]? = some (.cells #[.string ByteArray.empty,.slice none 0 0,.int .u64 0,.int .u64 0] 141 (0,0)):=zG (hp.heap (fun h=>h) (zj rfl));have hB:(w1.alloc (.cells #[.string x.key,.slice a' n' c',.int .u64 x.dl,.int .u64 x.birth] 141)).heap[w1.heap.size]? = some (.cells #[.string x.key,.slice a' n' c',.int .u64 x.dl,.int .u64 x.birth] 141 (0,0)):=zj rfl;have HRD:yq (w1.alloc (.cells #[.string x.key,.slice a' n' c',.int .u64 x.dl,.int .u64 x.birth] 141)) (.slice a' n' c') (zQ x.val):=zy (ZJ hr) ((Mod.refl (fun _=>False) w1).alloc _) (fun _ _ h=>h);have hfr' : ∀ k,(Value.slice a' n' c').ownBlock=some k→w.heap.size<k:=fun k e=>by have:=hfr k e;simp at this;omega
 generalize hW:w1.alloc (.cells #[.string x.key,.slice a' n' c',.int .u64 x.dl,.int .u64 x.birth] 141)=W at HP hA hB HRD ⊢;have hgB:g≠w1.heap.size:=by omega
 have hpB:p≠w1.heap.size:=by omega
 have hAB:w.heap.size≠w1.heap.size:=by omega
 have hsB:w.heap.size<w1.heap.size:=hz;generalize w1.heap.size=B at hB hgB hpB hAB hsB ⊢;clear hW hpc hpf hz hp hr hfr hlp1 hg1;have hgA:g≠w.heap.size:=by omega
 have hpA:p≠w.heap.size:=by omega
 have HSZ:Hid (w.heap.size≤w.heap.size):=zI _;have ar : ∀(j:Nat),W.frozen? ⟨w.heap.size,j,none⟩=false:=fun j=>yU W _ j _ _ hA
 have ac:=fun j=>zi W w.heap.size j _ _ _ hA
 have bc:=fun j=>zi W B j _ _ _ hB
 have a0:=ac 0;have a1:=ac 1;have a2:=ac 2;have a3:=ac 3;have b0:=bc 0;have b1:=bc 1;have b2:=bc 2;have b3:=bc 3;simp at a0 a1 a2 a3 b0 b1 b2 b3;replace c2:=HP.cell (fun h=>h) c2;replace s0:=HP.cell (fun h=>h) s0;replace s1:=HP.cell (fun h=>h) s1;replace s2:=HP.cell (fun h=>h) s2;replace s3:=HP.cell (fun h=>h) s3;have cfW:W.frozen? ⟨p,2,none⟩=false:=(Xc (w:=w) (a:=⟨p,2,none⟩) (HP.block p hlp (fun h=>h))).trans (cf 2);have hfW : ∀ j,W.frozen? ⟨g,j,none⟩=false:=fun j=>(Xc (w:=w) (a:=⟨g,j,none⟩) (HP.block g hg (fun h=>h))).trans (hf j)
 have HHP:=za HP;have HHA:=za hA;have HRD':=za HRD;have HFR:=za hfr';clear ac bc hA hB HP HRD hfr' c0 c1 cf hf;go_upto_region 7 with fail
 have hend:=zg6 (w':=(((((W.setCell ⟨g,i*4,none⟩ (.string ⟨#[]⟩)).setCell ⟨g,i*4+1,none⟩ (.slice none 0 0)).setCell ⟨g,i*4+2,none⟩ (.int .u64 0)).setCell ⟨g,i*4+3,none⟩ (.int .u64 0)).setCell ⟨p,2,none⟩ (.int .i64 ((lv:Int)-1)))) HL.out HI.out HHP.out HLV.out rfl;have kA:(((((W.setCell ⟨g,i*4,none⟩ (.string ⟨#[]⟩)).setCell ⟨g,i*4+1,none⟩ (.slice none 0 0)).setCell ⟨g,i*4+2,none⟩ (.int .u64 0)).setCell ⟨g,i*4+3,none⟩ (.int .u64 0)).setCell ⟨p,2,none⟩ (.int .i64 ((lv:Int)-1))).heap[w.heap.size]? = _ :=
  xm (xm (xm (xm (xm HHA.out hgA.symm) hgA.symm) hgA.symm) hgA.symm) hpA.symm
 have kB : ∀ j u,W.cell? ⟨B,j,none⟩=some u→(((((W.setCell ⟨g,i*4,none⟩ (.string ⟨#[]⟩)).setCell ⟨g,i*4+1,none⟩ (.slice none 0 0)).setCell ⟨g,i*4+2,none⟩ (.int .u64 0)).setCell ⟨g,i*4+3,none⟩ (.int .u64 0)).setCell ⟨p,2,none⟩ (.int .i64 ((lv:Int)-1))).cell? ⟨B,j,none⟩=some u:=by
  intro j u hu;rw[Yq _ _ _ _ (by simp[hpB]),Yq _ _ _ _ (by simp[hgB]),Yq _ _ _ _ (by simp[hgB]),Yq _ _ _ _ (by simp[hgB]),Yq _ _ _ _ (by simp[hgB])];exact hu
 have hRD:yq (((((W.setCell ⟨g,i*4,none⟩ (.string ⟨#[]⟩)).setCell ⟨g,i*4+1,none⟩ (.slice none 0 0)).setCell ⟨g,i*4+2,none⟩ (.int .u64 0)).setCell ⟨g,i*4+3,none⟩ (.int .u64 0)).setCell ⟨p,2,none⟩ (.int .i64 ((lv:Int)-1))) (.slice a' n' c') (zQ x.val):=by
  refine zy HRD'.out (S:=fun k=>k=g∨k=p) ?_ (fun k e h=>by have:=HFR.out k e;omega)
  (repeat'(first | (with_reducible exact Mod.refl _ _) | (with_reducible refine Mod.alloc ?_ _) | (with_reducible refine Mod.drew ?_) | (with_reducible refine Mod.drewN ?_ _) | (with_reducible refine Mod.setCell ?_ ?_ _) | (refine Mod.then ?_ (by with_reducible assumption) ?_)))
  all_goals(intro _;first | exact .inl rfl | exact .inr rfl)
 replace b0:=kB _ _ b0;replace b1:=kB _ _ b1;replace b2:=kB _ _ b2;replace b3:=kB _ _ b3;generalize(((((W.setCell ⟨g,i*4,none⟩ (.string ⟨#[]⟩)).setCell ⟨g,i*4+1,none⟩ (.slice none 0 0)).setCell ⟨g,i*4+2,none⟩ (.int .u64 0)).setCell ⟨g,i*4+3,none⟩ (.int .u64 0)).setCell ⟨p,2,none⟩ (.int .i64 ((lv:Int)-1)))=W3 at *;clear kB a0 a1 a2 a3 c2 s0 s1 s2 s3 ar hfW cfW;have ac:=fun j=>zi W3 w.heap.size j _ _ _ kA
 have ar : ∀(j:Nat),W3.frozen? ⟨w.heap.size,j,none⟩=false:=fun j=>yU W3 _ j _ _ kA
 have a0:=ac 0;have a1:=ac 1;have a2:=ac 2;have a3:=ac 3;simp at a0 a1 a2 a3;have HE:=za hend;have HKA:=za kA;have HRD3:=za hRD;clear hend kA ac hRD;go_wp2;refine zN (v := .tuple #[.agg #[.string x.key,.slice a' n' c',.int .u64 x.dl,.int .u64 x.birth],.int .i64 0]) (by simp[results,results216,go_sem,a0,a1,a2,a3]) rfl ⟨a',n',c',rfl,?_,?_,?_,?_⟩
 ·refine zy HRD3.out (S:=fun k=>k=w.heap.size) ?_ (fun k e h=>by have:=HFR.out k e;omega);exact yx
 ·exact fun k e=>Zk (HFR.out k e)
 ·refine HE.out.1.frame (S:=fun k=>k=w.heap.size) ?_ (fun k hk h=>by have:=HL.out.lt hk;omega) ?_
  ·exact yx
  ·rintro k _ rfl cs fz e;rw[HKA.out]at e
   cases e
 ·refine HE.out.2.then (T:=fun k=>k=w.heap.size) ?_ (fun k hk h=>by omega);exact yx
end
end Go.Proofs.YtdohbogbnheakaaGreatDoor
