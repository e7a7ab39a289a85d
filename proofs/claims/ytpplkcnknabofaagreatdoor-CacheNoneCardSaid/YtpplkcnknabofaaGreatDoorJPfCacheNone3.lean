/- Lemmas and contracts of functions. No condition. -/
import Derived.OrdersIn
import Derived.ProofKit
import Derived.OpenShut
import Derived.Below
import Derived.ChangeSame
import Derived.Carry
import Derived.ChangeSlices
import Derived.Deep.Strs
import Derived.Deep.Slices
import Derived.Lib.SmallJoins
import Derived.ChangeArms
import Derived.Test.YtpplkcnknabofaaGreatDoorJPfCacheNone2
namespace Go.Proofs.YtpplkcnknabofaaGreatDoor
open _root_.Go.Proofs.Tryz
set_option maxRecDepth 100000
set_option maxHeartbeats 20000000
set_option linter.all false
section
open Go.RowKit
theorem zmb {p : Prop} (h : p := by (repeat' (first | (with_reducible exact Mod.refl _ _) | (with_reducible refine Mod.alloc ?_ _) | (with_reducible refine Mod.drew ?_) | (with_reducible refine Mod.drewN ?_ _) | (with_reducible refine Mod.setCell ?_ ?_ _) | (refine Mod.then ?_ (by with_reducible assumption) ?_)))) : p := h
theorem xb {p : Prop} (h : p := by ((repeat' (first | (with_reducible exact Mod.refl _ _) | (with_reducible refine Mod.alloc ?_ _) | (with_reducible refine Mod.drew ?_) | (with_reducible refine Mod.drewN ?_ _) | (with_reducible refine Mod.setCell ?_ ?_ _) | (refine Mod.then ?_ (by with_reducible assumption) ?_))); (all_goals (intros; first | (exfalso; assumption) | omega | (simp at *; done) | (simp at *; omega))))) : p := h
section
variable {P : Program} {ops : Array Oper} {Q : Exit → Act → World → Prop} {md : Region.Mode} {S : World → Prop} {fuel : Nat} {l : Array Bool} {a a' : Act} {w : World}
theorem clA (h : wpAnyH P md ops Q S fuel l a' w) (ha : a = a' := by (try simp only [Act.put, List.getElem_toArray, List.getElem_cons_zero, List.getElem_cons_succ, List.setIfInBounds_toArray, List.set_cons_zero, List.set_cons_succ]); exact rfl) : wpAnyH P md ops Q S fuel l a w := ha ▸ h
theorem hTk (i : Nat) {v : Value} {oi : Oper} (h : wpAnyH P md ops Q S fuel (l.setIfInBounds i true) a' w) (hS : S w := by assumption) (hi : ops[i]? = some oi := by exact rfl) (hs : Region.noSelect ops = true := by kernel_rfl) (hf : Region.free md ops l i = true := by kernel_rfl) (hr : (Region.ready md ops l).contains i = true := by kernel_rfl) (hQ : ∀ c a w, Q (.panic c) (a.put oi.dst v) w → Q (.panic c) a w := by exact fun _ _ _ h => h) (hy : Yields P ops oi v a := by exact Or.inl ⟨by rfl, by (intro w; go_simp; try with_reducible rfl)⟩) (ha : a.put oi.dst v = a' := by (try simp only [Act.put, List.getElem_toArray, List.getElem_cons_zero, List.getElem_cons_succ, List.setIfInBounds_toArray, List.set_cons_zero, List.set_cons_succ]); exact rfl) : wpAnyH P md ops Q S (fuel + 1) l a w :=
  wpAnyH_take hi hs hf hr hQ hy.yieldsIf hS (ha ▸ h)
theorem hLd (i : Nat) {v : Value} {oi : Oper} (h : wpAnyH P md ops Q S fuel (l.setIfInBounds i true) a' w) (hS : S w := by assumption) (hi : ops[i]? = some oi := by exact rfl) (hs : Region.noSelect ops = true := by kernel_rfl) (hf : Region.free md ops l i = true := by kernel_rfl) (hr : (Region.ready md ops l).contains i = true := by kernel_rfl) (hQ : ∀ c a w, Q (.panic c) (a.put oi.dst v) w → Q (.panic c) a w := by exact fun _ _ _ h => h) (hy : YieldsIf P ops S oi v a := by exact Or.inl ⟨by rfl, by (intro w hS; (try subst hS); (repeat (have hs := And.left hS; replace hS := And.right hS)); go_simp; try with_reducible rfl)⟩) (ha : a.put oi.dst v = a' := by (try simp only [Act.put, List.getElem_toArray, List.getElem_cons_zero, List.getElem_cons_succ, List.setIfInBounds_toArray, List.set_cons_zero, List.set_cons_succ]); exact rfl) : wpAnyH P md ops Q S (fuel + 1) l a w :=
  wpAnyH_take hi hs hf hr hQ hy hS (ha ▸ h)
theorem hSk (i : Nat) {oi : Oper} (h : wpAnyH P md ops Q S fuel (l.setIfInBounds i true) a' w) (hS : S w := by assumption) (hi : ops[i]? = some oi := by exact rfl) (hs : Region.noSelect ops = true := by kernel_rfl) (hf : Region.free md ops l i = true := by kernel_rfl) (hr : (Region.ready md ops l).contains i = true := by kernel_rfl) (hQ : ∀ c a w, Q (.panic c) (a.put oi.dst undef) w → Q (.panic c) a w := by exact fun _ _ _ h => h) (hy : YieldsIf P ops S oi undef a := by exact Or.inr ⟨by rfl, rfl⟩) (ha : a.put oi.dst undef = a' := by (try simp only [Act.put, List.getElem_toArray, List.getElem_cons_zero, List.getElem_cons_succ, List.setIfInBounds_toArray, List.set_cons_zero, List.set_cons_succ]); exact rfl) : wpAnyH P md ops Q S (fuel + 1) l a w :=
  wpAnyH_take hi hs hf hr hQ hy hS (ha ▸ h)
theorem Y0 (i : Nat) (v : Value) {oi : Oper} (h : wpAnyH P md ops Q S fuel (l.setIfInBounds i true) a' w) (hS : S w := by assumption) (hi : ops[i]? = some oi := by exact rfl) (hs : Region.noSelect ops = true := by kernel_rfl) (hf : Region.free md ops l i = true := by kernel_rfl) (hr : (Region.ready md ops l).contains i = true := by kernel_rfl) (hQ : ∀ c a w, Q (.panic c) (a.put oi.dst v) w → Q (.panic c) a w := by exact fun _ _ _ h => h) (hy : Yields P ops oi v a := by exact Or.inl ⟨by rfl, by (intro w; go_simp; try rfl)⟩) (ha : a.put oi.dst v = a' := by (try simp only [Act.put, List.getElem_toArray, List.getElem_cons_zero, List.getElem_cons_succ, List.setIfInBounds_toArray, List.set_cons_zero, List.set_cons_succ]); exact rfl) : wpAnyH P md ops Q S (fuel + 1) l a w :=
  wpAnyH_take hi hs hf hr hQ hy.yieldsIf hS (ha ▸ h)
theorem jU (i : Nat) {v : Value} {oi : Oper} (h : wpAnyH P md ops Q S fuel (l.setIfInBounds i true) a' w) (hS : S w := by assumption) (hi : ops[i]? = some oi := by exact rfl) (hs : Region.noSelect ops = true := by kernel_rfl) (hf : Region.free md ops l i = true := by kernel_rfl) (hr : (Region.ready md ops l).contains i = true := by kernel_rfl) (hQ : ∀ c a w, Q (.panic c) (a.put oi.dst v) w → Q (.panic c) a w := by exact fun _ _ _ h => h) (hy : Yields P ops oi v a := by exact Or.inl ⟨by rfl, by (intro w; go_simp; (first | rw [if_neg (by omega)] | rw [if_neg (by simp only [ByteArray.size_append]; omega)] | rw [if_neg (by simp [ByteArray.size_append]; omega)]); try with_reducible rfl)⟩) (ha : a.put oi.dst v = a' := by (try simp only [Act.put, List.getElem_toArray, List.getElem_cons_zero, List.getElem_cons_succ, List.setIfInBounds_toArray, List.set_cons_zero, List.set_cons_succ]); exact rfl) : wpAnyH P md ops Q S (fuel + 1) l a w :=
  wpAnyH_take hi hs hf hr hQ hy.yieldsIf hS (ha ▸ h)
theorem hDn (h : Q .normal a w) (hr : Region.ready md ops l = [] := by kernel_rfl) : wpAnyH P md ops Q S fuel l a w := wpAnyH_done hr h _
theorem rHd {id : Nat} {S : World → Prop} (hS : S w.drew) (h : S w.drew → wpAnyH P .any ops Q S ops.size (Array.replicate ops.size false) a w.drew) (hm : P.follows .mixedOrders = true := by kernel_rfl) : (Code.region id ops true).wp P Q a w := wp_region_held_drew hm hS h
theorem hSt (i : Nat) {oi : Oper} (h : ∀ K' : Act → World → Prop, Shut (∀ a w, S w → (S w → wpAnyH P md ops Q S fuel (l.setIfInBounds i true) a w) → K' a w) → if Region.wanted oi (yielded ops a.tmps) = true then Oper.wp P oi a w K' Q else K' (a.put oi.dst undef) w)
    (hr : Region.ready md ops l = [i] := by kernel_rfl) (ho : ops[i]? = some oi := by exact rfl) : wpAnyH P md ops Q S (fuel + 1) l a w :=
  wpAnyH_ready hr (by simp) (AllReadyH.cons ho h AllReadyH.nil)
end
section
variable {w : World} {b T : Nat}
theorem cr1 {c0 : Value} (h : w.heap[b]? = some (.cells #[c0] T (0, 0))) : w.cell? ⟨b, 0, none⟩ = some c0 ∧ (∀ j, w.frozen? ⟨b, j, none⟩ = false) ∧ b < w.heap.size ∧ Hid (w.heap[b]? = some (.cells #[c0] T (0, 0))) :=
  ⟨cell_of_row _ _ 0 _ _ _ h, fun j => frozen_of_row _ _ j _ _ h, lt_of_block h, za h⟩
theorem cr2 {c0 c1 : Value} (h : w.heap[b]? = some (.cells #[c0, c1] T (0, 0))) : w.cell? ⟨b, 0, none⟩ = some c0 ∧ w.cell? ⟨b, 1, none⟩ = some c1 ∧ (∀ j, w.frozen? ⟨b, j, none⟩ = false) ∧ b < w.heap.size ∧ Hid (w.heap[b]? = some (.cells #[c0, c1] T (0, 0))) :=
  ⟨cell_of_row _ _ 0 _ _ _ h, cell_of_row _ _ 1 _ _ _ h, fun j => frozen_of_row _ _ j _ _ h, lt_of_block h, za h⟩
theorem cr3 {c0 c1 c2 : Value} (h : w.heap[b]? = some (.cells #[c0, c1, c2] T (0, 0))) : w.cell? ⟨b, 0, none⟩ = some c0 ∧ w.cell? ⟨b, 1, none⟩ = some c1 ∧ w.cell? ⟨b, 2, none⟩ = some c2 ∧ (∀ j, w.frozen? ⟨b, j, none⟩ = false) ∧ b < w.heap.size ∧ Hid (w.heap[b]? = some (.cells #[c0, c1, c2] T (0, 0))) :=
  ⟨cell_of_row _ _ 0 _ _ _ h, cell_of_row _ _ 1 _ _ _ h, cell_of_row _ _ 2 _ _ _ h, fun j => frozen_of_row _ _ j _ _ h, lt_of_block h, za h⟩
theorem cr4 {c0 c1 c2 c3 : Value} (h : w.heap[b]? = some (.cells #[c0, c1, c2, c3] T (0, 0))) : w.cell? ⟨b, 0, none⟩ = some c0 ∧ w.cell? ⟨b, 1, none⟩ = some c1 ∧ w.cell? ⟨b, 2, none⟩ = some c2 ∧ w.cell? ⟨b, 3, none⟩ = some c3 ∧ (∀ j, w.frozen? ⟨b, j, none⟩ = false) ∧ b < w.heap.size ∧ Hid (w.heap[b]? = some (.cells #[c0, c1, c2, c3] T (0, 0))) :=
  ⟨cell_of_row _ _ 0 _ _ _ h, cell_of_row _ _ 1 _ _ _ h, cell_of_row _ _ 2 _ _ _ h, cell_of_row _ _ 3 _ _ _ h, fun j => frozen_of_row _ _ j _ _ h, lt_of_block h, za h⟩
theorem cr5 {c0 c1 c2 c3 c4 : Value} (h : w.heap[b]? = some (.cells #[c0, c1, c2, c3, c4] T (0, 0))) : w.cell? ⟨b, 0, none⟩ = some c0 ∧ w.cell? ⟨b, 1, none⟩ = some c1 ∧ w.cell? ⟨b, 2, none⟩ = some c2 ∧ w.cell? ⟨b, 3, none⟩ = some c3 ∧ w.cell? ⟨b, 4, none⟩ = some c4 ∧ (∀ j, w.frozen? ⟨b, j, none⟩ = false) ∧ b < w.heap.size ∧ Hid (w.heap[b]? = some (.cells #[c0, c1, c2, c3, c4] T (0, 0))) :=
  ⟨cell_of_row _ _ 0 _ _ _ h, cell_of_row _ _ 1 _ _ _ h, cell_of_row _ _ 2 _ _ _ h, cell_of_row _ _ 3 _ _ _ h, cell_of_row _ _ 4 _ _ _ h, fun j => frozen_of_row _ _ j _ _ h, lt_of_block h, za h⟩
theorem cr6 {c0 c1 c2 c3 c4 c5 : Value} (h : w.heap[b]? = some (.cells #[c0, c1, c2, c3, c4, c5] T (0, 0))) : w.cell? ⟨b, 0, none⟩ = some c0 ∧ w.cell? ⟨b, 1, none⟩ = some c1 ∧ w.cell? ⟨b, 2, none⟩ = some c2 ∧ w.cell? ⟨b, 3, none⟩ = some c3 ∧ w.cell? ⟨b, 4, none⟩ = some c4 ∧ w.cell? ⟨b, 5, none⟩ = some c5 ∧ (∀ j, w.frozen? ⟨b, j, none⟩ = false) ∧ b < w.heap.size ∧ Hid (w.heap[b]? = some (.cells #[c0, c1, c2, c3, c4, c5] T (0, 0))) :=
  ⟨cell_of_row _ _ 0 _ _ _ h, cell_of_row _ _ 1 _ _ _ h, cell_of_row _ _ 2 _ _ _ h, cell_of_row _ _ 3 _ _ _ h, cell_of_row _ _ 4 _ _ _ h, cell_of_row _ _ 5 _ _ _ h, fun j => frozen_of_row _ _ j _ _ h, lt_of_block h, za h⟩
theorem cr7 {c0 c1 c2 c3 c4 c5 c6 : Value} (h : w.heap[b]? = some (.cells #[c0, c1, c2, c3, c4, c5, c6] T (0, 0))) : w.cell? ⟨b, 0, none⟩ = some c0 ∧ w.cell? ⟨b, 1, none⟩ = some c1 ∧ w.cell? ⟨b, 2, none⟩ = some c2 ∧ w.cell? ⟨b, 3, none⟩ = some c3 ∧ w.cell? ⟨b, 4, none⟩ = some c4 ∧ w.cell? ⟨b, 5, none⟩ = some c5 ∧ w.cell? ⟨b, 6, none⟩ = some c6 ∧ (∀ j, w.frozen? ⟨b, j, none⟩ = false) ∧ b < w.heap.size ∧ Hid (w.heap[b]? = some (.cells #[c0, c1, c2, c3, c4, c5, c6] T (0, 0))) :=
  ⟨cell_of_row _ _ 0 _ _ _ h, cell_of_row _ _ 1 _ _ _ h, cell_of_row _ _ 2 _ _ _ h, cell_of_row _ _ 3 _ _ _ h, cell_of_row _ _ 4 _ _ _ h, cell_of_row _ _ 5 _ _ _ h, cell_of_row _ _ 6 _ _ _ h, fun j => frozen_of_row _ _ j _ _ h, lt_of_block h, za h⟩
theorem cr9 {c0 c1 c2 c3 c4 c5 c6 c7 c8 : Value} (h : w.heap[b]? = some (.cells #[c0, c1, c2, c3, c4, c5, c6, c7, c8] T (0, 0))) : w.cell? ⟨b, 0, none⟩ = some c0 ∧ w.cell? ⟨b, 1, none⟩ = some c1 ∧ w.cell? ⟨b, 2, none⟩ = some c2 ∧ w.cell? ⟨b, 3, none⟩ = some c3 ∧ w.cell? ⟨b, 4, none⟩ = some c4 ∧ w.cell? ⟨b, 5, none⟩ = some c5 ∧ w.cell? ⟨b, 6, none⟩ = some c6 ∧ w.cell? ⟨b, 7, none⟩ = some c7 ∧ w.cell? ⟨b, 8, none⟩ = some c8 ∧ (∀ j, w.frozen? ⟨b, j, none⟩ = false) ∧ b < w.heap.size ∧ Hid (w.heap[b]? = some (.cells #[c0, c1, c2, c3, c4, c5, c6, c7, c8] T (0, 0))) :=
  ⟨cell_of_row _ _ 0 _ _ _ h, cell_of_row _ _ 1 _ _ _ h, cell_of_row _ _ 2 _ _ _ h, cell_of_row _ _ 3 _ _ _ h, cell_of_row _ _ 4 _ _ _ h, cell_of_row _ _ 5 _ _ _ h, cell_of_row _ _ 6 _ _ _ h, cell_of_row _ _ 7 _ _ _ h, cell_of_row _ _ 8 _ _ _ h, fun j => frozen_of_row _ _ j _ _ h, lt_of_block h, za h⟩
theorem je {c0 c1 c2 c3 c4 c5 c6 c7 c8 c9 : Value} (h : w.heap[b]? = some (.cells #[c0, c1, c2, c3, c4, c5, c6, c7, c8, c9] T (0, 0))) : w.cell? ⟨b, 0, none⟩ = some c0 ∧ w.cell? ⟨b, 1, none⟩ = some c1 ∧ w.cell? ⟨b, 2, none⟩ = some c2 ∧ w.cell? ⟨b, 3, none⟩ = some c3 ∧ w.cell? ⟨b, 4, none⟩ = some c4 ∧ w.cell? ⟨b, 5, none⟩ = some c5 ∧ w.cell? ⟨b, 6, none⟩ = some c6 ∧ w.cell? ⟨b, 7, none⟩ = some c7 ∧ w.cell? ⟨b, 8, none⟩ = some c8 ∧ w.cell? ⟨b, 9, none⟩ = some c9 ∧ (∀ j, w.frozen? ⟨b, j, none⟩ = false) ∧ b < w.heap.size ∧ Hid (w.heap[b]? = some (.cells #[c0, c1, c2, c3, c4, c5, c6, c7, c8, c9] T (0, 0))) :=
  ⟨cell_of_row _ _ 0 _ _ _ h, cell_of_row _ _ 1 _ _ _ h, cell_of_row _ _ 2 _ _ _ h, cell_of_row _ _ 3 _ _ _ h, cell_of_row _ _ 4 _ _ _ h, cell_of_row _ _ 5 _ _ _ h, cell_of_row _ _ 6 _ _ _ h, cell_of_row _ _ 7 _ _ _ h, cell_of_row _ _ 8 _ _ _ h, cell_of_row _ _ 9 _ _ _ h, fun j => frozen_of_row _ _ j _ _ h, lt_of_block h, za h⟩
theorem yE {c0 c1 c2 c3 c4 c5 c6 c7 c8 c9 c10 : Value} (h : w.heap[b]? = some (.cells #[c0, c1, c2, c3, c4, c5, c6, c7, c8, c9, c10] T (0, 0))) : w.cell? ⟨b, 0, none⟩ = some c0 ∧ w.cell? ⟨b, 1, none⟩ = some c1 ∧ w.cell? ⟨b, 2, none⟩ = some c2 ∧ w.cell? ⟨b, 3, none⟩ = some c3 ∧ w.cell? ⟨b, 4, none⟩ = some c4 ∧ w.cell? ⟨b, 5, none⟩ = some c5 ∧ w.cell? ⟨b, 6, none⟩ = some c6 ∧ w.cell? ⟨b, 7, none⟩ = some c7 ∧ w.cell? ⟨b, 8, none⟩ = some c8 ∧ w.cell? ⟨b, 9, none⟩ = some c9 ∧ w.cell? ⟨b, 10, none⟩ = some c10 ∧ (∀ j, w.frozen? ⟨b, j, none⟩ = false) ∧ b < w.heap.size ∧ Hid (w.heap[b]? = some (.cells #[c0, c1, c2, c3, c4, c5, c6, c7, c8, c9, c10] T (0, 0))) :=
  ⟨cell_of_row _ _ 0 _ _ _ h, cell_of_row _ _ 1 _ _ _ h, cell_of_row _ _ 2 _ _ _ h, cell_of_row _ _ 3 _ _ _ h, cell_of_row _ _ 4 _ _ _ h, cell_of_row _ _ 5 _ _ _ h, cell_of_row _ _ 6 _ _ _ h, cell_of_row _ _ 7 _ _ _ h, cell_of_row _ _ 8 _ _ _ h, cell_of_row _ _ 9 _ _ _ h, cell_of_row _ _ 10 _ _ _ h, fun j => frozen_of_row _ _ j _ _ h, lt_of_block h, za h⟩
end
section
variable {F : Fence} {n : Nat} {P : Program} {ops : Array Oper} {Q : Exit → Act → World → Prop} {md : Region.Mode} {fuel : Nat} {l : Array Bool} {a a' : Act} {w : World}
theorem iTk (i : Nat) {oi : Oper} {v : Value} (h : wpAnyIn F n P md ops Q fuel (l.setIfInBounds i true) (a.put oi.dst v) w) (hro : F.round = none := by exact rfl) (hi : ops[i]? = some oi := by exact rfl) (hs : Region.noSelect ops = true := by kernel_rfl) (hf : Region.free md ops l i = true := by kernel_rfl) (hr : (Region.ready md ops l).contains i = true := by kernel_rfl)
    (hQ : ∀ c a w, Q (.panic c) (a.put oi.dst v) w → Q (.panic c) a w := by exact fun _ _ _ h => h) (hy : YieldsFenced P ops oi v a := by exact ⟨Or.inl ⟨by rfl, by (intro w; go_simp; try with_reducible rfl)⟩, fun _ => rfl⟩) : wpAnyIn F n P md ops Q (fuel + 1) l a w :=
  wpAnyIn_take hro hi hs hf hr hQ hy h
theorem iSt (i : Nat) {o : Oper} (h : ∀ K' : Act → World → Prop, (∀ a w, wpAnyIn F n P md ops Q fuel (l.setIfInBounds i true) a w → K' a w) → if Region.wanted o (yielded ops a.tmps) = true then Oper.wpIn F n P o a w K' Q else (∀ f, o.about P w a.eval = some f → F.fn f) ∧ K' (a.put o.dst undef) w)
    (hr : Region.ready md ops l = [i] := by kernel_rfl) (ho : ops[i]? = some o := by exact rfl) : wpAnyIn F n P md ops Q (fuel + 1) l a w :=
  wpAnyIn_ready hr (by simp) (AllReadyIn.cons ho h AllReadyIn.nil)
end
theorem vz{w:World}{b j:Nat}{cs:Array Value}{T:TypeId}{v:Value}(h:w.heap[b]? = some (.cells cs T (0,0))):(w.setCell ⟨b,j,none⟩ v).heap[b]? = some (.cells (cs.setIfInBounds j v) T (0,0)):=zP w b j cs T v h
theorem zbO{w:World}{b:Nat}{u0 u1 v0 v1:Value}{T:TypeId}(h:w.heap[b]? = some (.cells #[u0,u1] T (0,0))):((w.setCell ⟨b,0,none⟩ v0).setCell ⟨b,1,none⟩ v1).heap[b]? = some (.cells #[v0,v1] T (0,0)) :=
 vz (j:=1) (vz (j:=0) h)
theorem Mod.set1{w:World}(b j:Nat)(v:Value):Mod (fun i=>i=b) w (w.setCell ⟨b,j,none⟩ v):=(Mod.refl (fun i=>i=b) w).setCell (p:=⟨b,j,none⟩) (fun _=>rfl) v
theorem Mod.set2{w:World}(b j k:Nat)(u v:Value):Mod (fun i=>i=b) w ((w.setCell ⟨b,j,none⟩ u).setCell ⟨b,k,none⟩ v):=(Mod.set1 b j u).trans (Mod.set1 b k v)
theorem Mod.fresh{S:Nat→Prop}{a b c:World}(h:zb a b)(hm:Mod S b c)(hS : ∀ i,S i→a.heap.size≤i):zb a c:=h.then hm (fun i hi hs=>by have:=hS i hs;omega)
theorem KV:(prog.info? 5).map (fun i=>(i.zero,i.size,i.bytes))=some (some (.int .u8 0),1,1):=by kernel_rfl
@[go_sem] theorem zmT (w : World) (a : Option Addr) (n c : Nat) : (binOp .eql 34 (.slice a n c) (.slice none 0 0)).run prog w=.ok (.bool a.isNone) w :=
 Lib.run_eql_slice_nil w _ _ a n c 0 0 underlying34
def xi(w:World)(v:Value):Prop := ∀ g,v.ownBlock=some g→w.heap.size≤g
def yv(w:World)(v:Value)(xs:List Value):Prop:=w.ownsRow 0 5 1 v xs.length xs
theorem ZJ{w:World}{v:Value}{n:Nat}{xs:List Value}(h:w.ownsRow 0 5 1 v n xs):yv w v xs:=by
 have:=h.1;rw[qh]at this;unfold yv;rw[this];exact h
theorem yv.read{w:World}{v:Value}{xs:List Value}(h:yv w v xs)(h1 : ∀ u∈xs,u.oneCell'=true):zn w v 1 xs:=zn.of_owns h h1
def VU(T k:Nat)(xs:List Value)(w:World)(e:Ending)(w':World):Prop :=
 ∃ a n c,e=.returned (.slice a n c)∧w'.ownsRow 0 T k (.slice a n c) n xs∧xi w (.slice a n c)∧zb w w'
theorem KK(k:Nat)(xs:List Value)(w:World)(n c:Nat)(h:zn w (.slice none n c) k xs):xs=[]:=by
 obtain⟨a',n',c',he,hl,_,h0,_⟩:=h
 cases he
 exact qx (by rw[hl,h0 rfl,Nat.zero_mul])
theorem KM(w:World)(T k:Nat):(w.alloc (.cells #[] T)).ownsRow 0 T k (.slice (some ⟨w.heap.size,0,none⟩) 0 0) 0 [] :=
 ⟨by simp,.inr ⟨_,_,#[],rfl,yh _,heap_alloc_new w _,zG _,by simp[maxLen],by simp,by simp⟩⟩
theorem U5(T k:Nat)(xs:List Value)(w w':World)(a:Option Addr)(m c:Nat)
  (ho:w'.ownsRow 0 T k (.slice a m c) m xs) (hg:(w.alloc (.cells #[] T)).grownBy w' (some w.heap.size)) (hb:(Value.slice a m c).ownBlock=some w.heap.size∨(Value.slice a m c).ownBlock=some (w.heap.size+1)) :
  VU T k xs w (.returned (.slice a m c)) w':=by
 exact⟨a,m,c,rfl,ho,fun g e=>by rcases hb with hb | hb<;>(rw[hb]at e;cases e;omega),
  ((Mod.refl _ w).alloc _).trans' (Mod.of_grown (S:=fun k=>w.heap.size≤k) hg (fun k e _=>by cases e;exact zG _)) (fun _ _ h=>h) (fun i hi h=>by omega)⟩
theorem Az6dl {P:Prop}(h:P:=by
 go_ret;simp only[List.nil_append,Nat.zero_add,World.size_alloc]at ho hb;exact U5 _ _ _ _ _ _ _ _ ho hg hb):P:=h
theorem Azajz {P:Prop}(h:P:=by
 go_wp2;go_ret;exact⟨none,0,0,rfl,by rw[h0];exact vj _ _ _ _,(fun g e=>by cases e),Mod.refl _ _⟩):P:=h
theorem UH(a:Option Addr)(n c:Nat)(xs:List Value)(w:World)(hx:zn w (.slice a n c) 1 xs)(hn:n≤140737488355328) :
  Calls prog 144 #[.slice a n c] w (VU 5 1 xs w):=by
 obtain⟨i0,hi,hz0,hz1,hz2⟩:=xn KV;have hlen:xs.length=n*1:=by obtain⟨a',n',c',he,hl,_⟩:=hx;cases he;exact hl
 cases a with
 | none =>
  have h0:=KK _ _ _ _ _ hx;have H:=za hx;clear hx;go_enter func144,ntmps144;exact Azajz
 | some ad =>
  have H:=za (hx.frame ((Mod.refl (fun _=>False) w).alloc (.cells #[] 5)) (fun _ _ h=>h));clear hx;have HO:=za (KM w 5 1);go_enter func144,ntmps144
  go_wp2_with (at_builtin;refine ul _ rfl _ _ 34 rfl 5 i0 _ 1 1 underlying34 hi hz0 hz1 hz2 rfl (by decide) _ 0 [] rfl HO.out _ xs n rfl H.out hlen (by unfold maxLen;omega) (by omega) ?_;intro a' c' w1 ho hg hb)
  exact Az6dl
structure Ent where
 key:ByteArray
 val:List UInt8
 dl:Int
 birth:Int
def zJ(l:List UInt8):List Value:=l.map fun b => .int .u8 b.toNat
theorem kO(l:List UInt8) : ∀ u∈zJ l,u.oneCell'=true:=by
 intro u hu;obtain⟨_,_,rfl⟩:=zI.1 hu
 rfl
theorem uP(l:List UInt8):(zJ l).length=l.length:=by simp[zJ]
def xL(n:Nat):Bool:=decide (0<n)&&decide (n≤250)
def vi(ks:Nat)(n:Nat)(birth:Int):Int:=if !(xL ks)||birth==0 then 2 else if decide (65536<(n:Int))then 5 else 0
theorem zaG(s:ByteArray)(w:World)(hs:s.size≤140737488355328):Calls prog 155 #[.string s] w fun e w'=>e=.returned (.bool (xL s.size))∧w=w':=by
 have H:Hid (∀ x:Bool,x=(decide ((0:Int)<s.size)&&decide ((s.size:Int)≤250))→x=xL s.size):=by
  rintro x rfl;simp only[xL,Int.natCast_pos]
  congr 2
  exact propext ⟨fun h=>by omega,fun h=>by omega⟩
 by_cases h:0<s.size
 all_goals
  go_enter func155,ntmps155;go_wp2;go_ret;exact⟨congrArg (fun b=>Ending.returned (.bool b)) (H.out _ (by simp[h])),rfl⟩
def QT(b1 b2:Bool)(e1 e2:Int):Int:=if b1 then e1 else if b2 then e2 else 0
def zi2(b1 b2:Bool)(e1 e2:Int)(w:World)(e:Ending)(w':World):Prop :=
 e=.returned (.int .i64 (QT b1 b2 e1 e2))∧zb w w'
theorem zei(b1 b2:Bool)(e1 e2:Int)(g:Nat)(w:World)(h0:w.cell? ⟨g,0,none⟩=some (.bool b1))(h1:w.cell? ⟨g,1,none⟩=some (.int .i64 e1))
  (h2:w.cell? ⟨g,2,none⟩=some (.bool b2)) (h3:w.cell? ⟨g,3,none⟩=some (.int .i64 e2)) (hg:g<w.heap.size) :
  Calls prog 272 #[.slice (some ⟨g,0,none⟩) 2 2] w (zi2 b1 b2 e1 e2 w):=by
 have hg1:g<w.heap.size+1:=by omega
 cases b1
 ·cases b2
  all_goals
   go_enter func272,ntmps272;go_wp2
   go_rounds 3
   go_ret;exact⟨rfl,((Mod.refl _ w).alloc _).alloc _⟩
 ·go_enter func272,ntmps272;go_wp2
  go_rounds 3
  go_ret;exact⟨rfl,(Mod.refl _ w).alloc _⟩
def KD(ks n:Nat)(birth:Int)(w:World)(e:Ending)(w':World):Prop:=e=.returned (.int .i64 (vi ks n birth))∧zb w w'
theorem UV(s:ByteArray)(a:Option Addr)(n c:Nat)(b:Int)(w:World)(hs:s.size≤140737488355328)(hn:n≤140737488355328) :
  Calls prog 214 #[.string s,.slice a n c,.int .u64 b] w (KD s.size n b w):=by
 cases hk:xL s.size
 all_goals
  have E:=za (show vi s.size n b=QT (!(xL s.size)||b==0) (decide (65536<(n:Int))) 2 5 from rfl);go_enter func214,ntmps214
  go_wp2_with (first | (go_at_call 155;refine zm (zaG s w hs) ?_;rintro e w' ⟨rfl,rfl⟩) | (go_at_call 272;refine zm (zei _ _ _ _ w.heap.size _ (VA w _ _ 0) (VA w _ _ 1) (VA w _ _ 2) (VA w _ _ 3) (by simp)) ?_;intro e w1 hp;obtain⟨rfl,hp⟩:=hp))
  go_ret;exact⟨by rw[E.out,hk];rfl,((Mod.refl _ _).alloc _).trans hp⟩
def ziD(k:ByteArray)(xs:List Value)(d b:Int)(w:World)(e:Ending)(w':World):Prop :=
 ∃ a n c,e=.returned (.agg #[.string k,.slice a n c,.int .u64 d,.int .u64 b])∧w'.ownsRow 0 5 1 (.slice a n c) n xs∧xi w (.slice a n c)∧zb w w'
theorem VS(k:ByteArray)(a:Option Addr)(n c:Nat)(d b:Int)(xs:List Value)(w:World)(hx:zn w (.slice a n c) 1 xs)(hn:n≤140737488355328) :
  Calls prog 63 #[.agg #[.string k,.slice a n c,.int .u64 d,.int .u64 b]] w (ziD k xs d b w):=by
 have H:=za (hx.frame (((Mod.refl (fun _=>False) w).alloc (.cells #[.string k,.slice a n c,.int .u64 d,.int .u64 b] 57)).alloc (.cells #[.string ByteArray.empty,.slice none 0 0,.int .u64 0,.int .u64 0] 57)) (fun _ _ h=>h));clear hx;go_enter func63,ntmps63
 go_wp2_with (go_at_call 144;refine zm (UH a n c xs _ H.out hn) ?_;rintro e w1 ⟨a',n',c',rfl,hr,hf,hp⟩;have h1:=hp.box (b:=w.heap.size) (zz (zi rfl)) (fun h=>h);have h2:=hp.box (b:=w.heap.size+1) (zi (by simp)) (fun h=>h);obtain⟨h1c,h1f⟩:=h1;obtain⟨h2c,h2f⟩:=h2)
 have hm:=((((((Mod.refl (fun k=>k=w.heap.size∨k=w.heap.size+1) w1).setCell (p:=⟨w.heap.size,1,none⟩) (fun _ => .inl rfl) (.slice a' n' c')).setCell (p:=⟨w.heap.size+1,0,none⟩) (fun _ => .inr rfl) (.string k)).setCell (p:=⟨w.heap.size+1,1,none⟩) (fun _ => .inr rfl) (.slice a' n' c')).setCell (p:=⟨w.heap.size+1,2,none⟩) (fun _ => .inr rfl) (.int .u64 d)).setCell (p:=⟨w.heap.size+1,3,none⟩) (fun _ => .inr rfl) (.int .u64 b));refine zK (v := .agg #[.string k,.slice a' n' c',.int .u64 d,.int .u64 b]) (by simp[results,results63,go_sem,h1c,h2c]) rfl ⟨a',n',c',rfl,zy hr hm ?_,?_,?_⟩
 ·intro g e h;have:=hf g e;simp at this;omega
 ·intro g e;have:=hf g e;simp at this;omega
 ·exact(((Mod.refl (fun k=>w.heap.size≤k) w).alloc _).alloc _).trans' (hp.trans' hm (fun _ _ h=>h.elim) (fun i _ h=>show w.heap.size≤i by omega)) (fun i h h'=>by omega) (fun i h h'=>by omega)
def zgB(k:ByteArray)(xs:List Value)(d b:Int)(w:World)(e:Ending)(w':World):Prop :=
 ∃ a n c,e=.returned (.tuple #[.agg #[.string k,.slice a n c,.int .u64 d,.int .u64 b],.int .i64 0])∧w'.ownsRow 0 5 1 (.slice a n c) n xs∧xi w (.slice a n c)∧zb w w'
theorem jo{w:World}{a:Option Addr}{n c k:Nat}{xs:List Value}(h:zn w (.slice a n c) k xs):xs.length=n*k:=by
 obtain⟨a',n',c',he,hl,_⟩:=h
 cases he
 exact hl
theorem zbn(k:ByteArray)(a:Option Addr)(n c:Nat)(d b:Int)(xs:List Value)(w:World)(hx:zn w (.slice a n c) 1 xs)(hn:n≤65536)(hk0:0<k.size)(hk:k.size≤250)(hb:(b==0)=false) :
    Calls prog 209 #[.string k,.slice a n c,.int .u64 d,.int .u64 b] w (zgB k xs d b w):=by
  have E:vi k.size n b=0:=by
    have:xL k.size=true:=by simp[xL,hk0,hk]
    have h2 : ¬ ((65536:Int)<n):=by omega
    simp[vi,this,hb,h2]
  go_enter func209,ntmps209
  go_wp2_with (first
    | (go_at_call 214;refine zm (UV k a n c b _ (by omega) (by omega)) ?_;rintro e w1 ⟨he,hp⟩;rw[E]at he;subst he;obtain⟨hpc,hpf⟩:=hp.cells;have hz:w.heap.size<w1.heap.size:=by have:=hp.size;simp at this;omega)
    | (go_at_call 63;refine zm (VS k a n c d b xs _ (hx.frame (S:=fun _=>False) (by exact xb) (fun _ _ h=>h)) (by omega)) ?_;rintro e w2 ⟨a',n',c',rfl,hr,hf,hp2⟩;obtain⟨hqc,hqf⟩:=hp2.cells))
  refine zK (v := .tuple #[.agg #[.string k,.slice a' n' c',.int .u64 d,.int .u64 b],.int .i64 0]) (by simp[results,results209,go_sem,hqc,hqf,hpc,hpf,hz]) rfl ⟨a',n',c',rfl,?_,?_,?_⟩
  · refine zy hr (S:=fun k=>k=w.heap.size) ?_ (fun g e h=>by have:=hf g e;omega)
    exact xb
  · intro g e
    have:=hf g e;omega
  · exact xb
end
section
open Go.RowKit
variable{Fo:Nat→Prop}
theorem Qz:(prog.info? 57).map (fun i=>(i.zero,i.size,i.bytes))=some (some (.agg #[.string ⟨#[]⟩,.slice none 0 0,.int .u64 0,.int .u64 0]),4,56):=by kernel_rfl
def xj:Option Ent × Value→List Value
 | (some e,v)=>[.string e.key,v,.int .u64 e.dl,.int .u64 e.birth]
 | (none,_)=>[.string ⟨#[]⟩,.slice none 0 0,.int .u64 0,.int .u64 0]
def zV(L:List (Option Ent)):Nat:=L.countP Option.isSome
structure Ent.Ok(e:Ent):Prop where
 k0:0<e.key.size
 k1:e.key.size≤250
 v1:e.val.length≤65536
 b0:0<e.birth
structure V0(L:List (Option Ent)):Prop where
 len:L.length≤4194304
 ent : ∀ e,some e∈L→e.Ok
structure zS(Fo:Nat→Prop)(w:World)(D:Nat→Prop)(p:Nat)(sv:Value)(M:List (Option Ent × Value)):Prop where
 box:w.heap[p]? = some (.cells #[.bool true,sv,.int .i64 (zV (M.map Prod.fst))] 287 (0,0))
 row:w.ownsRow 0 57 4 sv M.length (M.flatMap xj)
 vals : ∀ e v,(some e,v)∈M→yv w v (zJ e.val)
 dd : ∀ k,D k↔(k=p∨sv.ownBlock=some k)
 ok:V0 (M.map Prod.fst)
 off : ∀ e v g,(some e,v)∈M→v.ownBlock=some g → ¬ Fo g
 flt : ∀ k,Fo k→k<w.heap.size
def zY(Fo:Nat→Prop)(w:World)(D:Nat→Prop)(p:Nat)(L:List (Option Ent)):Prop := ∃ sv M,M.map Prod.fst=L∧zS Fo w D p sv M
section
variable{w w':World}{D S:Nat→Prop}{p:Nat}{sv:Value}{M:List (Option Ent × Value)}
theorem zS.np(h:zS Fo w D p sv M){g:Nat}(hg:sv.ownBlock=some g):g≠p:=by
 rintro rfl;obtain⟨c,e⟩:=yg h.row hg;rw[h.box]at e
 cases e
theorem zS.lt(h:zS Fo w D p sv M){k:Nat}(hk:D k):k<w.heap.size:=by
 rcases(h.dd k).1 hk with rfl | e
 ·exact zl h.box
 ·exact vh h.row e
theorem zS.nobytes(h:zS Fo w D p sv M){k:Nat}(hk:D k)(cs:Array Value)(fz:Nat × Nat):w.heap[k]? ≠ some (.cells cs 5 fz):=by
 intro e;rcases(h.dd k).1 hk with rfl | e'
 ·rw[h.box]at e;cases e
 ·obtain⟨c,e2⟩:=yg h.row e';rw[e2]at e;cases e
theorem kH{v:Value}{xs:List Value}(h:yv w v xs)(hm:Mod S w w')(hS : ∀ k,k<w.heap.size→S k → ∀ cs fz,w.heap[k]? ≠ some (.cells cs 5 fz)):yv w' v xs :=
 zy h hm (fun g hg hs=>by obtain⟨c,e⟩:=yg h hg;exact hS g (zl e) hs _ _ e)
theorem zS.frame(h:zS Fo w D p sv M)(hm:Mod S w w')(hD : ∀ k,D k → ¬ S k)(hS : ∀ k,k<w.heap.size→S k → ∀ cs fz,w.heap[k]? ≠ some (.cells cs 5 fz)):zS Fo w' D p sv M :=
 ⟨hm.heap (hD p ((h.dd p).2 (.inl rfl))) h.box,zy h.row hm (fun g hg=>hD g ((h.dd g).2 (.inr hg))),fun e v hv=>kH (h.vals e v hv) hm hS,h.dd,h.ok,h.off,fun k hk=>hm.lt (h.flt k hk)⟩
theorem zaS{v:Value}{xs:List Value}(h:yv w v xs)(ho : ∀ g,v.ownBlock=some g → ¬ Fo g)(hm:Mod S w w')(hS : ∀ k,k<w.heap.size→S k→Fo k ∨ ∀ cs fz,w.heap[k]? ≠ some (.cells cs 5 fz)):yv w' v xs :=
 zy h hm (fun g hg hs=>by
  obtain⟨c,e⟩:=yg h hg;rcases hS g (zl e) hs with hf | hf
  ·exact ho g hg hf
  ·exact hf _ _ e)
theorem zS.frameF(h:zS Fo w D p sv M)(hm:Mod S w w')(hD : ∀ k,D k → ¬ S k)(hS : ∀ k,k<w.heap.size→S k→Fo k ∨ ∀ cs fz,w.heap[k]? ≠ some (.cells cs 5 fz)):zS Fo w' D p sv M :=
 ⟨hm.heap (hD p ((h.dd p).2 (.inl rfl))) h.box,zy h.row hm (fun g hg=>hD g ((h.dd g).2 (.inr hg))),fun e v hv=>zaS (h.vals e v hv) (fun g hg=>h.off e v g hv hg) hm hS,h.dd,h.ok,h.off,fun k hk=>hm.lt (h.flt k hk)⟩
theorem zS.refo{Fo':Nat→Prop}(h:zS Fo w D p sv M)(hm:zb w w')(h1 : ∀ k,Fo' k→Fo k∨w.heap.size≤k)(h2 : ∀ k,Fo' k→k<w'.heap.size):zS Fo' w' D p sv M :=
 ⟨hm.heap (fun h=>h) h.box,zy h.row hm (fun _ _ h=>h),fun e v hv=>zy (h.vals e v hv) hm (fun _ _ h=>h),h.dd,h.ok,fun e v g hv hg hf=>(by
  rcases h1 g hf with hx | hx
  ·exact h.off e v g hv hg hx
  ·have:=vh (h.vals e v hv) hg;omega),h2⟩
theorem zS.pure(h:zS Fo w D p sv M)(hm:zb w w'):zS Fo w' D p sv M:=h.frame hm (fun _ _ h=>h) (fun _ _ h=>h.elim)
end
theorem zmj(w:World):Calls prog 224 #[] w fun e w'=>e=.returned (.pointer (some ⟨w.heap.size,0,none⟩))∧w.alloc (.cells #[.bool true,.slice none 0 0,.int .i64 0] 287)=w':=by
 go_enter func224,ntmps224;go_wp2;go_ret;exact⟨rfl,rfl⟩
theorem Ze(p:Nat)(b:Bool)(w:World)(h:w.cell? ⟨p,0,none⟩=some (.bool b)):Calls prog 226 #[.pointer (some ⟨p,0,none⟩)] w fun e w'=>e=.returned (.bool (!b))∧w=w':=by
 go_enter func226,ntmps226;go_wp2;go_ret;exact⟨rfl,rfl⟩
theorem Azqn1 {P:Prop}(h:P:=by
 go_enter func234,ntmps234
 go_wp2_with (go_at_call 226;refine zm (Ze p true _ h0) ?_;rintro e w' ⟨rfl,rfl⟩)
 go_ret2;exact⟨rfl,rfl⟩):P:=h
theorem V4(p g n c i:Nat)(b:Int)(w:World)(h0:w.cell? ⟨p,0,none⟩=some (.bool true))(h1:w.cell? ⟨p,1,none⟩=some (.slice (some ⟨g,0,none⟩) n c))(hi:i<n)(hn:n≤4194304)
  (h3:w.cell? ⟨g,i*4+3,none⟩=some (.int .u64 b)) (hb:(b==0)=false) :
  Calls prog 234 #[.pointer (some ⟨p,0,none⟩),.int .u32 i] w fun e w'=>e=.returned (.tuple #[.pointer (some ⟨g,i*4,none⟩),.int .i64 0])∧w=w':=by
 have hi0:(0:Int)≤i:=by omega
 have hi1:(i:Int)<n:=by omega
 exact Azqn1
theorem zeA(p g n c i:Nat)(w:World)(h0:w.cell? ⟨p,0,none⟩=some (.bool true))(h1:w.cell? ⟨p,1,none⟩=some (.slice (some ⟨g,0,none⟩) n c))(hi:i<n)(hn:n≤4194304)
  (h3:w.cell? ⟨g,i*4+3,none⟩=some (.int .u64 0)) :
  Calls prog 234 #[.pointer (some ⟨p,0,none⟩),.int .u32 i] w fun e w'=>e=.returned (.tuple #[.pointer none,.int .i64 9])∧w=w':=by
 have hi0:(0:Int)≤i:=by omega
 have hi1:(i:Int)<n:=by omega
 exact Azqn1
theorem zgX(p n c i:Nat)(a:Option Addr)(w:World)(h0:w.cell? ⟨p,0,none⟩=some (.bool true))(h1:w.cell? ⟨p,1,none⟩=some (.slice a n c))(hi:n≤i)(hu:i≤4294967295) :
  Calls prog 234 #[.pointer (some ⟨p,0,none⟩),.int .u32 i] w fun e w'=>e=.returned (.tuple #[.pointer none,.int .i64 9])∧w=w':=by
 have hi1:(n:Int)≤i:=by omega
 exact Azqn1
theorem jN(m:Option Ent × Value):(xj m).length=4:=by
 obtain⟨o,v⟩:=m
 cases o<;>rfl
theorem zS.cells{w:World}{D:Nat→Prop}{p:Nat}{sv:Value}{M:List (Option Ent × Value)}(h:zS Fo w D p sv M) :
  w.cell? ⟨p,0,none⟩=some (.bool true)∧w.cell? ⟨p,1,none⟩=some sv∧w.cell? ⟨p,2,none⟩=some (.int .i64 (zV (M.map Prod.fst)))∧(∀ j,w.frozen? ⟨p,j,none⟩=false):=by
 have:=h.box;exact⟨by simp[cell_of_row w p _ _ _ _ this],by simp[cell_of_row w p _ _ _ _ this],by simp[cell_of_row w p _ _ _ _ this],fun j=>yP w p j _ _ this⟩
theorem zS.slot{w:World}{D:Nat→Prop}{p:Nat}{sv:Value}{M:List (Option Ent × Value)}(h:zS Fo w D p sv M){i:Nat}{m:Option Ent × Value}(hi:M[i]? = some m) :
  ∃ g c,sv=.slice (some ⟨g,0,none⟩) M.length c∧g<w.heap.size∧g≠p∧i<M.length∧M.length≤4194304∧(∀ j u,(xj m)[j]? = some u→w.cell? ⟨g,i*4+j,none⟩=some u) ∧ ∀ j,w.frozen? ⟨g,j,none⟩=false:=by
 have hlt:i<M.length:=(zF.1 hi).1;obtain⟨g,c,rfl,_,hg,hc,hf,_⟩:=kt h.row (by omega);have ng:=h.np (g:=g) rfl;have hlen:=h.ok.len;rw[yt]at hlen;refine⟨g,c,rfl,hg,ng,hlt,hlen,fun j u hu=>hc _ _ ?_,hf⟩;have hj:j<4:=by rw[← jN m];exact(zF.1 hu).1
 rw[uX xj 4 jN j hj,hi];exact hu
def zb5(o:Option Ent)(w:World)(e:Ending)(w':World):Prop :=
 match o with
 | some x => ∃ a n c,e=.returned (.tuple #[.agg #[.string x.key,.slice a n c,.int .u64 x.dl,.int .u64 x.birth],.int .i64 0])∧yv w' (.slice a n c) (zJ x.val)∧xi w (.slice a n c)∧zb w w'
 | none=>e=.returned (.tuple #[.agg #[.string ⟨#[]⟩,.slice none 0 0,.int .u64 0,.int .u64 0],.int .i64 9])∧zb w w'
def Zf(M:List (Option Ent × Value))(i:Nat):Option Ent:=(M[i]?).bind Prod.fst
theorem zh2{w:World}{D:Nat→Prop}{p:Nat}{sv:Value}{M:List (Option Ent × Value)}(h:zS Fo w D p sv M){i:Nat}{x:Ent}{v:Value}(hi:M[i]? = some (some x,v)) :
  Calls prog 157 #[.pointer (some ⟨p,0,none⟩),.int .u32 i] w (zb5 (some x) w):=by
 obtain⟨g,c,rfl,hg,ng,hlt,hn,hc,hf⟩:=h.slot hi;obtain⟨c0,c1,c2,cf⟩:=h.cells;have hx:=(h.vals x v (yd hi)).read (kO _);have hok:=h.ok.ent x (zI.2 ⟨_,yd hi,rfl⟩);have s0:w.cell? ⟨g,i*4,none⟩=_:=hc 0 _ rfl;have s1:=hc 1 _ rfl;have s2:=hc 2 _ rfl;have s3:=hc 3 _ rfl;have hlp:p<w.heap.size:=YT w _ c0;have hb:(x.birth==0)=false:=by have:=hok.b0;simp;omega
 obtain⟨a,n,cc,rfl,hl,_⟩:=id hx;have hn':n≤140737488355328:=by have:=hok.v1;rw[uP]at hl;omega
 have H:=za (hx.frame ((Mod.refl (fun _=>False) w).alloc (.cells #[.string ByteArray.empty,.slice none 0 0,.int .u64 0,.int .u64 0] 57)) (fun _ _ h=>h));have HL:=za h;clear h hx hc hl;have hlp1:p<w.heap.size+1:=by omega
 have hg1:g<w.heap.size+1:=by omega
 go_enter func157,ntmps157
 go_wp2_with (first | (go_at_call 234;refine zm (V4 p g _ c i x.birth _ (by simpa[go_sem,hlp]using c0) (by simpa[go_sem,hlp]using c1) hlt hn (by simpa[go_sem,hg]using s3) hb) ?_;rintro e w' ⟨rfl,rfl⟩) | (go_at_call 63;refine zm (VS x.key a n cc _ _ _ _ H.out hn') ?_;rintro e w1 ⟨a',n',c',rfl,hr,hf,hp⟩;obtain⟨hpc,hpf⟩:=hp.cells))
 refine zK (v := .tuple #[.agg #[.string x.key,.slice a' n' c',.int .u64 x.dl,.int .u64 x.birth],.int .i64 0]) (by simp[results,results157,go_sem,hpc,hpf]) rfl ⟨a',n',c',rfl,?_,?_,?_⟩
 ·refine zy (ZJ hr) (S:=fun k=>k=w.heap.size) ?_ (fun g e h=>by have:=hf g e;simp at this;omega);exact xb
 ·intro g e;have:=hf g e;simp at this;omega
 ·exact xb
def vU(D D':Nat→Prop)(w:World):Prop := ∀ k,D' k→D k∨w.heap.size≤k
def zfW(Fo:Nat→Prop)(w:World)(D:Nat→Prop)(p:Nat)(M:List (Option Ent × Value))(x:Ent)(e:Ending)(w':World):Prop :=
 e=.returned (.tuple #[.int .u32 M.length,.int .i64 0]) ∧ ∃ D' sv' v',zS Fo w' D' p sv' (M++[(some x,v')])∧Mod D w w'∧vU D D' w
theorem zbx(L:List (Option Ent)):zV L≤L.length:=Uq
theorem zfB{w W Wg w2:World}{D:Nat→Prop}{p:Nat}{sv sv2 v:Value}{M:List (Option Ent × Value)}{x:Ent}(HL:zS Fo w D p sv M)(hL:M.length<4194304)(HO:x.Ok)(HP:zb w W)(HG:zb W Wg)
  (hgrow:Wg.grownBy w2 sv.ownBlock) (hown:w2.ownsRow 0 57 4 sv2 (M.length+1) (M.flatMap xj++[.string x.key,v,.int .u64 x.dl,.int .u64 x.birth]))
  (hat:sv2.ownBlock=sv.ownBlock∨sv2.ownBlock=some Wg.heap.size) (hrd:yv W v (zJ x.val)) (hfr : ∀ g,v.ownBlock=some g→w.heap.size≤g) :
  ∃ D' sv' v',zS Fo ((w2.setCell ⟨p,1,none⟩ sv2).setCell ⟨p,2,none⟩ (.int .i64 ((zV (M.map Prod.fst):Int)+1))) D' p sv' (M++[(some x,v')]) ∧
   Mod D w ((w2.setCell ⟨p,1,none⟩ sv2).setCell ⟨p,2,none⟩ (.int .i64 ((zV (M.map Prod.fst):Int)+1)))∧vU D D' w:=by
 have hlp:p<w.heap.size:=zl HL.box;have hWp:=HP.then HG (fun _ _ h=>h);have sz1:=hWp.size;have HLg:=HL.pure hWp;have hb2:w2.heap[p]? = some (.cells #[.bool true,sv,.int .i64 (zV (M.map Prod.fst))] 287 (0,0)):=by
  rw[hgrow.block p (by omega) (fun e=>HL.np e.symm rfl)];exact HLg.box
 have hbox:((w2.setCell ⟨p,1,none⟩ sv2).setCell ⟨p,2,none⟩ (.int .i64 ((zV (M.map Prod.fst):Int)+1))).heap[p]? = some (.cells #[.bool true,sv2,.int .i64 ((zV (M.map Prod.fst):Int)+1)] 287 (0,0)):=by
  have h1:=zP w2 p 1 _ _ sv2 hb2;exact zP _ p 2 _ _ (.int .i64 ((zV (M.map Prod.fst):Int)+1)) h1
 have hset:Mod (fun k=>k=p) w2 ((w2.setCell ⟨p,1,none⟩ sv2).setCell ⟨p,2,none⟩ (.int .i64 ((zV (M.map Prod.fst):Int)+1))) :=
  ((Mod.refl (fun k=>k=p) w2).setCell (p:=⟨p,1,none⟩) (fun _=>rfl) _).setCell (p:=⟨p,2,none⟩) (fun _=>rfl) _
 have hall:Mod D Wg ((w2.setCell ⟨p,1,none⟩ sv2).setCell ⟨p,2,none⟩ (.int .i64 ((zV (M.map Prod.fst):Int)+1))) :=
  (Mod.of_grown hgrow (S:=D) (fun k e _=>(HL.dd k).2 (.inr e))).trans' hset (fun _ _ h=>h) (fun i _ h=>(HL.dd i).2 (.inl h))
 have hnb:=fun k (_:k<Wg.heap.size) (hk:D k) cs fz=>HLg.nobytes hk cs fz
 have hnp2 : ∀ g,sv2.ownBlock=some g→g≠p:=fun g e=>by
  rcases hat with h | h
  ·exact HL.np (h ▸ e)
  ·rw[h]at e;cases e;omega
 refine⟨fun k=>k=p∨sv2.ownBlock=some k,sv2,v,⟨?_,?_,?_,fun _=>vE,?_,?_,fun k hk=>hall.lt (hWp.lt (HL.flt k hk))⟩,?_,?_⟩
 ·rw[hbox];simp[zV]
 ·have:=zy hown hset (fun g e h=>hnp2 g e h);simpa[xj]using this
 ·intro e u hm;rw[yF]at hm;rcases hm with hm | hm
  ·exact kH (HLg.vals e u hm) hall hnb
  ·simp at hm;obtain⟨rfl,rfl⟩:=hm;exact kH (zy hrd HG (fun _ _ h=>h)) hall hnb
 ·refine⟨by simp;omega,fun e he => ?_⟩;simp at he;rcases he with he | he
  ·exact HL.ok.ent e (by simpa using he)
  ·subst he;exact HO
 ·intro e u g hm hg hf;rw[yF]at hm;rcases hm with hm | hm
  ·exact HL.off e u g hm hg hf
  ·simp at hm;obtain⟨rfl,rfl⟩:=hm;have:=hfr g hg;have:=HL.flt g hf;omega
 ·exact hWp.trans' hall (fun _ _ h=>h.elim) (fun _ _ h=>h)
 ·rintro k (h | h)
  ·exact .inl ((HL.dd k).2 (.inl h))
  ·rcases hat with h' | h'
   ·exact .inl ((HL.dd k).2 (.inr (h' ▸ h)))
   ·rw[h']at h;cases h;exact .inr sz1
theorem zhZ{w:World}{D:Nat→Prop}{p:Nat}{sv:Value}{M:List (Option Ent × Value)}(h:zS Fo w D p sv M)(hL:M.length<4194304)(x:Ent)(hok:x.Ok)(a:Option Addr)(n c:Nat)
    (hx:zn w (.slice a n c) 1 (zJ x.val)) :
    Calls prog 212 #[.pointer (some ⟨p,0,none⟩),.agg #[.string x.key,.slice a n c,.int .u64 x.dl,.int .u64 x.birth]] w (zfW Fo w D p M x):=by
  obtain⟨sa,sc,rfl,_⟩:=uN h.row;obtain⟨c0,c1,c2,cf⟩:=h.cells;have hlp:p<w.heap.size:=YT w _ c0;have hb:(x.birth==0)=false:=by have:=hok.b0;simp;omega
  have hn:n≤65536:=by have:=jo hx;rw[uP]at this;have:=hok.v1;omega
  obtain⟨i0,hi,iz0,iz1,iz2⟩:=xn Qz;have ng : ∀ g,(Value.slice sa M.length sc).ownBlock=some g→g≠p∧g<w.heap.size:=fun g e=>⟨h.np e,vh h.row e⟩
  have NG:=za ng;clear ng;have H:=za hx;have HL:=za h;have HO:=za hok;have hd:decide ((4194304:Int)≤(M.length:Int))=false:=by simp;omega
  have HLL:=za hL;clear h hx hok hL;have hlp1:p<w.heap.size+1:=by omega
  go_enter func212,ntmps212;go_upto_region 8 with(first
    | (go_at_call 226;refine zm (Ze p true _ (by simpa[go_sem,hlp]using c0)) ?_;rintro e w' ⟨rfl,rfl⟩)
    | (go_at_call 209;go_must (refine zm (zbn x.key a n c _ _ (zJ x.val) _ (H.out.frame (S:=fun _=>False) (by exact xb) (fun _ _ h=>h)) hn HO.out.k0 HO.out.k1 hb) ?_);rintro e w1 ⟨a',n',c',rfl,hr,hf,hp⟩;obtain⟨hpc,hpf⟩:=hp.cells;have hz:w.heap.size<w1.heap.size:=(by have:=hp.size;simp at this;omega);have hz2:p<w1.heap.size:=(by omega)))
  have HP:zb w (w1.alloc (.cells #[.string x.key,.slice a' n' c',.int .u64 x.dl,.int .u64 x.birth] 57)):=by
    exact xb
  have hB:w.heap.size≤w1.heap.size∧(w1.alloc (.cells #[.string x.key,.slice a' n' c',.int .u64 x.dl,.int .u64 x.birth] 57)).heap[w1.heap.size]? = some (.cells #[.string x.key,.slice a' n' c',.int .u64 x.dl,.int .u64 x.birth] 57 (0,0)):=⟨by omega,zi rfl⟩;have HRD:yv (w1.alloc (.cells #[.string x.key,.slice a' n' c',.int .u64 x.dl,.int .u64 x.birth] 57)) (.slice a' n' c') (zJ x.val):=zy (ZJ hr) ((Mod.refl (fun _=>False) w1).alloc _) (fun _ _ h=>h);have hfr : ∀ g,(Value.slice a' n' c').ownBlock=some g→w.heap.size<g:=fun g e=>by have:=hf g e;simp at this;omega
  generalize hW:w1.alloc (.cells #[.string x.key,.slice a' n' c',.int .u64 x.dl,.int .u64 x.birth] 57)=W at HP hB HRD ⊢;generalize w1.heap.size=B at hB ⊢;clear hW hpc hpf hz hz2 hp hr hf hlp1;have HROW:=za (zy HL.out.row HP (fun _ _ h=>h));have e1:=HP.cell (fun h=>h) c1;have e2:=HP.cell (fun h=>h) c2;have ef : ∀ j,W.frozen? ⟨p,j,none⟩=false:=fun j=>(Xs (w:=w) (a:=⟨p,j,none⟩) (HP.block p hlp (fun h=>h))).trans (cf j)
  have lp:p<W.heap.size:=HP.lt hlp;have b0:=zf W B 0 _ _ _ hB.2;have b1:=zf W B 1 _ _ _ hB.2;have b2:=zf W B 2 _ _ _ hB.2;have b3:=zf W B 3 _ _ _ hB.2;simp at b0 b1 b2 b3;have lB:B<W.heap.size:=zl hB.2;have np:Hid (some p≠(Value.slice sa M.length sc).ownBlock):=fun e=>(NG.out p e.symm).1 rfl
  have nb:Hid (some B≠(Value.slice sa M.length sc).ownBlock):=fun e=>by have:=(NG.out _ e.symm).2;omega
  have HHB:=za hB;have HHP:=za HP;have HH1:=za HRD;have HH2:=za hfr;clear hB HP HRD hfr;generalize hlv:(zV (M.map Prod.fst))=lv at e2 ⊢;have hlv2:lv≤4194304:=by have:=zbx (M.map Prod.fst);rw[yt]at this;have:=HLL.out;omega
  have HLV:=za hlv;clear hlv c0 c1 c2 cf
  go_region_law ((refine XQ _ (by rfl) _ _ 37 (by rfl) 57 i0 _ 4 56 underlying37 hi iz0 iz1 iz2 rfl (by decide) (.slice sa M.length sc) M.length _ (by rfl) ((HROW.out.alloc _).drew) _ [.string x.key,.slice a' n' c',.int .u64 x.dl,.int .u64 x.birth] 1 (by rfl) (zn.of_block 1 1 4 (zi (by simp)) (by rfl) (by simp[Value.oneCell'])) (by rfl) (by unfold maxLen;have:=HLL.out;omega) (by have:=HLL.out;omega) ?_;intro a2 cc2 w2 hown2 hgrow2 hat2;have f2 : ∀ j,w2.frozen? ⟨p,j,none⟩=false:=(fun j=>(hgrow2.frozen_far ⟨p,j,none⟩ (by simp;omega) np.out).trans ((World.frozen?_alloc_past _ _ _ lp).trans (ef j)));have f3:=(hgrow2.cell (a:=⟨p,1,none⟩) (v := .slice sa M.length sc) (by simp[*,World.cell?_alloc_some,World.cell?_setCell_far,go_sem]) np.out);have f4:=(hgrow2.cell (a:=⟨p,2,none⟩) (v := .int .i64 lv) (by simp[*,World.cell?_alloc_some,World.cell?_setCell_far,go_sem]) np.out)))
  all_goals
    go_wp2;go_ret2;refine⟨by simp;exact zhY _ (by have:=HLL.out;omega),?_⟩;rw[← HLV.out];exact zfB HL.out HLL.out HO.out HHP.out (by exact xb) hgrow2 hown2 (by simpa using hat2) HH1.out (fun g e=>Zq (HH2.out g e))
theorem zS.miss{w:World}{D:Nat→Prop}{p:Nat}{sv:Value}{M:List (Option Ent × Value)}(h:zS Fo w D p sv M){i:Nat}(hu:i≤4294967295)(hi:Zf M i=none) :
  ∀ W,zb w W→Calls prog 234 #[.pointer (some ⟨p,0,none⟩),.int .u32 i] W fun e w'=>e=.returned (.tuple #[.pointer none,.int .i64 9])∧W=w':=by
 intro W hW;have h:=h.pure hW;obtain⟨c0,c1,c2,cf⟩:=h.cells;by_cases hlt:i<M.length
 ·have he:=zN hlt;generalize M[i]=m at he;obtain⟨o,v⟩:=m;have ho:o=none:=by simpa[Zf,he]using hi
  subst ho;obtain⟨g,c,rfl,hg,ng,_,hn,hc,hf⟩:=h.slot he;exact zeA p g _ c i W c0 c1 hlt hn (hc 3 _ rfl)
 ·obtain⟨a,c,rfl,_⟩:=uN h.row;exact zgX p _ c i a W c0 c1 (by omega) hu
theorem zcw{w:World}{D:Nat→Prop}{p:Nat}{sv:Value}{M:List (Option Ent × Value)}(h:zS Fo w D p sv M){i:Nat}(hu:i≤4294967295)(hi:Zf M i=none) :
  Calls prog 157 #[.pointer (some ⟨p,0,none⟩),.int .u32 i] w (zb5 none w):=by
 have HA:=za (h.miss hu hi);clear h;go_enter func157,ntmps157
 go_wp2_with (go_at_call 234;refine(HA.out _ (by exact xb)).mono ?_;rintro e w' ⟨rfl,rfl⟩)
 refine zK (v := .tuple #[.agg #[.string ⟨#[]⟩,.slice none 0 0,.int .u64 0,.int .u64 0],.int .i64 9]) (by simp[results,results157,go_sem]) rfl ⟨rfl,?_⟩;exact xb
theorem Azuwq {P:Prop}(h:P:=by
 go_wp2_with (go_at_call 226;refine zm (Ze p true _ c0) ?_;rintro e w' ⟨rfl,rfl⟩)
 go_ret;exact⟨rfl,rfl⟩):P:=h
theorem zg2{w:World}{D:Nat→Prop}{p:Nat}{sv:Value}{M:List (Option Ent × Value)}(h:zS Fo w D p sv M) :
  Calls prog 184 #[.pointer (some ⟨p,0,none⟩)] w fun e w'=>e=.returned (.int .i64 M.length)∧w=w':=by
 obtain⟨c0,c1,c2,cf⟩:=h.cells;obtain⟨a,c,rfl,_⟩:=uN h.row;clear h;go_enter func184,ntmps184;exact Azuwq
theorem zic{w:World}{D:Nat→Prop}{p:Nat}{sv:Value}{M:List (Option Ent × Value)}(h:zS Fo w D p sv M) :
  Calls prog 180 #[.pointer (some ⟨p,0,none⟩)] w fun e w'=>e=.returned (.int .i64 (zV (M.map Prod.fst)))∧w=w':=by
 obtain⟨c0,c1,c2,cf⟩:=h.cells;clear h;go_enter func180,ntmps180;exact Azuwq
@[go_sem] theorem zmE (w : World) (a : Option Addr) (n c : Nat) : (binOp .eql 37 (.slice a n c) (.slice none 0 0)).run prog w=.ok (.bool a.isNone) w :=
 Lib.run_eql_slice_nil w _ _ a n c 0 0 underlying37
theorem zbS(a:Option Addr)(n c:Nat)(xs:List Value)(w:World)(hx:zn w (.slice a n c) 4 xs)(hn:n≤4294967295) :
  Calls prog 227 #[.slice a n c] w (VU 57 4 xs w):=by
 obtain⟨i0,hi,hz0,hz1,hz2⟩:=xn Qz;have hlen:xs.length=n*4:=jo hx
 cases a with
 | none =>
  have h0:=KK _ _ _ _ _ hx;have H:=za hx;clear hx;go_enter func227,ntmps227;exact Azajz
 | some ad =>
  have H:=za (hx.frame ((Mod.refl (fun _=>False) w).alloc (.cells #[] 57)) (fun _ _ h=>h));clear hx;have HO:=za (KM w 57 4);go_enter func227,ntmps227
  go_wp2_with (at_builtin;refine ul _ rfl _ _ 37 rfl 57 i0 _ 4 56 underlying37 hi hz0 hz1 hz2 rfl (by decide) _ 0 [] rfl HO.out _ xs n rfl H.out hlen (by unfold maxLen;omega) (by omega) ?_;intro a' c' w1 ho hg hb)
  exact Az6dl
theorem zdX{M:List (Option Ent × Value)}{w:World}(h : ∀ e v,(some e,v)∈M→yv w v (zJ e.val)) : ∀ u∈M.flatMap xj,u.oneCell'=true:=by
 intro u hu;obtain⟨⟨o,v⟩,hm,hu⟩:=ZG.1 hu
 cases o with
 | none=>simp[xj]at hu;rcases hu with rfl | rfl | rfl<;>rfl
 | some e =>
  obtain⟨a,c,hv,_⟩:=uN (h e v hm);simp[xj,hv]at hu;rcases hu with rfl | rfl | rfl | rfl<;>rfl
theorem zS.read{w:World}{D:Nat→Prop}{p:Nat}{sv:Value}{M:List (Option Ent × Value)}(h:zS Fo w D p sv M):zn w sv 4 (M.flatMap xj) :=
 zn.of_owns h.row (zdX h.vals)
def zlB(Fo:Nat→Prop)(w:World)(M:List (Option Ent × Value))(e:Ending)(w':World):Prop :=
 ∃ q sv' D',e=.returned (.pointer (some ⟨q,0,none⟩))∧zS Fo w' D' q sv' M∧zb w w' ∧ ∀ k,D' k→w.heap.size≤k
theorem zhE{w:World}{D:Nat→Prop}{p:Nat}{sv:Value}{M:List (Option Ent × Value)}(h:zS Fo w D p sv M) :
  Calls prog 309 #[.pointer (some ⟨p,0,none⟩)] w (zlB Fo w M):=by
 obtain⟨c0,c1,c2,cf⟩:=h.cells;obtain⟨a,c,rfl,_⟩:=uN h.row;have HR:=za h.read;have HL:=za h;have hn:M.length≤4294967295:=by have:=h.ok.len;rw[yt]at this;omega
 clear h;go_enter func309,ntmps309;go_upto_region 3 with(go_at_call 226;refine zm (Ze p true _ c0) ?_;rintro e w' ⟨rfl,rfl⟩)
 go_region_held3 (fun w'=>w'.cell? ⟨p,1,none⟩=some (.slice a M.length c)∧w'.cell? ⟨p,2,none⟩=some (.int .i64 (zV (M.map Prod.fst))))
  (first | exact⟨c1,c2⟩ | exact⟨hp.cell (fun h=>h) c1,hp.cell (fun h=>h) c2⟩ | exact⟨(hp.alloc _).cell (fun h=>h) c1,(hp.alloc _).cell (fun h=>h) c2⟩)
  (first | (go_at_call 227;refine zm (zbS a M.length c _ _ HR.out hn) ?_;rintro e w1 ⟨a',n',c',rfl,hr,hf,hp⟩))
 go_wp2;go_ret;obtain rfl:=zdK hr (by decide) (YW xj 4 jN M);have hq:(w1.alloc (.cells #[.bool true,.slice a' M.length c',.int .i64 (zV (M.map Prod.fst))] 287)).heap[w1.heap.size]? = _:=zi rfl;have hp':zb w w1:=hp.of_drew;refine⟨w1.heap.size,.slice a' M.length c',fun k=>k=w1.heap.size∨(Value.slice a' M.length c').ownBlock=some k,rfl,⟨hq,?_,fun e v hm => ?_,fun _=>vE,HL.out.ok,HL.out.off,fun k hk=>(hp'.alloc _).lt (HL.out.flt k hk)⟩,hp'.alloc _,?_⟩
 ·exact zy hr ((Mod.refl (fun _=>False) w1).alloc _) (fun _ _ h=>h)
 ·exact zy (HL.out.vals e v hm) (hp'.alloc _) (fun _ _ h=>h)
 ·rintro k (rfl | h)
  ·exact hp'.size
  ·exact hf k h
theorem zeJ{w:World}{q:Nat}(hFo : ∀ k,Fo k→k<w.heap.size)(h:w.heap[q]? = some (.cells #[.bool true,.slice none 0 0,.int .i64 0] 287 (0,0))):zS Fo w (fun k=>k=q) q (.slice none 0 0) [] :=
 ⟨h,vj _ _ _ _,(fun _ _ h=>by cases h),fun k=>⟨.inl,fun h=>by rcases h with h | h;exact h;cases h⟩,⟨by simp,fun _ h=>by simp at h⟩,(fun _ _ _ h=>by cases h),hFo⟩
end
section
open Go.RowKit
variable{Fo:Nat→Prop}
theorem zdd{α:Type}{l:List α}{i:Nat}{a:α}(h:l[i]? = some a):l.set i a=l:=by
 apply uF;intro j;rw[Xz];split
 ·rename_i e;subst e;rw[zk (zF.1 h).1,h]
 ·rfl
theorem za9(M:List (Option Ent × Value))(i:Nat)(m m':Option Ent × Value)(hi:M[i]? = some m)(a b c d:Value)(hm:xj m'=[a,b,c,d]) :
  ((((M.flatMap xj).set (i*4) a).set (i*4+1) b).set (i*4+2) c).set (i*4+3) d=(M.set i m').flatMap xj:=by
 have h0 : ∀ r∈M.map xj,r.length=4:=by
  intro r hr;obtain⟨x,_,rfl⟩:=zI.1 hr;exact jN x
 have e:=Yk 4 0 (by decide) a _ h0 i;rw[XR]at e;simp only[List.flatMap_def];rw[e,Yk 4 1 (by decide) b _ (Zx h0 i 0 a) i,Yk 4 2 (by decide) c _ (Zx (Zx h0 i 0 a) i 1 b) i,
  Yk 4 3 (by decide) d _ (Zx (Zx (Zx h0 i 0 a) i 1 b) i 2 c) i]
 congr 1
 have e2 : ∀(f g:List Value→List Value) (R:List (List Value)),(R.modify i f).modify i g=R.modify i (g ∘ f):=fun f g R=>List.modify_modify_eq f g i R
 rw[e2,e2,e2];refine zcA xj _ m' M i m hi ?_;rw[hm];have:=jN m
 match h:xj m,this with
 | [_,_,_,_],_=>rfl
theorem Azvut {P:Prop}(h:P:=by
 induction M generalizing i with
 | nil=>simp at hi
 | cons a M ih =>
  cases i with
  | zero =>
   simp at hi;subst hi;simp[zV]
  | succ i =>
   have:=ih i (by simpa using hi);simp only[List.set_cons_succ,List.map_cons,zV,List.countP_cons]at this ⊢;omega):P:=h
theorem zan(M:List (Option Ent × Value))(i:Nat)(e:Ent)(v v':Value)(hi:M[i]? = some (some e,v)):(zV ((M.set i (none,v')).map Prod.fst):Int)=(zV (M.map Prod.fst):Int)-1∧1≤zV (M.map Prod.fst):=by
 exact Azvut
def zlD(Fo:Nat→Prop)(w:World)(D:Nat→Prop)(p i:Nat)(x:Ent)(sv:Value)(M:List (Option Ent × Value))(e:Ending)(w':World):Prop :=
 ∃ a n c,e=.returned (.tuple #[.agg #[.string x.key,.slice a n c,.int .u64 x.dl,.int .u64 x.birth],.int .i64 0])∧yv w' (.slice a n c) (zJ x.val)∧xi w (.slice a n c) ∧
  zS Fo w' D p sv (M.set i (none,.slice none 0 0))∧Mod D w w'
theorem zjX{w W w':World}{D:Nat→Prop}{p g c i lv:Nat}{x:Ent}{v:Value}{M:List (Option Ent × Value)}
  (HL:zS Fo w D p (.slice (some ⟨g,0,none⟩) M.length c) M) (hi:M[i]? = some (some x,v)) (HP:zb w W)
  (hlv:zV (M.map Prod.fst)=lv)
  (hw':(((((W.setCell ⟨g,i*4,none⟩ (.string ⟨#[]⟩)).setCell ⟨g,i*4+1,none⟩ (.slice none 0 0)).setCell ⟨g,i*4+2,none⟩ (.int .u64 0)).setCell ⟨g,i*4+3,none⟩ (.int .u64 0)).setCell ⟨p,2,none⟩ (.int .i64 ((lv:Int)-1)))=w') :
  zS Fo w' D p (.slice (some ⟨g,0,none⟩) M.length c) (M.set i (none,.slice none 0 0))∧Mod D w w':=by
 subst hw';have HW:=HL.pure HP;have hlt:i<M.length:=(zF.1 hi).1;have hgp:=HL.np (g:=g) rfl;have hDg:D g:=(HL.dd g).2 (.inr rfl);have hDp:D p:=(HL.dd p).2 (.inl rfl);have hmod:Mod D W (((((W.setCell ⟨g,i*4,none⟩ (.string ⟨#[]⟩)).setCell ⟨g,i*4+1,none⟩ (.slice none 0 0)).setCell ⟨g,i*4+2,none⟩ (.int .u64 0)).setCell ⟨g,i*4+3,none⟩ (.int .u64 0)).setCell ⟨p,2,none⟩ (.int .i64 ((lv:Int)-1))) :=
  (((((Mod.refl D W).setCell (p:=⟨g,i*4,none⟩) (fun _=>hDg) _).setCell (p:=⟨g,i*4+1,none⟩) (fun _=>hDg) _).setCell (p:=⟨g,i*4+2,none⟩) (fun _=>hDg) _).setCell (p:=⟨g,i*4+3,none⟩) (fun _=>hDg) _).setCell (p:=⟨p,2,none⟩) (fun _=>hDp) _
 have hl:=zan M i x v (.slice none 0 0) hi;refine⟨⟨?_,?_,fun e u hm => ?_,?_,?_,fun e u g hm hg => ?_,fun k hk=>hmod.lt (HP.lt (HL.flt k hk))⟩,(Mod.of_pure HP).trans hmod⟩
 ·have hb:((((W.setCell ⟨g,i*4,none⟩ (.string ⟨#[]⟩)).setCell ⟨g,i*4+1,none⟩ (.slice none 0 0)).setCell ⟨g,i*4+2,none⟩ (.int .u64 0)).setCell ⟨g,i*4+3,none⟩ (.int .u64 0)).heap[p]? = _ :=
   yT (yT (yT (yT HW.box hgp.symm) hgp.symm) hgp.symm) hgp.symm
  have:=zP _ p 2 _ _ (.int .i64 ((lv:Int)-1)) hb;rw[this,hl.1,hlv]
  rfl
 ·have r0:=uT HW.row (i*4) (.string ⟨#[]⟩) (by omega);have r1:=uT r0 (i*4+1) (.slice none 0 0) (by omega);have r2:=uT r1 (i*4+2) (.int .u64 0) (by omega);have r3:=uT r2 (i*4+3) (.int .u64 0) (by omega);rw[za9 M i _ (none,.slice none 0 0) hi _ _ _ _ rfl]at r3;have r4:=zy r3 (S:=fun k=>k=p) ((Mod.refl (fun k=>k=p) _).setCell (p:=⟨p,2,none⟩) (fun _=>rfl) (.int .i64 ((lv:Int)-1))) (fun g' e h=>by cases e;exact hgp h);rw[xH];exact r4
 ·have hm':(some e,u)∈M:=by
   rcases jS hm with h | h
   ·exact h
   ·cases h
  exact kH (HW.vals e u hm') hmod (fun k _ hk cs fz=>HW.nobytes hk cs fz)
 ·exact HL.dd
 ·refine⟨by have:=HL.ok.len;simpa using this,fun e he => ?_⟩;rw[YZ]at he;rcases jS he with h | h
  ·exact HL.ok.ent e h
  ·cases h
 ·have hm':(some e,u)∈M:=by
   rcases jS hm with h | h
   ·exact h
   ·cases h
  exact HL.off e u g hm' hg
theorem zjA{w:World}{D:Nat→Prop}{p:Nat}{sv:Value}{M:List (Option Ent × Value)}(h:zS Fo w D p sv M){i:Nat}{x:Ent}{v:Value}(hi:M[i]? = some (some x,v)) :
  Calls prog 243 #[.pointer (some ⟨p,0,none⟩),.int .u32 i] w (zlD Fo w D p i x sv M):=by
 obtain⟨g,c,rfl,hg,ng,hlt,hn,hc,hf⟩:=h.slot hi;obtain⟨c0,c1,c2,cf⟩:=h.cells;have hx:=(h.vals x v (yd hi)).read (kO _);have hok:=h.ok.ent x (zI.2 ⟨_,yd hi,rfl⟩);have s0:w.cell? ⟨g,i*4,none⟩=_:=hc 0 _ rfl;have s1:=hc 1 _ rfl;have s2:=hc 2 _ rfl;have s3:=hc 3 _ rfl;have hlp:p<w.heap.size:=YT w _ c0;have hb:(x.birth==0)=false:=by have:=hok.b0;simp;omega
 obtain⟨a,n,cc,rfl,hl,_⟩:=id hx;have hn':n≤140737488355328:=by have:=hok.v1;rw[uP]at hl;omega
 have H:=za (hx.frame ((Mod.refl (fun _=>False) w).alloc (.cells #[.string ByteArray.empty,.slice none 0 0,.int .u64 0,.int .u64 0] 57)) (fun _ _ h=>h));have HL:=za h;have HI:=za hi;generalize hlv:(zV (M.map Prod.fst))=lv at c2;have hlv1:1≤lv∧lv≤4194304:=by have:=(zan M i x _ (.slice none 0 0) hi).2;have:=zbx (M.map Prod.fst);rw[yt]at this;omega
 have HLV:=za hlv;obtain⟨hlv1,hlv2⟩:=hlv1;clear h hx hc hl hlv hi;have hlp1:p<w.heap.size+1:=by omega
 have hg1:g<w.heap.size+1:=by omega
 go_enter func243,ntmps243;go_upto_region 5 with(first | (go_at_call 234;refine zm (V4 p g _ c i x.birth _ (by simpa[go_sem,hlp]using c0) (by simpa[go_sem,hlp]using c1) hlt hn (by simpa[go_sem,hg]using s3) hb) ?_;rintro e w' ⟨rfl,rfl⟩) | (go_at_call 63;refine zm (VS x.key a n cc _ _ _ _ H.out hn') ?_;rintro e w1 ⟨a',n',c',rfl,hr,hfr,hp⟩;obtain⟨hpc,hpf⟩:=hp.cells))
 have hz:w.heap.size<w1.heap.size:=by have:=hp.size;simp at this;omega
 have HP:zb w (w1.alloc (.cells #[.string x.key,.slice a' n' c',.int .u64 x.dl,.int .u64 x.birth] 57)):=by
  exact xb
 have hA:(w1.alloc (.cells #[.string x.key,.slice a' n' c',.int .u64 x.dl,.int .u64 x.birth] 57)).heap[w.heap.size]? = some (.cells #[.string ByteArray.empty,.slice none 0 0,.int .u64 0,.int .u64 0] 57 (0,0)):=zz (hp.heap (fun h=>h) (zi rfl));have hB:(w1.alloc (.cells #[.string x.key,.slice a' n' c',.int .u64 x.dl,.int .u64 x.birth] 57)).heap[w1.heap.size]? = some (.cells #[.string x.key,.slice a' n' c',.int .u64 x.dl,.int .u64 x.birth] 57 (0,0)):=zi rfl;have HRD:yv (w1.alloc (.cells #[.string x.key,.slice a' n' c',.int .u64 x.dl,.int .u64 x.birth] 57)) (.slice a' n' c') (zJ x.val):=zy (ZJ hr) ((Mod.refl (fun _=>False) w1).alloc _) (fun _ _ h=>h);have hfr' : ∀ k,(Value.slice a' n' c').ownBlock=some k→w.heap.size<k:=fun k e=>by have:=hfr k e;simp at this;omega
 generalize hW:w1.alloc (.cells #[.string x.key,.slice a' n' c',.int .u64 x.dl,.int .u64 x.birth] 57)=W at HP hA hB HRD ⊢;have hgB:g≠w1.heap.size:=by omega
 have hpB:p≠w1.heap.size:=by omega
 have hAB:w.heap.size≠w1.heap.size:=by omega
 have hsB:w.heap.size<w1.heap.size:=hz;generalize w1.heap.size=B at hB hgB hpB hAB hsB ⊢;clear hW hpc hpf hz hp hr hfr hlp1 hg1;have hgA:g≠w.heap.size:=by omega
 have hpA:p≠w.heap.size:=by omega
 have HSZ:Hid (w.heap.size≤w.heap.size):=zG _;have ar : ∀(j:Nat),W.frozen? ⟨w.heap.size,j,none⟩=false:=fun j=>yP W _ j _ _ hA
 have ac:=fun j=>zf W w.heap.size j _ _ _ hA
 have bc:=fun j=>zf W B j _ _ _ hB
 have a0:=ac 0;have a1:=ac 1;have a2:=ac 2;have a3:=ac 3;have b0:=bc 0;have b1:=bc 1;have b2:=bc 2;have b3:=bc 3;simp at a0 a1 a2 a3 b0 b1 b2 b3;replace c2:=HP.cell (fun h=>h) c2;replace s0:=HP.cell (fun h=>h) s0;replace s1:=HP.cell (fun h=>h) s1;replace s2:=HP.cell (fun h=>h) s2;replace s3:=HP.cell (fun h=>h) s3;have cfW:W.frozen? ⟨p,2,none⟩=false:=(Xs (w:=w) (a:=⟨p,2,none⟩) (HP.block p hlp (fun h=>h))).trans (cf 2);have hfW : ∀ j,W.frozen? ⟨g,j,none⟩=false:=fun j=>(Xs (w:=w) (a:=⟨g,j,none⟩) (HP.block g hg (fun h=>h))).trans (hf j)
 have HHP:=za HP;have HHA:=za hA;have HRD':=za HRD;have HFR:=za hfr';clear ac bc hA hB HP HRD hfr' c0 c1 cf hf;go_upto_region 7 with fail
 have hend:=zjX (w':=(((((W.setCell ⟨g,i*4,none⟩ (.string ⟨#[]⟩)).setCell ⟨g,i*4+1,none⟩ (.slice none 0 0)).setCell ⟨g,i*4+2,none⟩ (.int .u64 0)).setCell ⟨g,i*4+3,none⟩ (.int .u64 0)).setCell ⟨p,2,none⟩ (.int .i64 ((lv:Int)-1)))) HL.out HI.out HHP.out HLV.out rfl;have kA:(((((W.setCell ⟨g,i*4,none⟩ (.string ⟨#[]⟩)).setCell ⟨g,i*4+1,none⟩ (.slice none 0 0)).setCell ⟨g,i*4+2,none⟩ (.int .u64 0)).setCell ⟨g,i*4+3,none⟩ (.int .u64 0)).setCell ⟨p,2,none⟩ (.int .i64 ((lv:Int)-1))).heap[w.heap.size]? = _ :=
  yT (yT (yT (yT (yT HHA.out hgA.symm) hgA.symm) hgA.symm) hgA.symm) hpA.symm
 have kB : ∀ j u,W.cell? ⟨B,j,none⟩=some u→(((((W.setCell ⟨g,i*4,none⟩ (.string ⟨#[]⟩)).setCell ⟨g,i*4+1,none⟩ (.slice none 0 0)).setCell ⟨g,i*4+2,none⟩ (.int .u64 0)).setCell ⟨g,i*4+3,none⟩ (.int .u64 0)).setCell ⟨p,2,none⟩ (.int .i64 ((lv:Int)-1))).cell? ⟨B,j,none⟩=some u:=by
  intro j u hu;rw[YL _ _ _ _ (by simp[hpB]),YL _ _ _ _ (by simp[hgB]),YL _ _ _ _ (by simp[hgB]),YL _ _ _ _ (by simp[hgB]),YL _ _ _ _ (by simp[hgB])];exact hu
 have hRD:yv (((((W.setCell ⟨g,i*4,none⟩ (.string ⟨#[]⟩)).setCell ⟨g,i*4+1,none⟩ (.slice none 0 0)).setCell ⟨g,i*4+2,none⟩ (.int .u64 0)).setCell ⟨g,i*4+3,none⟩ (.int .u64 0)).setCell ⟨p,2,none⟩ (.int .i64 ((lv:Int)-1))) (.slice a' n' c') (zJ x.val):=by
  refine zy HRD'.out (S:=fun k=>k=g∨k=p) ?_ (fun k e h=>by have:=HFR.out k e;omega)
  (repeat'(first | (with_reducible exact Mod.refl _ _) | (with_reducible refine Mod.alloc ?_ _) | (with_reducible refine Mod.drew ?_) | (with_reducible refine Mod.drewN ?_ _) | (with_reducible refine Mod.setCell ?_ ?_ _) | (refine Mod.then ?_ (by with_reducible assumption) ?_)))
  all_goals(intro _;first | exact .inl rfl | exact .inr rfl)
 replace b0:=kB _ _ b0;replace b1:=kB _ _ b1;replace b2:=kB _ _ b2;replace b3:=kB _ _ b3;generalize(((((W.setCell ⟨g,i*4,none⟩ (.string ⟨#[]⟩)).setCell ⟨g,i*4+1,none⟩ (.slice none 0 0)).setCell ⟨g,i*4+2,none⟩ (.int .u64 0)).setCell ⟨g,i*4+3,none⟩ (.int .u64 0)).setCell ⟨p,2,none⟩ (.int .i64 ((lv:Int)-1)))=W3 at *;clear kB a0 a1 a2 a3 c2 s0 s1 s2 s3 ar hfW cfW;have ac:=fun j=>zf W3 w.heap.size j _ _ _ kA
 have ar : ∀(j:Nat),W3.frozen? ⟨w.heap.size,j,none⟩=false:=fun j=>yP W3 _ j _ _ kA
 have a0:=ac 0;have a1:=ac 1;have a2:=ac 2;have a3:=ac 3;simp at a0 a1 a2 a3;have HE:=za hend;have HKA:=za kA;have HRD3:=za hRD;clear hend kA ac hRD;go_wp2;refine zK (v := .tuple #[.agg #[.string x.key,.slice a' n' c',.int .u64 x.dl,.int .u64 x.birth],.int .i64 0]) (by simp[results,results243,go_sem,a0,a1,a2,a3]) rfl ⟨a',n',c',rfl,?_,?_,?_,?_⟩
 ·refine zy HRD3.out (S:=fun k=>k=w.heap.size) ?_ (fun k e h=>by have:=HFR.out k e;omega);exact xb
 ·exact fun k e=>Zq (HFR.out k e)
 ·refine HE.out.1.frame (S:=fun k=>k=w.heap.size) ?_ (fun k hk h=>by have:=HL.out.lt hk;omega) ?_
  ·exact xb
  ·rintro k _ rfl cs fz e;rw[HKA.out]at e
   cases e
 ·refine HE.out.2.then (T:=fun k=>k=w.heap.size) ?_ (fun k hk h=>by omega);exact xb
end
section
open Go.RowKit
theorem qk{w:World}{a:Option Addr}{n c:Nat}(l:List UInt8)(h:zn w (.slice a n c) 1 (zJ l)) :
  (convert 34 9 (.slice a n c)).run prog w=.ok (.string ⟨l.toArray⟩) w:=by
 obtain⟨a',n',c',he,hl,_,h0,hc⟩:=h
 cases he
 rw[uP,qh]at hl;subst hl
 cases a with
 | none =>
  have:=h0 rfl;have hn:l=[]:=qx this;subst hn;rw[run_convert_bytes_string w _ _ _ none (List.length (α:=UInt8) []) c underlying34 underlying5 underlying9]
  rfl
 | some ad =>
  exact run_convert_bytes_back w _ _ _ ad c l underlying34 underlying5 underlying9 (fun j hj=>hc ad rfl j _ (by simp[zJ,hj]))
end
section
open Go.ChangeShapes Go.WideShapes Go.ChangeAt Go.RowKit
theorem zjQ{H:Type}{enc:TypeId × Value→H}{P:Program}{f:Func}{s:ChangeSpec}{apart fresh handsOn again:Bool}{W W':World}{args:Array Value}{v:Value}{ds gs:List (DataW H)}{before pa pv:List MemPlace}
  (hW:DataW.Whole enc P f.params.toList s.vars apart W args.toList ds gs before)
  (hres : ∀(b:Nat) (sp:Nat→Bool) (hd:Bool),DataW.TrodAll enc P W' b sp hd f.resultTypes.toList (v.resultList f.resultTypes.size) (s.fn H (ds++gs)).results [])
  (hargs : ∀ sp:Nat→Bool,(∀ p∈before,sp p.block=true)→DataW.TrodAll enc P W' 0 sp true f.params.toList args.toList (s.fn H (ds++gs)).args pa)
  (hvars : ∀ sp:Nat→Bool,(∀ p∈before,sp p.block=true)→DataW.TrodVars enc P W' sp s.vars (s.fn H (ds++gs)).vars pv)
  (hps:before=pa++pv) (hm:zb W W')
  (hok : ∀(j:Nat) (t:TypeId) (r:Value),f.resultTypes[j]? = some t→(v.resultList f.resultTypes.size)[j]? = some r→Value.okWide P W' .any 0 t r) :
  s.post enc P f apart fresh handsOn again W args v W':=by
 have hb:Below W.heap.size W W':=hm.below (fun _ _ h=>h);subst hps;have hlt : ∀ p∈pa++pv,p.block<W.heap.size:=fun p hp=>hW.lt p hp
 have hold : ∀ p∈pa++pv,(fun b=>decide (b<W.heap.size)) p.block=true:=fun p hp=>zL (hlt p hp)
 refine⟨ds,gs,pa++pv,[],pa,pv,hW,hres _ _ _,hargs _ hold,hvars _ hold,World.keptBut_mono (fun p hp=>⟨hp,Or.inr (yF.1 hp)⟩) (hb.frame (· ∈ pa++pv)),fun _ => ?_⟩;obtain⟨_,_,_,_,_,hz,hn⟩:=hW;refine⟨hok,_,_,([]++pa)++pv,⟨[]++pa,pv,trodAll_append (hargs _ (fun _ _=>rfl)) (hres _ _ _),hvars _ (fun _ _=>rfl),rfl,fun b off hp => ?_,fun ha=>by simpa using hn ha⟩,fun p hp _=>by simpa using hp⟩;have hin:MemPlace.cell b off∈pa++pv:=by simpa using hp
 rw[hb.frozen (hlt _ hin)];exact hz b off hin
theorem zgn:ownKnob prog.godebug=none:=by kernel_rfl
theorem zmi:laidOutB prog=true:=by kernel_rfl
theorem zaV{H:Type}{enc:TypeId × Value→H}{P:Program}{W W':World}{sp:Nat→Bool}(hl:laidOutB P=true) : ∀(ts:List TypeId) (vs:List Value) (ds:List (DataW H)) (ps:List MemPlace),
  (ts.all fun t=>P.readableRec t&&decide (t<P.types.size))=true→DataW.TrodAll enc P W 0 (fun _=>true) true ts vs ds ps→(∀ x∈ps,W.sameAt W' x)→(∀ x∈ps,sp x.block=true)→DataW.TrodAll enc P W' 0 sp true ts vs ds ps
 | [],[],[],ps,_,h,_,_=>h
 | t::ts,v::vs,d::ds,ps,ht,h,hs,hp=>by
  obtain⟨p,q,h1,h2,rfl⟩:=h;simp only[List.all_cons,Bool.and_eq_true,decide_eq_true_eq]at ht;exact⟨p,q,WideElems.Trod_stays hl ht.1.1 ht.1.2 h1 (fun x hx=>hs x (xQ _ hx)) (fun x hx=>hp x (xQ _ hx)),
   zaV hl ts vs ds q ht.2 h2 (fun x hx=>hs x (xC _ hx)) (fun x hx=>hp x (xC _ hx)),rfl⟩
 | [],_::_,_,_,_,h,_,_=>h.elim
 | [],[],_::_,_,_,h,_,_=>h.elim
 | _::_,[],_,_,_,h,_,_=>h.elim
 | _::_,_::_,[],_,_,h,_,_=>h.elim
theorem zkW{H:Type}{enc:TypeId × Value→H}{P:Program}{f:Func}{s:ChangeSpec}{fresh handsOn again:Bool}{W W':World}{args:Array Value}{ds gs:List (DataW H)}{before:List MemPlace}{tb:TypeId}
  (hl:laidOutB P=true) (hts:(f.params.toList.all fun t=>P.readableRec t&&decide (t<P.types.size))=true) (hv:s.vars=[]) (hrt:f.resultTypes=#[tb]) (htb:P.underlying tb=some .bool)
  (hW:DataW.Whole enc P f.params.toList s.vars false W args.toList ds gs before) (hspec:s.fn H (ds++[]) = {results:=[.lit (.bool true)],args:=ds}) (hm:zb W W') :
  s.post enc P f false fresh handsOn again W args (.bool true) W':=by
 have hW':=hW;obtain⟨p,q,hA,hV,rfl,hfz,hnd⟩:=hW;have hb:Below W.heap.size W W':=hm.below (fun _ _ h=>h);rw[hv]at hV;obtain⟨rfl,rfl⟩:=trodVars_none hV;have hlt : ∀ x∈p,x.block<W.heap.size:=fun x hx=>hW'.lt x (xQ _ hx)
 refine zjQ (pa:=p) (pv:=[]) hW' ?_ ?_ ?_ rfl hm ?_
 ·intro b sp hd;rw[hspec,hrt];exact trodAll_cons_mk (shut_bool htb _) trodAll_mk0
 ·intro sp hsp;rw[hspec];exact zaV hl _ _ _ _ hts hA (fun x hx=>hb.same (hlt x hx)) (fun x hx=>hsp x (xQ _ hx))
 ·intro sp _;rw[hv,hspec]
  rfl
 ·exact ok_one hrt rfl (okWide_bool_mk htb _)
end
section
open Go
theorem zlu:Tryz.pinned.checked.prog.funcs.any Func.goes=false:=by kernel_rfl
theorem zjK{P:Program}(h:P.funcs.any Func.goes=false)(f:FuncId):P.goes f=false:=by
 have h1 : ∀ g:FuncId,(P.funcs[g]?).any Func.goes=false:=fun g=>by
  cases e:P.funcs[g]? with
  | none=>rfl
  | some fn =>
   show Func.goes fn=false
   rw[Array.any_eq_false]at h;obtain⟨hl,he⟩:=uY.1 e;have:=h g hl;rw[he]at this;simpa using this
 have h2:((P.closure f).any fun g=>(P.funcs[g]?).any Func.goes)=false:=by
  cases e:(P.closure f).any fun g=>(P.funcs[g]?).any Func.goes with
  | false=>rfl
  | true =>
   simp only[List.any_eq_true,Array.any_eq_true]at e
   first
    | (obtain⟨g,_,hg⟩:=e;rw[h1 g]at hg;cases hg)
    | (obtain⟨i,hi,hg⟩:=e;rw[h1]at hg;cases hg)
 unfold Program.goes;rw[h2,h,Bool.and_false]
 rfl
theorem zgP:false=Rows.cacheNoneRow.goesBy Tryz.pinned.checked.prog:=by
 have hs:Rows.cacheNoneRow.start=.entering:=rfl;unfold OpenClaim.goesBy Program.goesAt Program.goesFrom;rw[hs]
 cases Tryz.pinned.checked.prog.funcNamed Rows.cacheNoneRow.func with
 | none=>rfl
 | some f=>simp only[Option.any_some,zjK zlu f];rfl
end
section
open Go.ChangeShapes Go.WideShapes Go.ChangeAt Go.RowKit
theorem zco(z:Int)(h:(Lit.int .u64 z).wf=true):0≤z∧z<(18446744073709551616:Nat):=by
 simp[Lit.wf,IntKind.min,IntKind.max,IntKind.signed,IntKind.bits]at h;omega
end
section
open Go.ChangeShapes Go.WideShapes Go.ChangeAt Go.RowKit Go.Deep Go.Joins
theorem zhX{α:Type}{cs:Array α}(h:cs.size=7) : ∃ c0 c1 c2 c3 c4 c5 c6,cs=#[c0,c1,c2,c3,c4,c5,c6]:=by
 obtain⟨l⟩:=cs
 match l,h with
 | [c0,c1,c2,c3,c4,c5,c6],_=>exact⟨c0,c1,c2,c3,c4,c5,c6,rfl⟩
theorem zlS{H:Type}{enc:TypeId × Value→H}{P:Program}{w:World}{base:Nat}{spare:Nat→Bool}{held:Bool}{t:TypeId}{f0 f1 f2 f3 f4 f5 f6:Field}{fuel:Nat}{cs:List Value}{x:DataW H × List MemPlace}(ht:P.underlying t=some (.struct #[f0,f1,f2,f3,f4,f5,f6]))(h:DataW.trod enc P w base spare held fuel t cs=some x) :
  ∃ y0 y1 y2 y3 y4 y5 y6 n,DataW.trod enc P w base spare held n f0.type ((cs.drop f0.offset).take (P.cellsOf f0.type))=some y0 ∧
   DataW.trod enc P w base spare held n f1.type ((cs.drop f1.offset).take (P.cellsOf f1.type))=some y1∧DataW.trod enc P w base spare held n f2.type ((cs.drop f2.offset).take (P.cellsOf f2.type))=some y2 ∧
   DataW.trod enc P w base spare held n f3.type ((cs.drop f3.offset).take (P.cellsOf f3.type))=some y3∧DataW.trod enc P w base spare held n f4.type ((cs.drop f4.offset).take (P.cellsOf f4.type))=some y4 ∧
   DataW.trod enc P w base spare held n f5.type ((cs.drop f5.offset).take (P.cellsOf f5.type))=some y5∧DataW.trod enc P w base spare held n f6.type ((cs.drop f6.offset).take (P.cellsOf f6.type))=some y6:=by
 obtain⟨xs,n,_,rfl,hl,hlen,hf⟩:=DataW.trod_struct ht h
 match xs,hlen with
 | [y0,y1,y2,y3,y4,y5,y6],_=>exact⟨y0,y1,y2,y3,y4,y5,y6,n,by simpa using hf 0 f0 rfl,by simpa using hf 1 f1 rfl,by simpa using hf 2 f2 rfl,by simpa using hf 3 f3 rfl,by simpa using hf 4 f4 rfl,by simpa using hf 5 f5 rfl,by simpa using hf 6 f6 rfl⟩
theorem zfp{H:Type}{enc:TypeId × Value→H}{W:World}{base:Nat}{sp:Nat→Bool}{held:Bool}{r:Reach}{b0:Nat}{v:Value}{d:DataW H}{p:List MemPlace}(hv:Value.okWide prog W r b0 36 v)(h:DataW.Trod enc prog W base sp held 36 v d p) :
  ∃(what:Int) (T:Nat) (key:ByteArray) (a:Option Addr) (n c N:Nat) (cnt byt:Int),v=.agg #[.int .i64 what,.int .u64 T,.string key,.slice a n c,.int .u64 N,.int .i64 cnt,.int .i64 byt]∧T<18446744073709551616∧key.size≤9223372036854775807∧n≤9223372036854775807∧N<18446744073709551616:=by
 obtain⟨cs,rfl,hsz⟩:=okWide_struct underlying36 hv;obtain⟨fuel,hf⟩:=h;have e7:(prog).cellsOf 36=7:=by kernel_rfl
 rw[e7]at hsz;obtain⟨c0,c1,c2,c3,c4,c5,c6,rfl⟩:=zhX hsz;obtain⟨y0,y1,y2,y3,y4,y5,y6,n,t0,t1,t2,t3,t4,t5,t6⟩:=zlS underlying36 hf;have k0:(prog).cellsOf 3=1:=by kernel_rfl
 have k1:(prog).cellsOf 33=1:=by kernel_rfl
 have k2:(prog).cellsOf 9=1:=by kernel_rfl
 have k3:(prog).cellsOf 34=1:=by kernel_rfl
 have k4:(prog).cellsOf 22=1:=by kernel_rfl
 simp only[k0,k1,k2,k3,k4,Value.cells,List.drop,List.take]at t0 t1 t2 t3 t4 t5 t6;obtain⟨z0,f0,_,_⟩:=XL underlying3 t0;obtain⟨z1,f1,_,w1⟩:=XL underlying33 t1;obtain⟨s,es,_,hs⟩:=DataW.trod_string underlying9 t2;obtain⟨z4,f4,_,w4⟩:=XL underlying22 t4;obtain⟨z5,f5,_,_⟩:=XL underlying3 t5;obtain⟨z6,f6,_,_⟩:=XL underlying3 t6
 cases f0;cases f1;cases es;cases f4;cases f5;cases f6
 have g1:=zco _ w1;have g4:=zco _ w4;have s1:((z1.toNat:Nat):Int)=z1:=Y7 g1.1;have s4:((z4.toNat:Nat):Int)=z4:=Y7 g4.1;have hm:maxLen≤9223372036854775807:=by decide
 rcases open_slice underlying34 t3 with⟨h0,_⟩ | ⟨a,len,cap,m,n',D,Pl,h0,_,hl,hc,_⟩
 ·cases h0
  exact⟨z0,z1.toNat,s,none,0,0,z4.toNat,z5,z6,by rw[s1,s4],by omega,zH hs hm,by omega,by omega⟩
 ·cases h0
  exact⟨z0,z1.toNat,s,some a,len,cap,z4.toNat,z5,z6,by rw[s1,s4],by omega,zH hs hm,by omega,by omega⟩
end
section
open Go.RowKit Go.Shelf
abbrev Grp:=List Nat × List Nat
def yO(c:Grp):List Value := .int .u64 (zC c.1)::(List.range 8).map (fun i => .int .u32 ((c.2.getD i 0:Nat):Int))
theorem qW(c:Grp):(yO c).length=9:=by simp[yO]
theorem zjn(c:Grp){j:Nat}(hj:j<8):(yO c)[j+1]? = some (.int .u32 ((c.2.getD j 0:Nat):Int)):=by
 unfold yO;rw[YE,yw,qt hj]
 rfl
structure xY(c:Grp):Prop where
 ctl:j4 c.1
 len:c.2.length=8
 lt : ∀ s∈c.2,s≤4294967295
theorem xY.slot{c:Grp}(h:xY c)(j:Nat):c.2.getD j 0≤4294967295:=by
 rw[vS]
 cases hi:c.2[j]? with
 | none=>simp
 | some s=>exact h.lt s (yd hi)
def zE(Gs:List Grp):Nat:=(Gs.map (fun c=>c.1.countP (· < 128))).sum
def ye(Gs:List Grp):Nat:=(Gs.map (fun c=>c.1.countP (· == 254))).sum
structure xB(Gs:List Grp):Prop where
 pow:Pow Gs.length
 grp : ∀ c∈Gs,xY c
def zq(Gs:List Grp)(i:Nat):Grp:=Gs.getD i ([],[])
theorem uf{Gs:List Grp}{i:Nat}(h:i<Gs.length):Gs[i]? = some (zq Gs i):=by
 unfold zq;rw[vS,zN h];rfl
theorem xB.at{Gs:List Grp}(h:xB Gs){i:Nat}(hi:i<Gs.length):xY (zq Gs i):=h.grp _ (yd (uf hi))
structure yf(w:World)(D:Nat→Prop)(p:Nat)(sv:Value)(Gs:List Grp):Prop where
 box:w.heap[p]? = some (.cells #[sv,.int .i64 (zE Gs),.int .i64 (ye Gs)] 325 (0,0))
 row:w.ownsRow 0 348 9 sv Gs.length (Gs.flatMap yO)
 dd : ∀ k,D k↔k=p∨sv.ownBlock=some k
 ok:xB Gs
theorem yf.mod{w w':World}{D S:Nat→Prop}{p:Nat}{sv:Value}{Gs:List Grp}(h:yf w D p sv Gs)(hm:Mod S w w')(hS : ∀ k,D k → ¬ S k):yf w' D p sv Gs :=
 ⟨hm.heap (hS p ((h.dd p).2 (.inl rfl))) h.box,zy h.row hm (fun g hg=>hS g ((h.dd g).2 (.inr hg))),h.dd,h.ok⟩
theorem yf.pure{w w':World}{D:Nat→Prop}{p:Nat}{sv:Value}{Gs:List Grp}(h:yf w D p sv Gs)(hm:zb w w'):yf w' D p sv Gs:=h.mod hm (fun _ _ h=>h)
theorem yf.quiet{N:Nat}{w w':World}{D:Nat→Prop}{p:Nat}{sv:Value}{Gs:List Grp}(h:yf w D p sv Gs)(hq:zx N w w'):yf w' D p sv Gs :=
 ⟨hq.cells h.box,hq.owns h.row,h.dd,h.ok⟩
theorem yf.at{w:World}{D:Nat→Prop}{p:Nat}{sv:Value}{Gs:List Grp}(h:yf w D p sv Gs) :
  ∃ B c,sv=.slice (some ⟨B,0,none⟩) Gs.length c∧Gs.length≤c∧B<w.heap.size∧D B∧(∀ j,w.frozen? ⟨B,j,none⟩=false) ∧
   ∀ i,i<Gs.length→w.cell? ⟨B,i*9,none⟩=some (.int .u64 (zC (zq Gs i).1)) ∧ ∀ j,j<8→w.cell? ⟨B,i*9+(j+1),none⟩=some (.int .u32 (((zq Gs i).2.getD j 0:Nat):Int)):=by
 obtain⟨B,c,rfl,hc,hB,hcells,hf,_⟩:=kt h.row h.ok.pow.pos;refine⟨B,c,rfl,hc,hB,(h.dd B).2 (.inr rfl),hf,fun i hi=>⟨?_,fun j hj => ?_⟩⟩
 ·have:=uX yO 9 qW 0 (by omega) Gs i;rw[uf hi]at this;exact hcells _ _ this
 ·have:=uX yO 9 qW (j+1) (by omega) Gs i;rw[uf hi]at this;exact hcells _ _ (this.trans (zjn _ hj))
def ja(c:Grp)(tag:Nat):List Nat:=vJ (zM (c.1.map (· == tag)))
def vV(c:Grp):Bool:=c.1.any (· == 128)
def kP(Gs:List Grp)(tag:Nat):List Nat→List (Nat × Nat)
 | []=>[]
 | i::r=>(ja (zq Gs i) tag).map (fun j=>(i,j))++if vV (zq Gs i)then[]else kP Gs tag r
def xG(Gs:List Grp)(sum:Nat):List (Nat × Nat):=kP Gs (sum%128) (xV (sum/128) Gs.length)
def zT(Gs:List Grp)(x:Nat × Nat):Nat:=(zq Gs x.1).2.getD x.2 0
def kg(f:List Nat→Nat→Bool)(xs:List Nat):Prop := ∀ a b c,xs=a++b::c→f a b=false
theorem zfP(f:List Nat→Nat→Bool):kg f []:=fun a b c h=>by simp at h
theorem zeW{f:List Nat→Nat→Bool}{xs:List Nat}{x:Nat}(h:kg f xs)(hx:f xs x=false):kg f (xs++[x]):=by
 intro a b c e;rcases List.eq_nil_or_concat c with rfl | ⟨c',y,rfl⟩
 ·have:xs=a∧x=b:=by
   have:=List.append_inj' e rfl;exact⟨this.1,by simpa using this.2⟩
  rw[← this.1,← this.2];exact hx
 ·have:xs++[x]=(a++b::c')++[y]:=by rw[e];simp
  have:=(List.append_inj' this rfl).1;exact h a b c' this
theorem VL{Gs:List Grp}{tag:Nat} : ∀(pre:List Nat) (i:Nat) (post:List Nat),(∀ k∈pre,vV (zq Gs k)=false) →
  kP Gs tag (pre++i::post)=pre.flatMap (fun i=>(ja (zq Gs i) tag).map (fun j=>(i,j)))++((ja (zq Gs i) tag).map (fun j=>(i,j))++if vV (zq Gs i)then[]else kP Gs tag post)
 | [],i,post,_=>rfl
 | k::pre,i,post,h=>by
  have hk:=h k (by simp);simp only[List.cons_append,kP,hk,List.flatMap_cons];rw[VL pre i post (fun k' h'=>h k' (by simp[h']))];simp
theorem zaf{Gs:List Grp}{tag:Nat} : ∀(pre:List Nat),(∀ k∈pre,vV (zq Gs k)=false) →
  kP Gs tag pre=pre.flatMap (fun i=>(ja (zq Gs i) tag).map (fun j=>(i,j)))
 | [],_=>rfl
 | k::pre,h=>by
  have hk:=h k (by simp);simp only[kP,hk,List.flatMap_cons];rw[zaf pre (fun k' h'=>h k' (by simp[h']))];simp
end
end Go.Proofs.YtpplkcnknabofaaGreatDoor
