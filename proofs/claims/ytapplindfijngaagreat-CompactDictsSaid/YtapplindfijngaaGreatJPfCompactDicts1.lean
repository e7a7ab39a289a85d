/- Lemmas and contracts of functions, strung together out of 11 texts. No condition. -/
import Derived.WalkKit
import Derived.WalkSpells
import Derived.WalkLawsBesides
import Derived.Outline
import Derived.Lib.Hide
import Derived.Deep.AppendLies
import Derived.Deep.AppendSrc
import Derived.Deep.RegionHeld3
import Derived.BigQuiet
import Derived.Deep.DeepCutAuto
import Derived.Deep.RegionLaw
import Derived.Deep.QuietTactic
import Derived.Test.YtapplindfijngaaGreatProg
import Derived.ProofKit
import Derived.OpenShut
import Derived.Below
import Derived.ChangeSame
import Derived.Carry
import Derived.ChangeSlices
import Derived.Handy
import Derived.RangeFuncNested
import Derived.RangeFuncBound
import Derived.RangeFuncCalls
import Derived.RangeFuncLeaves
import Derived.Shelf.Abstract
import Derived.Shelf.RegionOpen
import Derived.OwnWalkIn
import Derived.TacticsInMore
import Derived.LoopNIn
import Derived.LoopIn
/- Which blocks a step may have turned (Mod), slices that are read (ReadAt), owned rows, the append law for what is read. -/
namespace Go.Proofs.YtapplindfijngaaGreat
open Go.RowKit

/-! ## Which blocks a step may have turned -/

/-- Of the blocks that were there, only those in S may have turned; nothing is gone. -/
structure Mod (S : Nat → Prop) (w w' : World) : Prop where
  os : w'.os = w.os
  tape : w'.tape = w.tape
  output : w'.output = w.output
  size : w.heap.size ≤ w'.heap.size
  block : ∀ k, k < w.heap.size → ¬ S k → w'.heap[k]? = w.heap[k]?

/-- Nothing that was there has turned. -/
abbrev Pure (w w' : World) : Prop := Mod (fun _ => False) w w'

theorem Mod.refl (S : Nat → Prop) (w : World) : Mod S w w := ⟨rfl, rfl, rfl, Nat.le_refl _, fun _ _ _ => rfl⟩
theorem Mod.mono {S S' : Nat → Prop} {w w' : World} (h : Mod S w w') (hs : ∀ k, k < w.heap.size → S k → S' k) : Mod S' w w' :=
  ⟨h.os, h.tape, h.output, h.size, fun k hk hn => h.block k hk (fun hx => hn (hs k hk hx))⟩
theorem Mod.trans' {S T U : Nat → Prop} {a b c : World} (h : Mod S a b) (k : Mod T b c) (hs : ∀ i, i < a.heap.size → S i → U i) (ht : ∀ i, i < a.heap.size → T i → U i) : Mod U a c :=
  ⟨k.os.trans h.os, k.tape.trans h.tape, k.output.trans h.output, Nat.le_trans h.size k.size, fun i hi hn =>
    (k.block i (Nat.lt_of_lt_of_le hi h.size) (fun hx => hn (ht i hi hx))).trans (h.block i hi (fun hx => hn (hs i hi hx)))⟩
theorem Mod.trans {S : Nat → Prop} {a b c : World} (h : Mod S a b) (k : Mod S b c) : Mod S a c := h.trans' k (fun _ _ h => h) (fun _ _ h => h)
theorem Mod.of_pure {S : Nat → Prop} {w w' : World} (h : Pure w w') : Mod S w w' := h.mono (fun _ _ h => h.elim)
theorem Mod.of_grown {S : Nat → Prop} {w w' : World} {row : Option Nat} (h : w.grownBy w' row) (hs : ∀ k, row = some k → k < w.heap.size → S k) : Mod S w w' :=
  ⟨h.os, h.tape, h.output, h.size, fun k hk hn => h.block k hk (fun e => hn (hs k e.symm hk))⟩
theorem Mod.of_below {S : Nat → Prop} {w w' : World} (h : Below w.heap.size w w') : Mod S w w' := ⟨h.os, h.tape, h.output, h.size, fun k hk _ => h.block k hk⟩
theorem Mod.below {S : Nat → Prop} {w w' : World} (h : Mod S w w') (hs : ∀ k, k < w.heap.size → ¬ S k) : Below w.heap.size w w' := ⟨h.os, h.tape, h.output, h.size, fun k hk => h.block k hk (hs k hk)⟩
theorem Mod.alloc {S : Nat → Prop} {a w : World} (h : Mod S a w) (o : Obj) : Mod S a (w.alloc o) :=
  ⟨h.os, h.tape, h.output, Nat.le_trans h.size (by simp), fun k hk hn => (Below.heap_alloc w o k (Nat.lt_of_lt_of_le hk h.size)).trans (h.block k hk hn)⟩
theorem Mod.drew {S : Nat → Prop} {a w : World} (h : Mod S a w) : Mod S a w.drew := ⟨h.os, h.tape, h.output, h.size, h.block⟩
theorem Mod.of_drew {S : Nat → Prop} {w w' : World} (h : Mod S w.drew w') : Mod S w w' := ⟨h.os, h.tape, h.output, h.size, h.block⟩
theorem Mod.drewN {S : Nat → Prop} {a w : World} (h : Mod S a w) (n : Nat) : Mod S a (w.drewN n) := ⟨h.os, h.tape, h.output, h.size, h.block⟩
theorem Mod.setCell {S : Nat → Prop} {a w : World} (h : Mod S a w) {p : Addr} (hp : p.block < a.heap.size → S p.block) (u : Value) : Mod S a (w.setCell p u) :=
  ⟨h.os, h.tape, h.output, by simpa [World.setCell] using h.size, fun k hk hn => (Below.heap_setCell w p u k (fun e => by subst e; exact hn (hp hk))).trans (h.block k hk hn)⟩

theorem Mod.then {S T : Nat → Prop} {a b c : World} (h : Mod S a b) (k : Mod T b c) (ht : ∀ i, i < a.heap.size → T i → S i) : Mod S a c := h.trans' k (fun _ _ h => h) ht
/-- Behind a call that turned nothing: all cells and marks read as before (two rules for the walk). -/
theorem Mod.cells {W w1 : World} (h : Pure W w1) : (∀ b o, b < W.heap.size → w1.cell? ⟨b, o, none⟩ = W.cell? ⟨b, o, none⟩) ∧ (∀ b o, b < W.heap.size → w1.frozen? ⟨b, o, none⟩ = W.frozen? ⟨b, o, none⟩) :=
  ⟨fun b o hb => World.cell?_of_block (w := W) (a := ⟨b, o, none⟩) (h.block b hb (fun h => h)), fun b o hb => World.frozen?_of_block (w := W) (a := ⟨b, o, none⟩) (h.block b hb (fun h => h))⟩
theorem Mod.cell {S : Nat → Prop} {w w' : World} (h : Mod S w w') {a : Addr} {v : Value} (hn : ¬ S a.block) (hc : w.cell? a = some v) : w'.cell? a = some v :=
  (World.cell?_of_block (w := w) (h.block a.block (World.block_lt_of_cell? w a hc) hn)).trans hc
theorem Mod.heap {S : Nat → Prop} {w w' : World} (h : Mod S w w') {k : Nat} {o : Obj} (hn : ¬ S k) (hc : w.heap[k]? = some o) : w'.heap[k]? = some o :=
  (h.block k (lt_of_block hc) hn).trans hc
theorem Mod.lt {S : Nat → Prop} {w w' : World} (h : Mod S w w') {k : Nat} (hk : k < w.heap.size) : k < w'.heap.size := Nat.lt_of_lt_of_le hk h.size

/-- The block that was just made, under whatever name of its number; an elder one. -/
theorem heap_new {w : World} {o : Obj} {n : Nat} (hn : n = w.heap.size) : (w.alloc o).heap[n]? = some o := by subst hn; exact heap_alloc_new w o
theorem heap_keep {w : World} {o x : Obj} {n : Nat} (h : w.heap[n]? = some x) : (w.alloc o).heap[n]? = some x := by
  rw [Below.heap_alloc w o n (lt_of_block h)]; exact h
theorem heap_set_other {w : World} {a : Addr} {v : Value} {x : Obj} {n : Nat} (h : w.heap[n]? = some x) (hn : n ≠ a.block) : (w.setCell a v).heap[n]? = some x := by
  rw [heap_setCell_other w a n v hn]; exact h

/-- A block of one's own behind a step that has not turned it. -/
theorem Mod.box {S : Nat → Prop} {W w1 : World} (h : Mod S W w1) {b : Nat} {cs : Array Value} {T : TypeId} (hb : W.heap[b]? = some (.cells cs T (0, 0))) (hn : ¬ S b) :
    (∀ i, w1.cell? ⟨b, i, none⟩ = cs[i]?) ∧ (∀ i, w1.frozen? ⟨b, i, none⟩ = false) := by
  have := h.heap hn hb
  exact ⟨fun i => cell_of_row w1 b i cs T (0, 0) this, fun i => frozen_of_row w1 b i cs T this⟩

theorem w64_nat (n : Nat) (h : n ≤ 9223372036854775807) : wrap64 (n : Int) = n := IntWalk.wrap64_in _ (by omega)
theorem u32_nat (n : Nat) (h : n ≤ 4294967295) : wrap64 (n : Int) % 4294967296 = n := by rw [w64_nat n (by omega)]; omega

/-! ## Slices that are read -/

/-- The slice value v reads, element by element (k cells each), as the cells xs. -/
def ReadAt (w : World) (v : Value) (k : Nat) (xs : List Value) : Prop :=
  ∃ (a : Option Addr) (n c : Nat), v = .slice a n c ∧ xs.length = n * k ∧ (∀ u ∈ xs, u.oneCell' = true) ∧ (a = none → n = 0) ∧ ∀ ad, a = some ad → ∀ j u, xs[j]? = some u → w.cell? (ad.add j) = some u

theorem ReadAt.nil (w : World) (k : Nat) : ReadAt w (.slice none 0 0) k [] := ⟨none, 0, 0, rfl, by simp, by simp, fun _ => rfl, fun _ h => by cases h⟩

/-- The block that a slice value reads from (none if it reads nothing). -/
def rdBlock : Value → Option Nat
  | .slice (some a) n _ => if n = 0 then none else some a.block
  | _ => none
theorem rdBlock_own {v : Value} {g : Nat} (h : rdBlock v = some g) : v.ownBlock = some g := by
  unfold rdBlock at h
  split at h
  · split at h
    · cases h
    · exact h
  · cases h
theorem addr_block (ad : Addr) (j : Nat) : (ad.add j).block = ad.block := by unfold Addr.add; split <;> rfl
theorem ReadAt.frame {w w' : World} {v : Value} {k : Nat} {xs : List Value} {S : Nat → Prop} (h : ReadAt w v k xs) (hm : Mod S w w') (hn : ∀ g, rdBlock v = some g → ¬ S g) : ReadAt w' v k xs := by
  obtain ⟨a, n, c, rfl, hl, h1, h0, hc⟩ := h
  refine ⟨a, n, c, rfl, hl, h1, h0, fun ad ha j u hu => ?_⟩
  refine hm.cell ?_ (hc ad ha j u hu)
  rw [addr_block]
  refine hn ad.block ?_
  subst ha
  have : n ≠ 0 := by
    rintro rfl
    have : xs = [] := List.eq_nil_of_length_eq_zero (by simpa using hl)
    subst this
    cases hu
  simp [rdBlock, this]
theorem ReadAt.lt {w : World} {v : Value} {k : Nat} {xs : List Value} (h : ReadAt w v k xs) (hk : 0 < k) {g : Nat} (hg : rdBlock v = some g) : g < w.heap.size := by
  obtain ⟨a, n, c, rfl, hl, h1, h0, hc⟩ := h
  cases a with
  | none => cases hg
  | some ad =>
    simp only [rdBlock] at hg
    split at hg
    · cases hg
    · cases hg
      have hp : 0 < xs.length := by rw [hl]; exact Nat.mul_pos (by omega) hk
      have := World.block_lt_of_cell? w _ (hc ad rfl 0 _ (List.getElem?_eq_getElem hp))
      rwa [addr_block] at this

theorem ReadAt.of_owns {w : World} {e : TypeId} {k : Nat} {v : Value} {n : Nat} {xs : List Value} (h : w.ownsRow 0 e k v n xs) (h1 : ∀ u ∈ xs, u.oneCell' = true) : ReadAt w v k xs := by
  obtain ⟨hl, hv⟩ := h
  rcases hv with ⟨rfl, rfl⟩ | ⟨g, cap, cur, rfl, hb, hg, hnc, hcm, hcs, ht⟩
  · have : xs = [] := List.eq_nil_of_length_eq_zero (by simpa using hl)
    subst this
    exact ReadAt.nil w k
  · have hown : w.ownsRow 0 e k (.slice (some ⟨g, 0, none⟩) n cap) n xs := ⟨hl, .inr ⟨g, cap, cur, rfl, hb, hg, hnc, hcm, hcs, ht⟩⟩
    exact ⟨some ⟨g, 0, none⟩, n, cap, rfl, hl, h1, (fun h => by cases h), fun ad ha j u hu => by cases ha; exact hown.cells rfl j u hu⟩

/-- The cells of a flat row. -/
theorem flat_get {α β : Type} (f : α → List β) (k : Nat) (hf : ∀ a, (f a).length = k) (j : Nat) (hj : j < k) : ∀ (M : List α) (i : Nat), (M.flatMap f)[i * k + j]? = (M[i]?).bind fun m => (f m)[j]?
  | [], i => by simp
  | a :: M, 0 => by
    simp only [List.flatMap_cons, Nat.zero_mul, Nat.zero_add, List.getElem?_cons_zero, Option.bind_some]
    rw [List.getElem?_append_left (by rw [hf]; exact hj)]
  | a :: M, i + 1 => by
    have e : (i + 1) * k + j = (f a).length + (i * k + j) := by rw [hf, Nat.add_mul]; omega
    simp only [List.flatMap_cons, List.getElem?_cons_succ]
    rw [e, List.getElem?_append_right (Nat.le_add_right _ _), Nat.add_sub_cancel_left]
    exact flat_get f k hf j hj M i
theorem flat_length {α β : Type} (f : α → List β) (k : Nat) (hf : ∀ a, (f a).length = k) : ∀ (M : List α), (M.flatMap f).length = M.length * k
  | [] => by simp
  | a :: M => by simp only [List.flatMap_cons, List.length_append, hf, flat_length f k hf M, List.length_cons, Nat.add_mul]; omega

/-- The address of an owned row, its cells. -/
theorem owns_form {w : World} {T k : Nat} {v : Value} {n : Nat} {xs : List Value} (h : w.ownsRow 0 T k v n xs) : ∃ a c, v = .slice a n c ∧ n ≤ c := by
  rcases h.2 with ⟨rfl, rfl⟩ | ⟨g, cap, cur, rfl, _, _, hnc, _⟩
  · exact ⟨none, 0, rfl, Nat.le_refl _⟩
  · exact ⟨_, _, rfl, hnc⟩
theorem owns_at {w : World} {T k : Nat} {v : Value} {n : Nat} {xs : List Value} (h : w.ownsRow 0 T k v n xs) (hn : 0 < n) :
    ∃ g c, v = .slice (some ⟨g, 0, none⟩) n c ∧ n ≤ c ∧ g < w.heap.size ∧ (∀ j u, xs[j]? = some u → w.cell? ⟨g, j, none⟩ = some u) ∧ (∀ j, w.frozen? ⟨g, j, none⟩ = false) ∧ ∃ cur, w.heap[g]? = some (.cells cur T (0, 0)) ∧ cur.size = c * k ∧ cur.toList.take (n * k) = xs ∧ c ≤ maxLen := by
  obtain ⟨hl, hv⟩ := h
  rcases hv with ⟨_, h0⟩ | ⟨g, cap, cur, rfl, hb, hg, hnc, hm, hcs, ht⟩
  · omega
  · refine ⟨g, cap, rfl, hnc, lt_of_block hg, fun j u hu => ?_, fun j => frozen_of_row w g j cur T hg, cur, hg, hcs, ht, hm⟩
    rw [cell_of_row w g j cur T (0, 0) hg]
    rw [← ht, List.getElem?_take] at hu
    split at hu
    · simpa using hu
    · cases hu

theorem owns_heap {w w' : World} {T k : Nat} {v : Value} {n : Nat} {xs : List Value} (h : w.ownsRow 0 T k v n xs) (hn : ∀ g, v.ownBlock = some g → g < w.heap.size → w'.heap[g]? = w.heap[g]?) : w'.ownsRow 0 T k v n xs := by
  refine ⟨h.1, ?_⟩
  rcases h.2 with h2 | ⟨g, cap, cur, rfl, hb, hg, rest⟩
  · exact .inl h2
  · exact .inr ⟨g, cap, cur, rfl, hb, (hn g rfl (lt_of_block hg)).trans hg, rest⟩
theorem owns_mod {w w' : World} {T k : Nat} {v : Value} {n : Nat} {xs : List Value} {S : Nat → Prop} (h : w.ownsRow 0 T k v n xs) (hm : Mod S w w') (hn : ∀ g, v.ownBlock = some g → ¬ S g) : w'.ownsRow 0 T k v n xs := by
  refine ⟨h.1, ?_⟩
  rcases h.2 with h2 | ⟨g, cap, cur, rfl, hb, hg, rest⟩
  · exact .inl h2
  · exact .inr ⟨g, cap, cur, rfl, hb, hm.heap (hn g rfl) hg, rest⟩
/-- The block of an owned row is a block of its elements' type. -/
theorem owns_type {w : World} {T k : Nat} {v : Value} {n : Nat} {xs : List Value} (h : w.ownsRow 0 T k v n xs) {g : Nat} (hg : v.ownBlock = some g) : ∃ cur, w.heap[g]? = some (.cells cur T (0, 0)) := by
  rcases h.2 with ⟨rfl, _⟩ | ⟨g', cap, cur, rfl, _, hb, _⟩
  · cases hg
  · cases hg; exact ⟨cur, hb⟩
theorem owns_lt {w : World} {T k : Nat} {v : Value} {n : Nat} {xs : List Value} (h : w.ownsRow 0 T k v n xs) {g : Nat} (hg : v.ownBlock = some g) : g < w.heap.size := (h.lt g hg).2
/-- Two owned rows of different types lie in different blocks. -/
theorem owns_apart {w : World} {T T' k k' : Nat} {v v' : Value} {n n' : Nat} {xs xs' : List Value} (h : w.ownsRow 0 T k v n xs) (h' : w.ownsRow 0 T' k' v' n' xs') (hT : T ≠ T') {g : Nat} (hg : v.ownBlock = some g) : v'.ownBlock ≠ some g := by
  intro hg'
  obtain ⟨c, e⟩ := owns_type h hg
  obtain ⟨c', e'⟩ := owns_type h' hg'
  rw [e] at e'
  cases e'
  exact hT rfl
theorem owns_len {w : World} {T k : Nat} {v : Value} {n m : Nat} {xs : List Value} (h : w.ownsRow 0 T k v n xs) (hk : 0 < k) (hm : xs.length = m * k) : n = m := Nat.eq_of_mul_eq_mul_right hk (h.1.symm.trans hm)
theorem ReadAt.of_block {w : World} {B : Nat} {cs : Array Value} {T : TypeId} {fr : Nat × Nat} (n c k : Nat) (hb : w.heap[B]? = some (.cells cs T fr)) (hl : cs.toList.length = n * k) (h1 : ∀ u ∈ cs.toList, u.oneCell' = true) :
    ReadAt w (.slice (some ⟨B, 0, none⟩) n c) k cs.toList :=
  ⟨some ⟨B, 0, none⟩, n, c, rfl, hl, h1, (fun h => by cases h), fun ad ha j u hu => by cases ha; exact World.news_of_block hb j u hu⟩

/-- A cell of an owned row is stored into. -/
theorem owns_setCell {w : World} {T k g n c : Nat} {xs : List Value} (h : w.ownsRow 0 T k (.slice (some ⟨g, 0, none⟩) n c) n xs) (j : Nat) (u : Value) (hj : j < n * k) :
    (w.setCell ⟨g, j, none⟩ u).ownsRow 0 T k (.slice (some ⟨g, 0, none⟩) n c) n (xs.set j u) := by
  obtain ⟨hl, hv⟩ := h
  refine ⟨by rw [List.length_set]; exact hl, .inr ?_⟩
  rcases hv with ⟨hv, _⟩ | ⟨g', cap, cur, hv, hb, hg, hnc, hm, hcs, ht⟩
  · cases hv
  · cases hv
    refine ⟨g, c, cur.setIfInBounds j u, rfl, hb, heap_setCell_same w g j cur T u hg, hnc, hm, by rw [Array.size_setIfInBounds]; exact hcs, ?_⟩
    rw [Array.toList_setIfInBounds, List.take_set, ht]

/-- Replacing one row of a flat list, cell by cell. -/
theorem flatten_set (k j : Nat) (hj : j < k) (u : Value) : ∀ (R : List (List Value)) (_ : ∀ r ∈ R, r.length = k) (i : Nat), R.flatten.set (i * k + j) u = (R.modify i (fun r => r.set j u)).flatten
  | [], _, i => by simp
  | r :: R, hR, 0 => by
    simp only [Nat.zero_mul, Nat.zero_add, List.flatten_cons, List.modify_zero_cons]
    rw [List.set_append_left _ _ (by rw [hR r (by simp)]; exact hj)]
  | r :: R, hR, i + 1 => by
    have hr : r.length = k := hR r (by simp)
    simp only [List.flatten_cons, List.modify_succ_cons]
    rw [List.set_append_right _ _ (by rw [hr, Nat.add_mul]; omega)]
    have e : (i + 1) * k + j - r.length = i * k + j := by rw [hr, Nat.add_mul]; omega
    rw [e, flatten_set k j hj u R (fun r h => hR r (by simp [h])) i]
theorem modify_length {R : List (List Value)} {k : Nat} (hR : ∀ r ∈ R, r.length = k) (i j : Nat) (u : Value) : ∀ r ∈ R.modify i (fun r => r.set j u), r.length = k := by
  intro r hr
  obtain ⟨n, hn⟩ := List.mem_iff_getElem?.1 hr
  rw [List.getElem?_modify] at hn
  cases h : R[n]? with
  | none => simp [h] at hn
  | some r0 =>
    have h0 := hR r0 (List.mem_of_getElem? h)
    simp only [h, Option.map_some] at hn
    split at hn <;> (cases hn; simp [h0])
theorem modify_map_set {α : Type} (f : α → List Value) (h : List Value → List Value) (m' : α) : ∀ (M : List α) (i : Nat) (m : α), M[i]? = some m → h (f m) = f m' → (M.map f).modify i h = (M.set i m').map f
  | [], i, m, hi, _ => by simp at hi
  | a :: M, 0, m, hi, hm => by simp at hi; subst hi; simp [hm]
  | a :: M, i + 1, m, hi, hm => by
    have := modify_map_set f h m' M i m (by simpa using hi) hm
    simp only [List.map_cons, List.modify_succ_cons, List.set_cons_succ, this]

/-! ## append -/

section
variable {P : Program} (w : World)

/-- append onto an owned row (nil, empty or not), of whatever is read. -/
theorem run_append_read (t ty e : TypeId) (i : TypeInfo) (z : Value) (k bytes : Nat) (ht : P.underlying t = some (.slice e)) (hi : P.info? e = some i) (hz : i.zero = some z)
    (hsize : i.size = k) (hby : i.bytes = bytes) (hzs : z.cells.size = k) (hsz : 0 < k)
    (v : Value) (n : Nat) (xs : List Value) (hown : w.ownsRow 0 e k v n xs) (x : Value) (ys : List Value) (m : Nat) (hx : ReadAt w x k ys) (hm : ys.length = m * k)
    (h63 : n + m ≤ maxLen) (hbytes : (n + m) * bytes ≤ 140737488355328) :
    ∃ a' c' w', (Builtin.append_ #[t, t] ty #[v, x]).run P w = .ok (.slice a' (n + m) c') w' ∧ w'.ownsRow 0 e k (.slice a' (n + m) c') (n + m) (xs ++ ys) ∧ w.grownBy w' v.ownBlock ∧ ((Value.slice a' (n + m) c').ownBlock = v.ownBlock ∨ (Value.slice a' (n + m) c').ownBlock = some w.heap.size) := by
  suffices hs : ∃ v' w', (Builtin.append_ #[t, t] ty #[v, x]).run P w = .ok v' w' ∧ w'.ownsRow 0 e k v' (n + m) (xs ++ ys) ∧ w.grownBy w' v.ownBlock ∧ (v'.ownBlock = v.ownBlock ∨ v'.ownBlock = some w.heap.size) by
    obtain ⟨v', w', r1, r2, r3, r4⟩ := hs
    obtain ⟨a', c', rfl, _⟩ := owns_form r2
    exact ⟨a', c', w', r1, r2, r3, r4⟩
  obtain ⟨a, m', c, rfl, hl, h1, h0, hc⟩ := hx
  have em : m' = m := Nat.eq_of_mul_eq_mul_right hsz (hl.symm.trans hm)
  subst em
  cases a with
  | some ad =>
    obtain ⟨v', w', r1, r2, r3, _, r5⟩ := run_append_own_at (P := P) w 0 t ty e i z k bytes ht hi hz hsize hby hzs hsz v n xs hown ad m' c ys hl (fun j u hu => hc ad rfl j u hu) h1 h63 hbytes (Nat.zero_le _)
    exact ⟨v', w', r1, r2, r3, r5⟩
  | none =>
    have hm0 := h0 rfl
    subst hm0
    have hy : ys = [] := List.eq_nil_of_length_eq_zero (by simpa using hl)
    subst hy
    refine ⟨v, w, ?_, by simpa using hown, ⟨rfl, rfl, rfl, Nat.le_refl _, fun _ _ _ => rfl⟩, .inl rfl⟩
    rcases hown.2 with ⟨rfl, rfl⟩ | ⟨g, cap, cur, rfl, _, hg, hnc, _⟩
    · simp [Builtin.append_, run_underlying ht, sizeOf, typeInfo, hi, Builtin.lenOf, Builtin.firstCells, loadCells, loadCellsFrom]
    · simp [Builtin.append_, run_underlying ht, sizeOf, typeInfo, hi, Builtin.lenOf, Builtin.firstCells, hnc, storeCells]

theorem wp_append_read {o : Oper} {a : Act} {K : Act → World → Prop} {Q : Exit → Act → World → Prop} (s x : Operand) (t : TypeId)
    (ho : o.op = .call { callee := .builtin .append, args := #[s, x], argTypes := #[t, t] })
    (e : TypeId) (i : TypeInfo) (z : Value) (k bytes : Nat) (ht : P.underlying t = some (.slice e)) (hi : P.info? e = some i) (hz : i.zero = some z)
    (hsize : i.size = k) (hby : i.bytes = bytes) (hzs : z.cells.size = k) (hsz : 0 < k)
    (v : Value) (n : Nat) (xs : List Value) (hs : a.eval s = v) (hown : w.ownsRow 0 e k v n xs) (xv : Value) (ys : List Value) (m : Nat) (hxv : a.eval x = xv) (hx : ReadAt w xv k ys) (hm : ys.length = m * k)
    (h63 : n + m ≤ maxLen) (hbytes : (n + m) * bytes ≤ 140737488355328)
    (h : ∀ a' c' w', w'.ownsRow 0 e k (.slice a' (n + m) c') (n + m) (xs ++ ys) → w.grownBy w' v.ownBlock → ((Value.slice a' (n + m) c').ownBlock = v.ownBlock ∨ (Value.slice a' (n + m) c').ownBlock = some w.heap.size) → K (a.put o.dst (.slice a' (n + m) c')) w') : o.wp P a w K Q := by
  obtain ⟨a', c', w', hr, h2, h3, h4⟩ := run_append_read (P := P) w t o.type e i z k bytes ht hi hz hsize hby hzs hsz v n xs hown xv ys m hx hm h63 hbytes
  unfold Oper.wp execOp
  simp only [ho, resolve, invoke, builtin, Sem.run_bind, Sem.run_pure, Result.andThen_ok, List.map_toArray, List.map_cons, List.map_nil, hs, hxv, hr]
  exact h a' c' w' h2 h3 h4

/-- At a plain region's list. -/
theorem wpList_append_read {ops : Array Oper} {rest : List Oper} {o : Oper} {a : Act} {Q : Exit → Act → World → Prop} (hgd : o.guard = none) (s x : Operand) (t : TypeId)
    (ho : o.op = .call { callee := .builtin .append, args := #[s, x], argTypes := #[t, t] })
    (e : TypeId) (i : TypeInfo) (z : Value) (k bytes : Nat) (ht : P.underlying t = some (.slice e)) (hi : P.info? e = some i) (hz : i.zero = some z)
    (hsize : i.size = k) (hby : i.bytes = bytes) (hzs : z.cells.size = k) (hsz : 0 < k)
    (v : Value) (n : Nat) (xs : List Value) (hs : a.eval s = v) (hown : w.ownsRow 0 e k v n xs) (xv : Value) (ys : List Value) (m : Nat) (hxv : a.eval x = xv) (hx : ReadAt w xv k ys) (hm : ys.length = m * k)
    (h63 : n + m ≤ maxLen) (hbytes : (n + m) * bytes ≤ 140737488355328)
    (h : ∀ a' c' w', w'.ownsRow 0 e k (.slice a' (n + m) c') (n + m) (xs ++ ys) → w.grownBy w' v.ownBlock → ((Value.slice a' (n + m) c').ownBlock = v.ownBlock ∨ (Value.slice a' (n + m) c').ownBlock = some w.heap.size) → wpList P ops Q rest (a.put o.dst (.slice a' (n + m) c')) w') : wpList P ops Q (o :: rest) a w :=
  wpList_plain hgd fun _ hK => wp_append_read w s x t ho e i z k bytes ht hi hz hsize hby hzs hsz v n xs hs hown xv ys m hxv hx hm h63 hbytes fun a' c' w' h2 h3 h4 => hK _ _ (h a' c' w' h2 h3 h4)

/-- At a step of a region that draws its order. -/
theorem step_append_read {ops : Array Oper} {o : Oper} {a : Act} {K : Act → World → Prop} {Q : Exit → Act → World → Prop} {E : Prop} (hgd : o.guard = none) (s x : Operand) (t : TypeId)
    (ho : o.op = .call { callee := .builtin .append, args := #[s, x], argTypes := #[t, t] })
    (e : TypeId) (i : TypeInfo) (z : Value) (k bytes : Nat) (ht : P.underlying t = some (.slice e)) (hi : P.info? e = some i) (hz : i.zero = some z)
    (hsize : i.size = k) (hby : i.bytes = bytes) (hzs : z.cells.size = k) (hsz : 0 < k)
    (v : Value) (n : Nat) (xs : List Value) (hs : a.eval s = v) (hown : w.ownsRow 0 e k v n xs) (xv : Value) (ys : List Value) (m : Nat) (hxv : a.eval x = xv) (hx : ReadAt w xv k ys) (hm : ys.length = m * k)
    (h63 : n + m ≤ maxLen) (hbytes : (n + m) * bytes ≤ 140737488355328)
    (h : ∀ a' c' w', w'.ownsRow 0 e k (.slice a' (n + m) c') (n + m) (xs ++ ys) → w.grownBy w' v.ownBlock → ((Value.slice a' (n + m) c').ownBlock = v.ownBlock ∨ (Value.slice a' (n + m) c').ownBlock = some w.heap.size) → K (a.put o.dst (.slice a' (n + m) c')) w') :
    if Region.wanted o (yielded ops a.tmps) = true then Oper.wp P o a w K Q else E := by
  have hw : Region.wanted o (yielded ops a.tmps) = true := by simp [Region.wanted, hgd]
  rw [if_pos hw]
  exact wp_append_read w s x t ho e i z k bytes ht hi hz hsize hby hzs hsz v n xs hs hown xv ys m hxv hx hm h63 hbytes h
end

end Go.Proofs.YtapplindfijngaaGreat

/- A row's last step behind a call that turned nothing that was there. -/
namespace Go.Proofs.YtapplindfijngaaGreat
open Go.ChangeShapes Go.WideShapes Go.ChangeAt Go.RowKit

/-- A row's last step behind a call that turned nothing that was there. -/
theorem post_of_pure {H : Type} {enc : TypeId × Value → H} {P : Program} {f : Func} {s : ChangeSpec} {apart fresh handsOn again : Bool} {W W' : World} {args : Array Value} {v : Value} {ds gs : List (DataW H)} {before pa pv : List MemPlace}
    (hW : DataW.Whole enc P f.params.toList s.vars apart W args.toList ds gs before)
    (hres : ∀ (b : Nat) (sp : Nat → Bool) (hd : Bool), DataW.TrodAll enc P W' b sp hd f.resultTypes.toList (v.resultList f.resultTypes.size) (s.fn H (ds ++ gs)).results [])
    (hargs : ∀ sp : Nat → Bool, (∀ p ∈ before, sp p.block = true) → DataW.TrodAll enc P W' 0 sp true f.params.toList args.toList (s.fn H (ds ++ gs)).args pa)
    (hvars : ∀ sp : Nat → Bool, (∀ p ∈ before, sp p.block = true) → DataW.TrodVars enc P W' sp s.vars (s.fn H (ds ++ gs)).vars pv)
    (hps : before = pa ++ pv) (hm : Pure W W')
    (hok : ∀ (j : Nat) (t : TypeId) (r : Value), f.resultTypes[j]? = some t → (v.resultList f.resultTypes.size)[j]? = some r → Value.okWide P W' .any 0 t r) :
    s.post enc P f apart fresh handsOn again W args v W' := by
  have hb : Below W.heap.size W W' := hm.below (fun _ _ h => h)
  subst hps
  have hlt : ∀ p ∈ pa ++ pv, p.block < W.heap.size := fun p hp => hW.lt p hp
  have hold : ∀ p ∈ pa ++ pv, (fun b => decide (b < W.heap.size)) p.block = true := fun p hp => decide_eq_true (hlt p hp)
  refine ⟨ds, gs, pa ++ pv, [], pa, pv, hW, hres _ _ _, hargs _ hold, hvars _ hold, World.keptBut_mono (fun p hp => ⟨hp, Or.inr (List.mem_append.1 hp)⟩) (hb.frame (· ∈ pa ++ pv)), fun _ => ?_⟩
  obtain ⟨_, _, _, _, _, hz, hn⟩ := hW
  refine ⟨hok, _, _, ([] ++ pa) ++ pv, ⟨[] ++ pa, pv, trodAll_append (hargs _ (fun _ _ => rfl)) (hres _ _ _), hvars _ (fun _ _ => rfl), rfl, fun b off hp => ?_, fun ha => by simpa using hn ha⟩, fun p hp _ => by simpa using hp⟩
  have hin : MemPlace.cell b off ∈ pa ++ pv := by simpa using hp
  rw [hb.frozen (hlt _ hin)]
  exact hz b off hin
theorem ownA : ownKnob Tryz.prog.godebug = none := by kernel_rfl
end Go.Proofs.YtapplindfijngaaGreat

/- A row's last step for a law: it answers true and has turned nothing that was there; slices of integers that came in, as cells that are read. -/
namespace Go.Proofs.YtapplindfijngaaGreat
open Go.ChangeShapes Go.WideShapes Go.ChangeAt Go.RowKit

theorem laidA : laidOutB Tryz.prog = true := by kernel_rfl
theorem trodAll_stays {H : Type} {enc : TypeId × Value → H} {P : Program} {W W' : World} {sp : Nat → Bool} (hl : laidOutB P = true) : ∀ (ts : List TypeId) (vs : List Value) (ds : List (DataW H)) (ps : List MemPlace),
    (ts.all fun t => P.readableRec t && decide (t < P.types.size)) = true → DataW.TrodAll enc P W 0 (fun _ => true) true ts vs ds ps → (∀ x ∈ ps, W.sameAt W' x) → (∀ x ∈ ps, sp x.block = true) → DataW.TrodAll enc P W' 0 sp true ts vs ds ps
  | [], [], [], ps, _, h, _, _ => h
  | t :: ts, v :: vs, d :: ds, ps, ht, h, hs, hp => by
    obtain ⟨p, q, h1, h2, rfl⟩ := h
    simp only [List.all_cons, Bool.and_eq_true, decide_eq_true_eq] at ht
    exact ⟨p, q, WideElems.Trod_stays hl ht.1.1 ht.1.2 h1 (fun x hx => hs x (List.mem_append_left _ hx)) (fun x hx => hp x (List.mem_append_left _ hx)),
      trodAll_stays hl ts vs ds q ht.2 h2 (fun x hx => hs x (List.mem_append_right _ hx)) (fun x hx => hp x (List.mem_append_right _ hx)), rfl⟩
  | [], _ :: _, _, _, _, h, _, _ => h.elim
  | [], [], _ :: _, _, _, h, _, _ => h.elim
  | _ :: _, [], _, _, _, h, _, _ => h.elim
  | _ :: _, _ :: _, [], _, _, h, _, _ => h.elim

/-- THE LAST STEP: the law has answered true, nothing that was there has turned. -/
theorem post_of_law {H : Type} {enc : TypeId × Value → H} {P : Program} {f : Func} {s : ChangeSpec} {fresh handsOn again : Bool} {W W' : World} {args : Array Value} {ds gs : List (DataW H)} {before : List MemPlace} {tb : TypeId}
    (hl : laidOutB P = true) (hts : (f.params.toList.all fun t => P.readableRec t && decide (t < P.types.size)) = true) (hv : s.vars = []) (hrt : f.resultTypes = #[tb]) (htb : P.underlying tb = some .bool)
    (hW : DataW.Whole enc P f.params.toList s.vars false W args.toList ds gs before) (hspec : s.fn H (ds ++ []) = { results := [.lit (.bool true)], args := ds }) (hm : Pure W W') :
    s.post enc P f false fresh handsOn again W args (.bool true) W' := by
  have hW' := hW
  obtain ⟨p, q, hA, hV, rfl, hfz, hnd⟩ := hW
  have hb : Below W.heap.size W W' := hm.below (fun _ _ h => h)
  rw [hv] at hV
  obtain ⟨rfl, rfl⟩ := trodVars_none hV
  have hlt : ∀ x ∈ p, x.block < W.heap.size := fun x hx => hW'.lt x (List.mem_append_left _ hx)
  refine post_of_pure (pa := p) (pv := []) hW' ?_ ?_ ?_ rfl hm ?_
  · intro b sp hd
    rw [hspec, hrt]
    exact trodAll_cons_mk (shut_bool htb _) trodAll_mk0
  · intro sp hsp
    rw [hspec]
    exact trodAll_stays hl _ _ _ _ hts hA (fun x hx => hb.same (hlt x hx)) (fun x hx => hsp x (List.mem_append_left _ hx))
  · intro sp _
    rw [hv, hspec]
    rfl
  · exact ok_one hrt rfl (okWide_bool_mk htb _)

/-- A slice of integers that came in. -/
theorem open_ints_read {H : Type} {enc : TypeId × Value → H} {P : Program} {W : World} {base : Nat} {sp : Nat → Bool} {held : Bool} {r : Reach} {b0 : Nat} {t e : TypeId} {k : IntKind} {v : Value} {d : DataW H} {p : List MemPlace}
    (ht : P.underlying t = some (.slice e)) (he : P.underlying e = some (.int k)) (hc : P.cellsOf e = 1) (hv : Value.okWide P W r b0 t v) (h : DataW.Trod enc P W base sp held t v d p) :
    ∃ (a : Option Addr) (n c : Nat) (zs : List Int), v = .slice a n c ∧ n ≤ c ∧ c ≤ maxLen ∧ zs.length = n ∧ ReadAt W (.slice a n c) 1 (zs.map (Value.int k)) ∧ (∀ z ∈ zs, (Lit.int k z).wf = true) := by
  obtain ⟨a0, n0, c0, rfl⟩ := okWide_slice ht hv
  obtain ⟨fuel, hf⟩ := h
  rcases open_ints ht he hc hf with ⟨hcs, _⟩ | ⟨a, n, c, zs, hcs, _, hl, hm, hz, _, hcell, hw⟩
  · simp [Value.cells] at hcs
    obtain ⟨rfl, rfl, rfl⟩ := hcs
    exact ⟨none, 0, 0, [], rfl, Nat.le_refl _, Nat.zero_le _, rfl, ReadAt.nil _ _, by simp⟩
  · simp [Value.cells] at hcs
    obtain ⟨rfl, rfl, rfl⟩ := hcs
    have hlz : n0 ≤ zs.length := by rw [hz]; split <;> omega
    refine ⟨some a, n0, c0, zs.take n0, rfl, hl, hm, by rw [List.length_take]; omega, ⟨some a, n0, c0, rfl, by simp; omega, ?_, (fun h => by cases h), ?_⟩, fun z hz => hw z (List.mem_of_mem_take hz)⟩
    · intro u hu
      obtain ⟨_, _, rfl⟩ := List.mem_map.1 hu
      rfl
    · intro ad ha j u hu
      cases ha
      rw [List.getElem?_map] at hu
      cases e : (zs.take n0)[j]? with
      | none => rw [e] at hu; cases hu
      | some z =>
        rw [e] at hu
        cases hu
        rw [List.getElem?_take] at e
        split at e
        · rename_i hj
          rw [hcell j (by omega)]
          simp [List.getD, e]
        · cases e
/-- .. of a kind without a sign, as natural numbers. -/
theorem open_u32s {H : Type} {enc : TypeId × Value → H} {P : Program} {W : World} {base : Nat} {sp : Nat → Bool} {held : Bool} {r : Reach} {b0 : Nat} {t e : TypeId} {v : Value} {d : DataW H} {p : List MemPlace}
    (ht : P.underlying t = some (.slice e)) (he : P.underlying e = some (.int .u32)) (hc : P.cellsOf e = 1) (hv : Value.okWide P W r b0 t v) (h : DataW.Trod enc P W base sp held t v d p) :
    ∃ (a : Option Addr) (c : Nat) (gs : List Nat), v = .slice a gs.length c ∧ gs.length ≤ 9223372036854775807 ∧ ReadAt W (.slice a gs.length c) 1 (gs.map (fun x : Nat => (.int .u32 x : Value))) ∧ (∀ z ∈ gs, z ≤ 4294967295) := by
  obtain ⟨a, n, c, zs, rfl, h1, h2, rfl, h3, h4⟩ := open_ints_read ht he hc hv h
  have hw : ∀ z ∈ zs, 0 ≤ z ∧ z ≤ 4294967295 := fun z hz => by
    have := h4 z hz
    simp [Lit.wf, IntKind.min, IntKind.max, IntKind.signed, IntKind.bits] at this
    omega
  have e : (zs.map Int.toNat).map (fun x : Nat => (.int .u32 x : Value)) = zs.map (Value.int .u32) := by
    rw [List.map_map]
    refine List.map_congr_left (fun z hz => ?_)
    have := hw z hz
    simp only [Function.comp]
    rw [Int.toNat_of_nonneg this.1]
  have hlen : (zs.map Int.toNat).length = zs.length := by simp
  refine ⟨a, c, zs.map Int.toNat, by rw [hlen], by rw [hlen]; unfold maxLen at h2; omega, by rw [e, hlen]; exact h3, fun z hz => ?_⟩
  obtain ⟨y, hy, rfl⟩ := List.mem_map.1 hz
  have := hw y hy
  omega
end Go.Proofs.YtapplindfijngaaGreat

/- Words of eight lanes, lane by lane, in plain numbers. No program. -/
namespace Go.Proofs.YtapplindfijngaaGreat
open Go.RowKit
set_option maxRecDepth 100000

/-- The word with these lanes, the lowest first. -/
def word8 : List Nat → Nat
  | [] => 0
  | b :: l => 256 * word8 l + b
/-- The set of the lanes for which the list says true. -/
def mask : List Bool → Nat
  | [] => 0
  | b :: l => 2 * mask l + b.toNat

def Bytes8 (l : List Nat) : Prop := l.length = 8 ∧ ∀ c ∈ l, c < 256

theorem op_split (f : Nat → Nat → Nat) (g : Bool → Bool → Bool) (hf : ∀ a b i, (f a b).testBit i = g (a.testBit i) (b.testBit i)) (hlt : ∀ a b, a < 2 ^ 8 → b < 2 ^ 8 → f a b < 2 ^ 8) (a b x y : Nat) (ha : a < 256) (hb : b < 256) :
    f (256 * x + a) (256 * y + b) = 256 * f x y + f a b := by
  apply Nat.eq_of_testBit_eq
  intro i
  have e : (256 : Nat) = 2 ^ 8 := rfl
  rw [hf, e, Nat.testBit_two_pow_mul_add x ha i, Nat.testBit_two_pow_mul_add y hb i, Nat.testBit_two_pow_mul_add (f x y) (hlt a b ha hb) i]
  split <;> rw [hf]
theorem word8_op (f : Nat → Nat → Nat) (g : Bool → Bool → Bool) (h00 : f 0 0 = 0) (hf : ∀ a b i, (f a b).testBit i = g (a.testBit i) (b.testBit i)) (hlt : ∀ a b, a < 2 ^ 8 → b < 2 ^ 8 → f a b < 2 ^ 8) (s t : Nat → Nat) :
    ∀ l : List Nat, (∀ c ∈ l, s c < 256) → (∀ c ∈ l, t c < 256) → f (word8 (l.map s)) (word8 (l.map t)) = word8 (l.map (fun c => f (s c) (t c)))
  | [], _, _ => h00
  | c :: l, hs, ht => by
    simp only [List.map_cons, word8]
    rw [op_split f g hf hlt _ _ _ _ (hs c (by simp)) (ht c (by simp)), word8_op f g h00 hf hlt s t l (fun c h => hs c (by simp [h])) (fun c h => ht c (by simp [h]))]
theorem word8_xor (s t : Nat → Nat) (l : List Nat) (hs : ∀ c ∈ l, s c < 256) (ht : ∀ c ∈ l, t c < 256) : word8 (l.map s) ^^^ word8 (l.map t) = word8 (l.map (fun c => s c ^^^ t c)) :=
  word8_op (· ^^^ ·) Bool.xor rfl Nat.testBit_xor (fun _ _ => Nat.xor_lt_two_pow) s t l hs ht
theorem word8_and (s t : Nat → Nat) (l : List Nat) (hs : ∀ c ∈ l, s c < 256) (ht : ∀ c ∈ l, t c < 256) : word8 (l.map s) &&& word8 (l.map t) = word8 (l.map (fun c => s c &&& t c)) :=
  word8_op (· &&& ·) and rfl Nat.testBit_and (fun a b ha _ => Nat.lt_of_le_of_lt Nat.and_le_left ha) s t l hs ht
theorem word8_or (s t : Nat → Nat) (l : List Nat) (hs : ∀ c ∈ l, s c < 256) (ht : ∀ c ∈ l, t c < 256) : word8 (l.map s) ||| word8 (l.map t) = word8 (l.map (fun c => s c ||| t c)) :=
  word8_op (· ||| ·) or rfl Nat.testBit_or (fun _ _ => Nat.or_lt_two_pow) s t l hs ht
theorem word8_add (s t : Nat → Nat) : ∀ l : List Nat, word8 (l.map s) + word8 (l.map t) = word8 (l.map (fun c => s c + t c))
  | [] => rfl
  | c :: l => by simp only [List.map_cons, word8]; rw [← word8_add s t l]; omega
theorem word8_lt : ∀ l : List Nat, (∀ c ∈ l, c < 256) → word8 l < 256 ^ l.length
  | [], _ => by simp [word8]
  | c :: l, h => by
    have h1 := word8_lt l (fun c hc => h c (by simp [hc]))
    have h2 := h c (by simp)
    simp only [word8, List.length_cons, Nat.pow_succ]
    omega
theorem Bytes8.lt {l : List Nat} (h : Bytes8 l) : word8 l < 18446744073709551616 := by have := word8_lt l h.2; rw [h.1] at this; simpa using this
theorem Bytes8.map {l : List Nat} (h : Bytes8 l) {s : Nat → Nat} (hs : ∀ c, c < 256 → s c < 256) : Bytes8 (l.map s) := ⟨by simp [h.1], fun c hc => by obtain ⟨a, ha, rfl⟩ := List.mem_map.1 hc; exact hs a (h.2 a ha)⟩
theorem word8_const (k : Nat) {l : List Nat} (h : l.length = 8) : word8 (l.map (fun _ => k)) = 72340172838076673 * k := by
  have : l.map (fun _ => k) = [k, k, k, k, k, k, k, k] := by
    rw [show (fun _ : Nat => k) = Function.const Nat k from rfl, List.map_const, h]; rfl
  rw [this]; simp only [word8]; omega
theorem Bytes8.eight {l : List Nat} (h : Bytes8 l) : ∃ a b c d e f g i, l = [a, b, c, d, e, f, g, i] := by
  obtain ⟨hl, _⟩ := h
  match l, hl with
  | [a, b, c, d, e, f, g, i], _ => exact ⟨a, b, c, d, e, f, g, i, rfl⟩
theorem eight_of {α : Type} {l : List α} (hl : l.length = 8) : ∃ a b c d e f g i, l = [a, b, c, d, e, f, g, i] := by
  match l, hl with
  | [a, b, c, d, e, f, g, i], _ => exact ⟨a, b, c, d, e, f, g, i, rfl⟩

/-! ### the two bit tricks -/
theorem trick_zero : ∀ x < 256, 255 ^^^ ((((x &&& 127) + 127) ||| x) ||| 127) = if x = 0 then 128 else 0 := by decide +kernel
theorem xor_zero {a b : Nat} (h : a ^^^ b = 0) : a = b := by
  apply Nat.eq_of_testBit_eq
  intro i
  have : (a ^^^ b).testBit i = false := by rw [h]; simp
  rw [Nat.testBit_xor] at this
  cases ha : a.testBit i <;> cases hb : b.testBit i <;> simp [ha, hb] at this <;> rfl
/-- What Match hands to gather. -/
theorem match_word {l : List Nat} (h : Bytes8 l) (b : Nat) (hb : b < 256) :
    18446744073709551615 ^^^ (((((word8 l ^^^ (72340172838076673 * b)) &&& 9187201950435737471) + 9187201950435737471) ||| (word8 l ^^^ (72340172838076673 * b))) ||| 9187201950435737471) =
      word8 (l.map (fun c => if c = b then 128 else 0)) := by
  have hx : ∀ c ∈ l, c ^^^ b < 256 := fun c hc => Nat.xor_lt_two_pow (n := 8) (h.2 c hc) hb
  have ha : ∀ c ∈ l, (c ^^^ b) &&& 127 < 128 := fun c hc => by have : (c ^^^ b) &&& 127 ≤ 127 := Nat.and_le_right; omega
  have h1 : word8 l ^^^ (72340172838076673 * b) = word8 (l.map (fun c => c ^^^ b)) := by
    have := word8_xor id (fun _ => b) l (by simpa using h.2) (fun _ _ => hb)
    rwa [word8_const b h.1, List.map_id] at this
  have k127 : (9187201950435737471 : Nat) = word8 (l.map (fun _ => 127)) := by rw [word8_const 127 h.1]
  have k255 : (18446744073709551615 : Nat) = word8 (l.map (fun _ => 255)) := by rw [word8_const 255 h.1]
  rw [h1, k127, k255, word8_and _ _ _ hx (fun _ _ => by omega), word8_add, word8_or _ _ _ (fun c hc => by have := ha c hc; omega) hx,
    word8_or _ _ _ (fun c hc => Nat.or_lt_two_pow (n := 8) (by have := ha c hc; omega) (hx c hc)) (fun _ _ => by omega),
    word8_xor _ _ _ (fun _ _ => by omega) (fun c hc => Nat.or_lt_two_pow (n := 8) (Nat.or_lt_two_pow (n := 8) (by have := ha c hc; omega) (hx c hc)) (by omega))]
  congr 1
  apply List.map_congr_left
  intro c hc
  rw [trick_zero _ (hx c hc)]
  by_cases e : c = b
  · subst e; simp
  · rw [if_neg e, if_neg (fun h => e (xor_zero h))]
theorem match_small {l : List Nat} (h : Bytes8 l) (b : Nat) (hb : b < 256) :
    (((word8 l ^^^ (72340172838076673 * b)) &&& 9187201950435737471) + 9187201950435737471) < 18446744073709551616 := by
  have : (word8 l ^^^ (72340172838076673 * b)) &&& 9187201950435737471 ≤ 9187201950435737471 := Nat.and_le_right
  omega
theorem word8_map_bool {l : List Nat} (p : Nat → Bool) : l.map (fun c => if p c then 128 else 0) = (l.map p).map (fun b => if b then 128 else 0) := by
  rw [List.map_map]; rfl
theorem gather_all : ∀ a b c d e f g i : Bool, (word8 ([a, b, c, d, e, f, g, i].map (fun b => if b then 128 else 0)) / 128 * 72624976668147840 % 18446744073709551616) / 72057594037927936 % 256 = mask [a, b, c, d, e, f, g, i] := by decide +kernel
theorem gather_mask {p : List Bool} (h : p.length = 8) : (word8 (p.map (fun b => if b then 128 else 0)) / 128 * 72624976668147840 % 18446744073709551616) / 72057594037927936 % 256 = mask p := by
  obtain ⟨a, b, c, d, e, f, g, i, rfl⟩ := eight_of h
  exact gather_all a b c d e f g i
theorem high_word {l : List Nat} (h : Bytes8 l) : word8 l &&& 9259542123273814144 = word8 (l.map (fun c => if decide (128 ≤ c) then 128 else 0)) := by
  have k : (9259542123273814144 : Nat) = word8 (l.map (fun _ => 128)) := by rw [word8_const 128 h.1]
  have := word8_and id (fun _ => 128) l (by simpa using h.2) (fun _ _ => by omega)
  rw [List.map_id] at this
  rw [k, this]
  congr 1
  apply List.map_congr_left
  intro c hc
  have : ∀ c < 256, c &&& 128 = if decide (128 ≤ c) then 128 else 0 := by decide +kernel
  exact this c (h.2 c hc)
end Go.Proofs.YtapplindfijngaaGreat

/- The model's bit operations on plain numbers; sets of lanes. -/
namespace Go.Proofs.YtapplindfijngaaGreat
open Go.RowKit
set_option maxRecDepth 100000

theorem u64_wrap (n : Nat) (h : n < 18446744073709551616) : IntKind.u64.wrap (n : Int) = n := by
  simp [IntKind.wrap, IntKind.signed, IntKind.bits]; omega
theorem u8_wrap (n : Nat) (h : n < 256) : IntKind.u8.wrap (n : Int) = n := by
  simp [IntKind.wrap, IntKind.signed, IntKind.bits]; omega
theorem ofInt_nat (k : Nat) (n : Nat) : BitVec.ofInt k (n : Int) = BitVec.ofNat k n := by
  apply BitVec.eq_of_toNat_eq
  simp [BitVec.toNat_ofInt]
theorem bits_xor64 (a b : Nat) (ha : a < 18446744073709551616) (hb : b < 18446744073709551616) : bits .xor .u64 (a : Int) (b : Int) = ((a ^^^ b : Nat) : Int) := by
  have h : a ^^^ b < 2 ^ 64 := Nat.xor_lt_two_pow ha hb
  show IntKind.u64.wrap (((BitVec.ofInt 64 (a : Int) ^^^ BitVec.ofInt 64 (b : Int)).toNat : Nat) : Int) = _
  rw [ofInt_nat, ofInt_nat]
  rw [BitVec.toNat_xor, BitVec.toNat_ofNat, BitVec.toNat_ofNat, Nat.mod_eq_of_lt (by omega), Nat.mod_eq_of_lt (by omega)]
  exact u64_wrap _ (by omega)
theorem bits_and64 (a b : Nat) (ha : a < 18446744073709551616) (hb : b < 18446744073709551616) : bits .and .u64 (a : Int) (b : Int) = ((a &&& b : Nat) : Int) := by
  have h : a &&& b < 2 ^ 64 := Nat.and_lt_two_pow _ hb
  show IntKind.u64.wrap (((BitVec.ofInt 64 (a : Int) &&& BitVec.ofInt 64 (b : Int)).toNat : Nat) : Int) = _
  rw [ofInt_nat, ofInt_nat]
  rw [BitVec.toNat_and, BitVec.toNat_ofNat, BitVec.toNat_ofNat, Nat.mod_eq_of_lt (by omega), Nat.mod_eq_of_lt (by omega)]
  exact u64_wrap _ (by omega)
theorem bits_or64 (a b : Nat) (ha : a < 18446744073709551616) (hb : b < 18446744073709551616) : bits .or .u64 (a : Int) (b : Int) = ((a ||| b : Nat) : Int) := by
  have h : a ||| b < 2 ^ 64 := Nat.or_lt_two_pow ha hb
  show IntKind.u64.wrap (((BitVec.ofInt 64 (a : Int) ||| BitVec.ofInt 64 (b : Int)).toNat : Nat) : Int) = _
  rw [ofInt_nat, ofInt_nat]
  rw [BitVec.toNat_or, BitVec.toNat_ofNat, BitVec.toNat_ofNat, Nat.mod_eq_of_lt (by omega), Nat.mod_eq_of_lt (by omega)]
  exact u64_wrap _ (by omega)
theorem bits_or8 (a b : Nat) (ha : a < 256) (hb : b < 256) : bits .or .u8 (a : Int) (b : Int) = ((a ||| b : Nat) : Int) := by
  have h : a ||| b < 2 ^ 8 := Nat.or_lt_two_pow ha hb
  show IntKind.u8.wrap (((BitVec.ofInt 8 (a : Int) ||| BitVec.ofInt 8 (b : Int)).toNat : Nat) : Int) = _
  rw [ofInt_nat, ofInt_nat]
  rw [BitVec.toNat_or, BitVec.toNat_ofNat, BitVec.toNat_ofNat, Nat.mod_eq_of_lt (by omega), Nat.mod_eq_of_lt (by omega)]
  exact u8_wrap _ (by omega)
theorem bits_and8 (a b : Nat) (ha : a < 256) (hb : b < 256) : bits .and .u8 (a : Int) (b : Int) = ((a &&& b : Nat) : Int) := by
  have h : a &&& b < 2 ^ 8 := Nat.and_lt_two_pow _ hb
  show IntKind.u8.wrap (((BitVec.ofInt 8 (a : Int) &&& BitVec.ofInt 8 (b : Int)).toNat : Nat) : Int) = _
  rw [ofInt_nat, ofInt_nat]
  rw [BitVec.toNat_and, BitVec.toNat_ofNat, BitVec.toNat_ofNat, Nat.mod_eq_of_lt (by omega), Nat.mod_eq_of_lt (by omega)]
  exact u8_wrap _ (by omega)
theorem bits_xor8 (a b : Nat) (ha : a < 256) (hb : b < 256) : bits .xor .u8 (a : Int) (b : Int) = ((a ^^^ b : Nat) : Int) := by
  have h : a ^^^ b < 2 ^ 8 := Nat.xor_lt_two_pow ha hb
  show IntKind.u8.wrap (((BitVec.ofInt 8 (a : Int) ^^^ BitVec.ofInt 8 (b : Int)).toNat : Nat) : Int) = _
  rw [ofInt_nat, ofInt_nat]
  rw [BitVec.toNat_xor, BitVec.toNat_ofNat, BitVec.toNat_ofNat, Nat.mod_eq_of_lt (by omega), Nat.mod_eq_of_lt (by omega)]
  exact u8_wrap _ (by omega)
theorem bits_andNot64 (a b c : Nat) (ha : a < 18446744073709551616) (hb : b < 18446744073709551616) (hc : c = 18446744073709551615 - b) : bits .andNot .u64 (a : Int) (b : Int) = ((a &&& c : Nat) : Int) := by
  subst hc
  have h : a &&& (18446744073709551615 - b) < 2 ^ 64 := Nat.lt_of_le_of_lt Nat.and_le_left ha
  show IntKind.u64.wrap (((BitVec.ofInt 64 (a : Int) &&& ~~~ BitVec.ofInt 64 (b : Int)).toNat : Nat) : Int) = _
  rw [ofInt_nat, ofInt_nat]
  rw [BitVec.toNat_and, BitVec.toNat_not, BitVec.toNat_ofNat, BitVec.toNat_ofNat, Nat.mod_eq_of_lt (a := a) (by omega), Nat.mod_eq_of_lt (a := b) (by omega)]
  exact u64_wrap _ (by simpa using h)
theorem not_u64 : (if IntKind.u64.signed = true then (-1 : Int) else IntKind.u64.max) = ((18446744073709551615 : Nat) : Int) := by decide
theorem not_u8 : (if IntKind.u8.signed = true then (-1 : Int) else IntKind.u8.max) = ((255 : Nat) : Int) := by decide

/-! ### sets of lanes -/
theorem mask_lt {p : List Bool} (h : p.length = 8) : mask p < 256 := by
  obtain ⟨a, b, c, d, e, f, g, i, rfl⟩ := eight_of h
  have : ∀ a b c d e f g i : Bool, mask [a, b, c, d, e, f, g, i] < 256 := by decide +kernel
  exact this ..
theorem mask_not {p : List Bool} (h : p.length = 8) : 255 ^^^ mask p = mask (p.map not) := by
  obtain ⟨a, b, c, d, e, f, g, i, rfl⟩ := eight_of h
  have : ∀ a b c d e f g i : Bool, 255 ^^^ mask [a, b, c, d, e, f, g, i] = mask ([a, b, c, d, e, f, g, i].map not) := by decide +kernel
  exact this ..
theorem mask_zero {p : List Bool} (h : p.length = 8) : decide (mask p = 0) = !p.any id := by
  obtain ⟨a, b, c, d, e, f, g, i, rfl⟩ := eight_of h
  have : ∀ a b c d e f g i : Bool, decide (mask [a, b, c, d, e, f, g, i] = 0) = !([a, b, c, d, e, f, g, i].any id) := by decide +kernel
  exact this ..
theorem mask_full {p : List Bool} (h : p.length = 8) : decide (mask p = 255) = p.all id := by
  obtain ⟨a, b, c, d, e, f, g, i, rfl⟩ := eight_of h
  have : ∀ a b c d e f g i : Bool, decide (mask [a, b, c, d, e, f, g, i] = 255) = ([a, b, c, d, e, f, g, i].all id) := by decide +kernel
  exact this ..
theorem mask_bit {p : List Bool} (h : p.length = 8) (j : Nat) (hj : j < 8) : mask p / 2 ^ j &&& 1 = (p.getD j false).toNat := by
  obtain ⟨a, b, c, d, e, f, g, i, rfl⟩ := eight_of h
  have : ∀ a b c d e f g i : Bool, ∀ j < 8, mask [a, b, c, d, e, f, g, i] / 2 ^ j &&& 1 = ([a, b, c, d, e, f, g, i].getD j false).toNat := by decide +kernel
  exact this _ _ _ _ _ _ _ _ j hj
theorem mask_or : ∀ (l : List Nat) (s t : Nat → Bool), mask (l.map s) ||| mask (l.map t) = mask (l.map (fun c => s c || t c))
  | [], _, _ => by simp [mask]
  | c :: l, s, t => by
    simp only [List.map_cons, mask]
    rw [← mask_or l s t]
    apply Nat.eq_of_testBit_eq
    intro i
    have hb : ∀ b : Bool, b.toNat < 2 ^ 1 := fun b => by cases b <;> decide
    have e : ∀ (x : Nat) (b : Bool), 2 * x + b.toNat = 2 ^ 1 * x + b.toNat := fun _ _ => rfl
    rw [Nat.testBit_or, e, e, e, Nat.testBit_two_pow_mul_add _ (hb _), Nat.testBit_two_pow_mul_add _ (hb _), Nat.testBit_two_pow_mul_add _ (hb _)]
    split
    · have : i = 0 := by omega
      subst this
      cases s c <;> cases t c <;> rfl
    · rw [Nat.testBit_or]

/-- The lanes of a set, in order. -/
def lanesOf (m : Nat) : List Nat := (List.range 8).filter m.testBit
/-- The first lane of a set, or 8. -/
def lane1 (m : Nat) : Nat := (lanesOf m).headD 8
theorem lanes_mask {p : List Bool} (h : p.length = 8) : lanesOf (mask p) = (List.range 8).filter (fun i => p.getD i false) := by
  obtain ⟨a, b, c, d, e, f, g, i, rfl⟩ := eight_of h
  have : ∀ a b c d e f g i : Bool, lanesOf (mask [a, b, c, d, e, f, g, i]) = (List.range 8).filter (fun j => [a, b, c, d, e, f, g, i].getD j false) := by decide +kernel
  exact this ..
theorem lanes_step : ∀ m < 256, m ≠ 0 → lanesOf m = lane1 m :: lanesOf (m &&& (m - 1)) ∧ lane1 m < 8 ∧ m &&& (m - 1) < m := by decide +kernel
theorem first_le : ∀ m < 256, lane1 m ≤ 8 := by decide +kernel
theorem lanes_zero : lanesOf 0 = [] := by decide
theorem first_mask {p : List Bool} (h : p.length = 8) : lane1 (mask p) = p.findIdx id := by
  obtain ⟨a, b, c, d, e, f, g, i, rfl⟩ := eight_of h
  have : ∀ a b c d e f g i : Bool, lane1 (mask [a, b, c, d, e, f, g, i]) = [a, b, c, d, e, f, g, i].findIdx id := by decide +kernel
  exact this ..

/-! ### one lane -/
theorem word8_range {l : List Nat} (h : l.length = 8) : word8 l = word8 ((List.range 8).map (fun i => l.getD i 0)) := by
  obtain ⟨a, b, c, d, e, f, g, i, rfl⟩ := eight_of h
  rfl
theorem keep_word : ∀ j < 8, 18446744073709551615 - 255 * 2 ^ (8 * j) = word8 ((List.range 8).map (fun i => if i = j then 0 else 255)) := by decide +kernel
theorem put_word (b : Nat) : ∀ j < 8, b * 2 ^ (8 * j) = word8 ((List.range 8).map (fun i => if i = j then b else 0)) := by
  intro j hj
  have : j = 0 ∨ j = 1 ∨ j = 2 ∨ j = 3 ∨ j = 4 ∨ j = 5 ∨ j = 6 ∨ j = 7 := by omega
  rcases this with rfl | rfl | rfl | rfl | rfl | rfl | rfl | rfl <;> simp [List.range_succ, word8] <;> omega
theorem with_word {l : List Nat} (h : Bytes8 l) (j b : Nat) (hj : j < 8) (hb : b < 256) : (word8 l &&& (18446744073709551615 - 255 * 2 ^ (8 * j))) ||| b * 2 ^ (8 * j) = word8 (l.set j b) := by
  have hg : ∀ i, l.getD i 0 < 256 := fun i => by
    rw [List.getD_eq_getElem?_getD]
    cases hi : l[i]? with
    | none => simp
    | some c => exact h.2 c (List.mem_of_getElem? hi)
  rw [keep_word j hj, put_word b j hj, word8_range h.1, word8_and _ _ _ (fun i _ => hg i) (fun i _ => by split <;> omega),
    word8_or _ _ _ (fun i _ => Nat.lt_of_le_of_lt Nat.and_le_left (hg i)) (fun i _ => by split <;> omega), word8_range (l := l.set j b) (by simp [h.1])]
  congr 1
  apply List.map_congr_left
  intro i hi
  have hi : i < 8 := by simpa using hi
  have h255 : ∀ c < 256, c &&& 255 = c := by decide +kernel
  simp only [List.getD_eq_getElem?_getD, List.getElem?_set]
  by_cases e : i = j
  · subst e; simp [h.1, hj]
  · rw [if_neg e, if_neg e, if_neg (fun x => e x.symm), Nat.or_zero, h255 _ (by have := hg i; rwa [List.getD_eq_getElem?_getD] at this)]
theorem word8_lane : ∀ (l : List Nat) (_ : ∀ c ∈ l, c < 256) (j : Nat), word8 l / 2 ^ (8 * j) % 256 = l.getD j 0
  | [], _, j => by simp [word8]
  | c :: l, h, 0 => by have := h c (by simp); simp [word8]; omega
  | c :: l, h, j + 1 => by
    have := h c (by simp)
    have e : 2 ^ (8 * (j + 1)) = 256 * 2 ^ (8 * j) := by rw [Nat.mul_add, Nat.pow_add]; omega
    rw [e, ← Nat.div_div_eq_div_mul]
    have e2 : word8 (c :: l) / 256 = word8 l := by simp only [word8]; omega
    rw [e2, word8_lane l (fun c hc => h c (by simp [hc])) j]
    rfl
end Go.Proofs.YtapplindfijngaaGreat

/- word and control: each function on the lanes of its word. -/
namespace Go.Proofs.YtapplindfijngaaGreat
open Go.RowKit
set_option maxRecDepth 100000

theorem u64_mod (n : Nat) : IntKind.u64.wrap (n : Int) = ((n % 18446744073709551616 : Nat) : Int) := by
  simp [IntKind.wrap, IntKind.signed, IntKind.bits]
theorem Repeat_ok (b r : Nat) (W : World) (hb : b < 256) (hr : 72340172838076673 * b = r) : Calls Tryz.prog 137 #[.int .u8 b] W fun e w' => e = .returned (.int .u64 r) ∧ W = w' := by
  subst hr
  have h0 : (0 : Int) ≤ b := by omega
  have h1 : (b : Int) ≤ 255 := by omega
  go_enter Tryz.func137, Tryz.ntmps137
  go_wp2
  go_ret
  exact ⟨by simp, rfl⟩
theorem gather_ok (z m : Nat) (W : World) (hz : z < 18446744073709551616) (hm : z / 128 * 72624976668147840 % 18446744073709551616 / 72057594037927936 % 256 = m) :
    Calls Tryz.prog 170 #[.int .u64 z] W fun e w' => e = .returned (.int .u8 m) ∧ W = w' := by
  have h0 : (0 : Int) ≤ z := by omega
  have h1 : (z : Int) ≤ 18446744073709551615 := by omega
  go_enter Tryz.func170, Tryz.ntmps170
  go_wp2
  go_ret
  refine ⟨?_, rfl⟩
  have e : IntKind.u64.wrap ((z : Int) / 128 * 72624976668147840) / 72057594037927936 % 256 = (m : Int) := by
    rw [show (z : Int) / 128 * 72624976668147840 = ((z / 128 * 72624976668147840 : Nat) : Int) by simp, u64_mod, ← hm]
    simp
  simp only [e]
  rfl
theorem Match_ok {l : List Nat} (h : Bytes8 l) (b : Nat) (W : World) (hb : b < 256) : Calls Tryz.prog 155 #[.int .u64 (word8 l), .int .u8 b] W fun e w' => e = .returned (.int .u8 (mask (l.map (· == b)))) ∧ W = w' := by
  have hl := h.lt
  have hs := match_small h b hb
  have em := match_word h b hb
  have hr : 72340172838076673 * b < 18446744073709551616 := by omega
  have hb0 : Bytes8 (l.map (fun c => if c = b then 128 else 0)) := h.map (fun c _ => by split <;> omega)
  have hg := gather_mask (p := l.map (· == b)) (by simp [h.1])
  have hc : l.map (fun c => if c = b then 128 else 0) = (l.map (· == b)).map (fun b => if b then 128 else 0) := by rw [List.map_map]; apply List.map_congr_left; intro c _; simp
  rw [← hc] at hg
  have hz := hb0.lt
  generalize word8 l = w at *
  generalize mask (l.map (· == b)) = m at *
  generalize word8 (l.map (fun c => if c = b then 128 else 0)) = z at *
  generalize hrb : 72340172838076673 * b = r at *
  have hx : w ^^^ r < 18446744073709551616 := Nat.xor_lt_two_pow (n := 64) hl hr
  have e1 := bits_xor64 w r hl hr
  generalize w ^^^ r = x at *
  have e2 : bits .and .u64 (x : Int) 9187201950435737471 = ((x &&& 9187201950435737471 : Nat) : Int) := bits_and64 x 9187201950435737471 hx (by omega)
  generalize x &&& 9187201950435737471 = y at *
  have ew : IntKind.u64.wrap ((y : Int) + 9187201950435737471) = ((y + 9187201950435737471 : Nat) : Int) := u64_wrap _ hs
  generalize y + 9187201950435737471 = u at *
  have e3 := bits_or64 u x hs hx
  have ho : u ||| x < 18446744073709551616 := Nat.or_lt_two_pow (n := 64) hs hx
  generalize u ||| x = v at *
  have e4 : bits .or .u64 (v : Int) 9187201950435737471 = ((v ||| 9187201950435737471 : Nat) : Int) := bits_or64 v 9187201950435737471 ho (by omega)
  have hv : v ||| 9187201950435737471 < 18446744073709551616 := Nat.or_lt_two_pow (n := 64) ho (by omega)
  generalize v ||| 9187201950435737471 = t at *
  have e5 : bits .xor .u64 (if IntKind.u64.signed = true then (-1 : Int) else IntKind.u64.max) (t : Int) = (z : Int) := by
    rw [not_u64, bits_xor64 _ _ (by omega) hv, em]
  go_enter Tryz.func155, Tryz.ntmps155
  go_wp2_with (first | (go_at_call 137; refine Calls.mono (Repeat_ok b r _ hb hrb) ?_; rintro e w' ⟨rfl, rfl⟩) | (go_at_call 170; go_must (refine Calls.mono (gather_ok z m _ hz hg) ?_); rintro e w' ⟨rfl, rfl⟩))
  go_ret
  exact ⟨rfl, rfl⟩
theorem High_ok {l : List Nat} (h : Bytes8 l) (W : World) : Calls Tryz.prog 169 #[.int .u64 (word8 l)] W fun e w' => e = .returned (.int .u8 (mask (l.map (fun c => decide (128 ≤ c))))) ∧ W = w' := by
  have hl := h.lt
  have hw := high_word h
  have hz : Bytes8 (l.map (fun c => if decide (128 ≤ c) then 128 else 0)) := h.map (fun c _ => by split <;> omega)
  have hg := gather_mask (p := l.map (fun c => decide (128 ≤ c))) (by simp [h.1])
  rw [← word8_map_bool (fun c => decide (128 ≤ c))] at hg
  have hz := hz.lt
  have e1 : bits .andNot .u64 (word8 l : Int) 9187201950435737471 = _ := bits_andNot64 (word8 l) 9187201950435737471 9259542123273814144 hl (by omega) rfl
  rw [hw] at e1
  generalize word8 l = w at *
  generalize mask (l.map (fun c => decide (128 ≤ c))) = m at *
  generalize word8 (l.map (fun c => if decide (128 ≤ c) then 128 else 0)) = z at *
  go_enter Tryz.func169, Tryz.ntmps169
  go_wp2_with (go_at_call 170; go_must (refine Calls.mono (gather_ok z m _ hz hg) ?_); rintro e w' ⟨rfl, rfl⟩)
  go_ret
  exact ⟨rfl, rfl⟩
theorem tz_table (s : ByteArray) (hs : s.size = 256) (h : ∀ k (hk : k < 256), wrap64 ((s[k]'(by omega)).toNat : Int) = lane1 k) (m : Nat) (hm : m < 256) (hms : m < s.size) : wrap64 ((s[m]'hms).toNat : Int) = lane1 m := h m hm
theorem Tz8_ok (m : Nat) (W : World) (hm : m < 256) : Calls Tryz.prog 165 #[.int .u8 m] W fun e w' => e = .returned (.int .i64 (lane1 m)) ∧ W = w' := by
  have h0 : (0 : Int) ≤ m := by omega
  have h1 : (m : Int) ≤ 255 := by omega
  have h2 : (m : Int) < 256 := by omega
  go_enter Tryz.func165, Tryz.ntmps165
  go_wp2
  go_ret
  exact ⟨congrArg (fun x => Ending.returned (.int .i64 x)) (tz_table _ (by decide) (by decide +kernel) m hm _), rfl⟩
theorem First_ok (m : Nat) (W : World) (hm : m < 256) : Calls Tryz.prog 143 #[.int .u8 m] W fun e w' => e = .returned (.int .i64 (lane1 m)) ∧ W = w' := by
  go_enter Tryz.func143, Tryz.ntmps143
  go_wp2_with (go_at_call 165; go_must (refine Calls.mono (Tz8_ok m _ hm) ?_); rintro e w' ⟨rfl, rfl⟩)
  go_ret
  exact ⟨rfl, rfl⟩
theorem pow_lane (j : Nat) (hj : j < 8) (b : Nat) (hb : b < 256) : b * 2 ^ (8 * j) < 18446744073709551616 := by
  have : 2 ^ (8 * j) ≤ 2 ^ 56 := Nat.pow_le_pow_right (by decide) (by omega)
  have : b * 2 ^ (8 * j) ≤ 255 * 2 ^ 56 := Nat.mul_le_mul (by omega) this
  omega
theorem With_ok {l : List Nat} (h : Bytes8 l) (j b : Nat) (W : World) (hj : j < 8) (hb : b < 256) : Calls Tryz.prog 154 #[.int .u64 (word8 l), .int .i64 j, .int .u8 b] W fun e w' => e = .returned (.tuple #[.int .u64 (word8 (l.set j b)), .int .i64 0]) ∧ w' = W.drew := by
  have hl := h.lt
  have hw := with_word h j b hj hb
  have h0 : (0 : Int) ≤ j := by omega
  have h1 : (j : Int) < 8 := by omega
  have h2 : ¬ ((8 : Int) ≤ j) := by omega
  have hb0 : (0 : Int) ≤ b := by omega
  have hb1 : (b : Int) ≤ 255 := by omega
  have k0 : (0 : Int) ≤ 8 * (j : Int) := by omega
  have k1 : 8 * (j : Int) ≤ 64 := by omega
  have k2 : wrap64 (8 * (j : Int)) = 8 * (j : Int) := IntWalk.wrap64_in _ (by omega)
  have s0 := pow_lane j hj 255 (by omega)
  have s1 := pow_lane j hj b hb
  have e1 : IntKind.u64.wrap (255 * 2 ^ (8 * j)) = ((255 * 2 ^ (8 * j) : Nat) : Int) := by rw [← u64_wrap _ s0]; simp
  have e2 : IntKind.u64.wrap ((b : Int) * 2 ^ (8 * j)) = ((b * 2 ^ (8 * j) : Nat) : Int) := by rw [← u64_wrap _ s1]; simp
  generalize b * 2 ^ (8 * j) = t at *
  generalize 255 * 2 ^ (8 * j) = s at *
  generalize word8 (l.set j b) = z at *
  generalize word8 l = w at *
  have e3 := bits_andNot64 w s _ hl s0 rfl
  have hx : w &&& (18446744073709551615 - s) < 18446744073709551616 := Nat.lt_of_le_of_lt Nat.and_le_left hl
  generalize w &&& (18446744073709551615 - s) = x at *
  have e4 := bits_or64 x t hx s1
  rw [hw] at e4
  go_enter Tryz.func154, Tryz.ntmps154
  go_wp2
  go_region
  go_wp2
  go_ret2
  exact ⟨rfl, rfl⟩

/-! ### control -/
/-- The lanes of a group: tags, empty ones and deleted ones. -/
def Group (l : List Nat) : Prop := l.length = 8 ∧ ∀ c ∈ l, c < 128 ∨ c = 128 ∨ c = 254
theorem Group.bytes {l : List Nat} (h : Group l) : Bytes8 l := ⟨h.1, fun c hc => by have := h.2 c hc; omega⟩
theorem Blank_ok (W : World) : Calls Tryz.prog 103 #[] W fun e w' => e = .returned (.int .u64 (word8 [128, 128, 128, 128, 128, 128, 128, 128] : Nat)) ∧ W = w' := by
  have hq := Repeat_ok 128 (word8 [128, 128, 128, 128, 128, 128, 128, 128]) W (by omega) (by rfl)
  generalize word8 [128, 128, 128, 128, 128, 128, 128, 128] = z at *
  go_enter Tryz.func103, Tryz.ntmps103
  go_wp2_with (go_at_call 137; go_must (refine Calls.mono hq ?_); rintro e w' ⟨rfl, rfl⟩)
  go_ret
  exact ⟨rfl, rfl⟩
theorem CMatch_ok {l : List Nat} (h : Bytes8 l) (b : Nat) (W : World) (hb : b < 128) : Calls Tryz.prog 151 #[.int .u64 (word8 l), .int .u8 b] W fun e w' => e = .returned (.int .u8 (mask (l.map (· == b)))) ∧ W = w' := by
  have h1 : ¬ ((127 : Int) < b) := by omega
  go_enter Tryz.func151, Tryz.ntmps151
  go_wp2_with (go_at_call 155; go_must (refine Calls.mono (Match_ok h b _ (by omega)) ?_); rintro e w' ⟨rfl, rfl⟩)
  go_ret
  exact ⟨rfl, rfl⟩
theorem Empties_ok {l : List Nat} (h : Bytes8 l) (W : World) : Calls Tryz.prog 115 #[.int .u64 (word8 l)] W fun e w' => e = .returned (.int .u8 (mask (l.map (· == 128)))) ∧ W = w' := by
  go_enter Tryz.func115, Tryz.ntmps115
  go_wp2_with (go_at_call 155; go_must (refine Calls.mono (Match_ok h 128 _ (by omega)) ?_); rintro e w' ⟨rfl, rfl⟩)
  go_ret
  exact ⟨rfl, rfl⟩
theorem Free_ok {l : List Nat} (h : Group l) (W : World) : Calls Tryz.prog 144 #[.int .u64 (word8 l)] W fun e w' => e = .returned (.int .u8 (mask (l.map (fun c => decide (128 ≤ c))))) ∧ W = w' := by
  have e1 := bits_or8 (mask (l.map (· == 128))) (mask (l.map (· == 254))) (mask_lt (by simp [h.1])) (mask_lt (by simp [h.1]))
  rw [mask_or] at e1
  have e2 : l.map (fun c => c == 128 || c == 254) = l.map (fun c => decide (128 ≤ c)) := List.map_congr_left (fun c hc => by have := h.2 c hc; rw [Bool.eq_iff_iff]; simp; omega)
  rw [e2] at e1
  go_enter Tryz.func144, Tryz.ntmps144
  go_wp2_with (first | (go_at_call 115; go_must (refine Calls.mono (Empties_ok h.bytes _) ?_); rintro e w' ⟨rfl, rfl⟩) | (go_at_call 155; go_must (refine Calls.mono (Match_ok h.bytes 254 _ (by omega)) ?_); rintro e w' ⟨rfl, rfl⟩))
  go_ret
  exact ⟨rfl, rfl⟩
theorem Full_ok {l : List Nat} (h : Bytes8 l) (W : World) : Calls Tryz.prog 153 #[.int .u64 (word8 l)] W fun e w' => e = .returned (.int .u8 (mask (l.map (fun c => decide (c < 128))))) ∧ W = w' := by
  have hm : mask (l.map (fun c => decide (128 ≤ c))) < 256 := mask_lt (by simp [h.1])
  have e0 := mask_not (p := l.map (fun c => decide (128 ≤ c))) (by simp [h.1])
  rw [List.map_map, show (not ∘ fun c => decide (128 ≤ c)) = (fun c : Nat => decide (c < 128)) by funext c; simp only [Function.comp]; rw [Bool.eq_iff_iff]; simp] at e0
  have e1 : bits .xor .u8 (if IntKind.u8.signed = true then (-1 : Int) else IntKind.u8.max) (mask (l.map (fun c => decide (128 ≤ c))) : Int) = (mask (l.map (fun c => decide (c < 128))) : Int) := by rw [not_u8, bits_xor8 _ _ (by omega) hm, e0]
  have hq := High_ok h W
  generalize mask (l.map (fun c => decide (128 ≤ c))) = m at *
  generalize mask (l.map (fun c => decide (c < 128))) = z at *
  go_enter Tryz.func153, Tryz.ntmps153
  go_wp2_with (go_at_call 169; go_must (refine Calls.mono hq ?_); rintro e w' ⟨rfl, rfl⟩)
  go_ret
  exact ⟨rfl, rfl⟩
theorem Valid_ok {l : List Nat} (h : Group l) (W : World) : Calls Tryz.prog 168 #[.int .u64 (word8 l)] W fun e w' => e = .returned (.bool true) ∧ W = w' := by
  have h1 := Free_ok h W
  have h2 := Full_ok h.bytes W
  have e1 := bits_or8 (mask (l.map (fun c => decide (128 ≤ c)))) (mask (l.map (fun c => decide (c < 128)))) (mask_lt (by simp [h.1])) (mask_lt (by simp [h.1]))
  rw [mask_or] at e1
  have e2 : mask (l.map (fun c => decide (128 ≤ c) || decide (c < 128))) = 255 := by
    have := mask_full (p := l.map (fun c => decide (128 ≤ c) || decide (c < 128))) (by simp [h.1])
    rw [show (l.map (fun c => decide (128 ≤ c) || decide (c < 128))).all id = true by simp [List.all_map]; intro c _; omega] at this
    exact of_decide_eq_true this
  rw [e2] at e1
  generalize mask (l.map (fun c => decide (128 ≤ c))) = m at *
  generalize mask (l.map (fun c => decide (c < 128))) = z at *
  go_enter Tryz.func168, Tryz.ntmps168
  go_wp2_with (first | (go_at_call 144; go_must (refine Calls.mono h1 ?_); rintro e w' ⟨rfl, rfl⟩) | (go_at_call 153; go_must (refine Calls.mono h2 ?_); rintro e w' ⟨rfl, rfl⟩))
  go_ret
  exact ⟨rfl, rfl⟩
theorem CCheck_ok {l : List Nat} (h : Group l) (j : Nat) (W : World) (hj : j < 8) : Calls Tryz.prog 152 #[.int .u64 (word8 l), .int .i64 j] W fun e w' => e = .returned (.int .i64 0) ∧ W = w' := by
  have hq := Valid_ok h W
  have h0 : (0 : Int) ≤ j := by omega
  have h1 : (j : Int) < 8 := by omega
  have h2 : ¬ ((8 : Int) ≤ j) := by omega
  generalize word8 l = w at *
  go_enter Tryz.func152, Tryz.ntmps152
  go_wp2_with (go_at_call 168; go_must (refine Calls.mono hq ?_); rintro e w' ⟨rfl, rfl⟩)
  go_ret
  exact ⟨rfl, rfl⟩
theorem Set_ok {l : List Nat} (h : Group l) (j b : Nat) (W : World) (hj : j < 8) (hb : b < 128) : Calls Tryz.prog 145 #[.int .u64 (word8 l), .int .i64 j, .int .u8 b] W fun e w' => e = .returned (.tuple #[.int .u64 (word8 (l.set j b)), .int .i64 0]) ∧ w' = W.drew := by
  have hq := CCheck_ok h j W hj
  have hw := With_ok h.bytes j b W hj (by omega)
  have h1 : ¬ ((127 : Int) < b) := by omega
  generalize word8 (l.set j b) = z at *
  generalize word8 l = w at *
  go_enter Tryz.func145, Tryz.ntmps145
  go_wp2_with (first | (go_at_call 152; go_must (refine Calls.mono hq ?_); rintro e w' ⟨rfl, rfl⟩) | (go_at_call 154; go_must (refine Calls.mono hw ?_); rintro e w' ⟨rfl, rfl⟩))
  go_ret2
  exact ⟨rfl, rfl⟩
/-- What Erase puts into a lane. -/
def erased (l : List Nat) : Nat := if l.any (· == 128) then 128 else 254
theorem Erase_ok {l : List Nat} (h : Group l) (j c : Nat) (W : World) (hj : l[j]? = some c) (hc : c < 128) : Calls Tryz.prog 114 #[.int .u64 (word8 l), .int .i64 j] W fun e w' => e = .returned (.tuple #[.int .u64 (word8 (l.set j (erased l))), .int .i64 0]) ∧ w' = W.drew := by
  have hj8 : j < 8 := by have := (List.getElem?_eq_some_iff.1 hj).1; have := h.1; omega
  have hq := CCheck_ok h j W hj8
  have hw := With_ok h.bytes j (erased l) W hj8 (by unfold erased; split <;> omega)
  have he := Empties_ok h.bytes W
  have hf := Full_ok h.bytes W
  have hz := mask_zero (p := l.map (· == 128)) (by simp [h.1])
  have hlt := mask_lt (p := l.map (fun c => decide (c < 128))) (by simp [h.1])
  have hb := mask_bit (p := l.map (fun c => decide (c < 128))) (by simp [h.1]) j hj8
  rw [show (l.map (fun c => decide (c < 128))).getD j false = true by simp [List.getD_eq_getElem?_getD, hj, hc]] at hb
  have hd : mask (l.map (fun c => decide (c < 128))) / 2 ^ j < 256 := Nat.lt_of_le_of_lt (Nat.div_le_self _ _) hlt
  have e1 : bits .and .u8 ((mask (l.map (fun c => decide (c < 128))) : Int) / 2 ^ j) 1 = 1 := by
    have := bits_and8 _ 1 hd (by omega)
    rw [hb] at this
    simpa using this
  have k0 : (0 : Int) ≤ j := by omega
  have k1 : (j : Int) ≤ 8 := by omega
  generalize mask (l.map (fun c => decide (c < 128))) = f at *
  rw [show (l.map (· == 128)).any id = l.any (· == 128) by simp [List.any_map]] at hz
  generalize word8 (l.set j (erased l)) = z at *
  generalize word8 l = w at *
  unfold erased at hw
  cases ha : l.any (· == 128) with
  | true =>
    rw [ha] at hz hw
    have hz : mask (l.map (· == 128)) ≠ 0 := by simpa using hz
    generalize mask (l.map (· == 128)) = m at *
    have hz2 : ((m : Int) == 0) = false := by simp [hz]
    go_enter Tryz.func114, Tryz.ntmps114
    go_wp2_with (first | (go_at_call 152; go_must (refine Calls.mono hq ?_); rintro e w' ⟨rfl, rfl⟩) | (go_at_call 115; go_must (refine Calls.mono he ?_); rintro e w' ⟨rfl, rfl⟩) | (go_at_call 153; go_must (refine Calls.mono hf ?_); rintro e w' ⟨rfl, rfl⟩) | (go_at_call 154; go_must (refine Calls.mono hw ?_); rintro e w' ⟨rfl, rfl⟩))
    go_ret2
    exact ⟨rfl, rfl⟩
  | false =>
    rw [ha] at hz hw
    have hz : mask (l.map (· == 128)) = 0 := by simpa using hz
    rw [hz] at he
    go_enter Tryz.func114, Tryz.ntmps114
    go_wp2_with (first | (go_at_call 152; go_must (refine Calls.mono hq ?_); rintro e w' ⟨rfl, rfl⟩) | (go_at_call 115; go_must (refine Calls.mono he ?_); rintro e w' ⟨rfl, rfl⟩) | (go_at_call 153; go_must (refine Calls.mono hf ?_); rintro e w' ⟨rfl, rfl⟩) | (go_at_call 154; go_must (refine Calls.mono hw ?_); rintro e w' ⟨rfl, rfl⟩))
    go_ret2
    exact ⟨rfl, rfl⟩
end Go.Proofs.YtapplindfijngaaGreat

/- A law for a range over a function, at an outermost loop of a fence without a list, for an iterator of one's own contract (IterOk). -/
namespace Go.Proofs.YtapplindfijngaaGreat
open Go.RowKit Go.Shelf

/-! ## A range over a function -/
@[go_sem] theorem wide_fn (f : Nat) : Fence.wide.fn f = True := rfl
@[go_sem] theorem wide_depth : Fence.wide.depth = none := rfl
@[go_sem] theorem wide_round : Fence.wide.round = none := rfl

/-- From A to B only new blocks that hold no cells (numbers from N on) may have turned. -/
def Quiet (N : Nat) (A B : World) : Prop := Mod (fun k => N ≤ k ∧ ∃ o, A.heap[k]? = some o ∧ o.isCells = false) A B
theorem Quiet.of_pure {N : Nat} {A B : World} (h : Pure A B) : Quiet N A B := Mod.of_pure h
theorem Quiet.putObj {N : Nat} {A : World} {l : Nat} {o : Obj} (o' : Obj) (hN : N ≤ l) (hl : A.heap[l]? = some o) (ho : o.isCells = false) : Quiet N A (A.putObj l o') :=
  ⟨rfl, rfl, rfl, by simp, fun k _ hn => World.putObj_heap_other (fun e => hn (by subst e; exact ⟨hN, o, hl, ho⟩))⟩
theorem Quiet.cells {N : Nat} {A B : World} (h : Quiet N A B) {k : Nat} {cs : Array Value} {T : TypeId} {fz : Nat × Nat} (hc : A.heap[k]? = some (.cells cs T fz)) : B.heap[k]? = some (.cells cs T fz) :=
  Mod.heap h (fun ⟨_, o, ho, hn⟩ => by rw [hc] at ho; cases ho; cases hn) hc
theorem Quiet.cell {N : Nat} {A B : World} (h : Quiet N A B) {a : Addr} {v : Value} (hc : A.cell? a = some v) : B.cell? a = some v := by
  refine Mod.cell h ?_ hc
  rintro ⟨_, o, ho, hn⟩
  unfold World.cell? at hc
  rw [ho] at hc
  cases o <;> simp_all [Obj.isCells]
theorem Quiet.owns {N : Nat} {A B : World} (h : Quiet N A B) {T k : Nat} {v : Value} {n : Nat} {xs : List Value} (ho : A.ownsRow 0 T k v n xs) : B.ownsRow 0 T k v n xs :=
  owns_mod ho h (fun g hg hs => by
    obtain ⟨c, e⟩ := owns_type ho hg
    obtain ⟨_, o, ho, hn⟩ := hs
    rw [e] at ho; cases ho; cases hn)
theorem Quiet.mod {N : Nat} {S : Nat → Prop} {w A B : World} (h : Quiet N A B) (hm : Mod S w A) (hN : w.heap.size ≤ N) : Mod S w B :=
  hm.then h (fun i hi hk => by have := hk.1; omega)

/-- A round keeps the records: blocks from N on that hold no cells. -/
def KeepsRec (N : Nat) (A B : World) : Prop := ∀ k o, N ≤ k → A.heap[k]? = some o → o.isCells = false → B.heap[k]? = some o
theorem KeepsRec.of_mod {N : Nat} {S : Nat → Prop} {A B : World} (h : Mod S A B) (hS : ∀ k, N ≤ k → S k → ∀ o, A.heap[k]? = some o → o.isCells = true) : KeepsRec N A B :=
  fun k o hk ho hn => h.heap (fun hs => by have := hS k hk hs o ho; rw [this] at hn; cases hn) ho

/-- What a round has to leave of the iterator's own blocks. -/
def KeepsIt (It : Nat → Prop) (A B : World) : Prop := A.heap.size ≤ B.heap.size ∧ ∀ k, It k → k < A.heap.size → B.heap[k]? = A.heap[k]?
theorem KeepsIt.of_mod {It S : Nat → Prop} {A B : World} (h : Mod S A B) (hS : ∀ k, It k → ¬ S k) : KeepsIt It A B := ⟨h.size, fun k hk hlt => h.block k hlt (hS k hk)⟩
theorem KeepsIt.trans {It : Nat → Prop} {A B C : World} (h : KeepsIt It A B) (k : KeepsIt It B C) : KeepsIt It A C := ⟨Nat.le_trans h.1 k.1, fun i hi hlt => (k.2 i hi (Nat.lt_of_lt_of_le hlt h.1)).trans (h.2 i hi hlt)⟩
theorem KeepsIt.of_pure {It : Nat → Prop} {A B : World} (h : Pure A B) : KeepsIt It A B := KeepsIt.of_mod h (fun _ _ h => h)

/-- THE CONTRACT OF AN ITERATOR (function gf, captured lb) in the world w: its blocks are It; of the x that it hands over behind pre it promises G; all that it hands over meets S; it makes new blocks alone. -/
def IterOk (P : Program) {α : Type} (gf : Nat) (lb : Array Value) (encs : α → Array Value) (It : Nat → Prop) (G : List α → α → World → Prop) (S : List α → Prop) (w : World) : Prop :=
  ∀ (l : Nat) (J Jx : List α → World → Prop) (W : World), Pure w W → (∀ pre A B, J pre A → Pure A B → J pre B) → (∀ pre A B, Jx pre A → Pure A B → Jx pre B) →
    (∀ pre x W1, J pre W1 → G pre x W1 → YieldAt Fence.wide 0 P l (encs x) W1 fun e W' =>
      (e = .returned (.bool true) ∧ J (pre ++ [x]) W' ∧ KeepsIt It W1 W') ∨ (e = .returned (.bool false) ∧ Jx (pre ++ [x]) W')) →
    J [] W →
    CallsIn Fence.wide 0 P gf (#[.func (.yield l) #[] #[]] ++ lb) W fun e W' => (∃ v, e = .returned v) ∧ ((∃ xs, S xs ∧ J xs W') ∨ (∃ pre, Jx pre W'))

/-- HOW THE BODY OF A ROUND MAY BE LEFT. -/
def roundEnd {α : Type} (N : Nat) (It : Nat → Prop) (I : List α → World → Prop) (Ix : Code → List α → World → Prop) (xs : List α) (W : World) : Exit → Act → World → Prop
  | .normal, _, W' => KeepsRec N W W' ∧ KeepsIt It W W' ∧ I xs W'
  | .ret, _, W' => KeepsRec N W W' ∧ Ix .ret xs W'
  | .exit id, _, W' => KeepsRec N W W' ∧ Ix (.exit id) xs W'
  | .goto t, _, W' => KeepsRec N W W' ∧ Ix (.goto t) xs W'
  | .panic _, _, _ => False
  | .outgrown, _, _ => False

variable {P : Program}

/-- THE LAW, at an outermost loop. -/
theorem wp_range {α : Type} {g : Operand} {ps : Array Tmp} {assign body : Code} {Q : Exit → Act → World → Prop} {a : Act} {w : World}
    {gf : Nat} {lb : Array Value} (hg : a.eval g = .func (.func gf) #[] lb) (eg : ∀ args w, (callFunc gf args).run P w = .ok (.enter gf args) w)
    {encs : α → Array Value} {It : Nat → Prop} {G : List α → α → World → Prop} {S : List α → Prop} (hit : IterOk P gf lb encs It G S w) (hItlt : ∀ k, It k → k < w.heap.size)
    (hps : ∀ x, (encs x).size = ps.size)
    (I : List α → World → Prop) (Ix : Code → List α → World → Prop) (hI : ∀ pre A B, I pre A → Quiet w.heap.size A B → I pre B) (hIx : ∀ c pre A B, Ix c pre A → Quiet w.heap.size A B → Ix c pre B) (h0 : I [] w)
    (Ax : List α → α → Act → World → Prop) (hAx : ∀ pre x a' A B, Ax pre x a' A → Quiet w.heap.size A B → Ax pre x a' B)
    (hassign : ∀ (l : Nat) (pre : List α) (x : α) (W : World) (K : Act → World → Prop), I pre W → G pre x W → (∀ a' W', Pure W W' → Ax pre x a' W' → K a' W') →
      assign.wpIn (Fence.wide.inRound l) 0 P (Exit.then K (fun _ _ _ => False)) { tmps := (ps.zip (encs x)).foldl (fun t (p, v) => t.setIfInBounds p v) a.tmps, defers := [] } W)
    (hbody : ∀ (l : Nat) (pre : List α) (x : α) (a' : Act) (W : World), w.heap.size ≤ l → (∃ r, W.heap[l]? = some (.loop r)) → Ax pre x a' W →
      body.wpIn (Fence.wide.inRound l) 0 P (roundEnd w.heap.size It I Ix (pre ++ [x]) W) a' W)
    (hdone : ∀ (D : Nat) (xs : List α) (W : World), w.heap.size ≤ D → S xs → I xs W → W.heap[D]? = some (.deferred (some [])) → Q .normal { a with defers := { target := .collected D, args := #[] } :: a.defers } W)
    (hstop : ∀ (D : Nat) (c : Code) (pre : List α) (W : World), w.heap.size ≤ D → Ix c pre W → W.heap[D]? = some (.deferred (some [])) → c.wpIn Fence.wide 0 P Q { a with defers := { target := .collected D, args := #[] } :: a.defers } W) :
    (Code.rangeFunc g ps assign body).wpIn Fence.wide 0 P Q a w := by
  refine wpIn_rangeFunc ?_
  intro fn hfn
  obtain ⟨rec, hrec⟩ : ∃ rec : LoopState → Option Code → Loop, rec = fun st pe => { state := st, pending := pe, fn, tmps := a.tmps, params := ps, assign, body, defers := w.heap.size } := ⟨_, rfl⟩
  obtain ⟨W1, hW1⟩ : ∃ W1, (w.alloc (.deferred (some []))).alloc (.loop (rec .ready none)) = W1 := ⟨_, rfl⟩
  have hL1 : W1.heap[w.heap.size + 1]? = some (.loop (rec .ready none)) := by rw [← hW1]; exact heap_new (by simp)
  have hK1 : W1.heap[w.heap.size]? = some (.deferred (some [])) := by rw [← hW1]; exact heap_keep (heap_new rfl)
  have hP1 : Pure w W1 := by rw [← hW1]; exact ((Mod.refl _ w).alloc _).alloc _
  have hI1 : I [] W1 := hI _ _ _ h0 (Quiet.of_pure hP1)
  refine ⟨w.heap.size + 1, [{ target := .collected w.heap.size, args := #[] }], W1, { target := .fn (.func gf) lb, args := #[.func (.yield (w.heap.size + 1)) #[] #[]] }, W1, gf,
    #[.func (.yield (w.heap.size + 1)) #[] #[]] ++ lb, W1, ?_, ?_, fun _ _ => trivial, ?_, (fun h => by cases h), ?_⟩
  · rw [← hW1, hrec]; exact run_enterLoop_outer _ _ _ _ _
  · simp only [resolve, hg]
    simp [go_sem]
  · simp [invoke, go_sem, eg]
  · refine (hit (w.heap.size + 1)
      (fun pre W => I pre W ∧ W.heap[w.heap.size + 1]? = some (.loop (rec .ready none)) ∧ W.heap[w.heap.size]? = some (.deferred (some [])) ∧ w.heap.size ≤ W.heap.size)
      (fun pre W => ∃ c, Ix c pre W ∧ W.heap[w.heap.size + 1]? = some (.loop (rec .done (some c))) ∧ W.heap[w.heap.size]? = some (.deferred (some [])))
      W1 hP1
      (fun pre A B hs hp => ⟨hI _ _ _ hs.1 (Quiet.of_pure hp), hp.heap (fun h => h) hs.2.1, hp.heap (fun h => h) hs.2.2.1, Nat.le_trans hs.2.2.2 hp.size⟩)
      (fun pre A B hs hp => by
        obtain ⟨c, hc, hl, hk⟩ := hs
        exact ⟨c, hIx _ _ _ _ hc (Quiet.of_pure hp), hp.heap (fun h => h) hl, hp.heap (fun h => h) hk⟩)
      ?_ ⟨hI1, hL1, hK1, hP1.size⟩).mono ?_
    · rintro pre x W ⟨hi, hl, hk, hsz⟩ hGx
      have hlt : w.heap.size + 1 < W.heap.size := (Array.getElem?_eq_some_iff.1 hl).1
      have hy := run_yield (P := P) (args := encs x) hl (by rw [hrec]; exact hps x)
      rw [hrec] at hy
      refine ⟨fn, _, assign, body, hy, roundIn_of_wpIn hfn (hassign _ pre x W _ hi hGx ?_)⟩
      clear hy
      intro a' Wa hpa hax
      have hla : Wa.heap[w.heap.size + 1]? = _ := hpa.heap (fun h => h) hl
      have hka : Wa.heap[w.heap.size]? = _ := hpa.heap (fun h => h) hk
      have hlta : w.heap.size + 1 < Wa.heap.size := (Array.getElem?_eq_some_iff.1 hla).1
      refine ⟨_, run_beginRound hla (by rw [hrec]), ?_⟩
      have hq2 : Quiet w.heap.size Wa (Wa.putObj (w.heap.size + 1) (.loop { rec .ready none with state := .busy })) := Quiet.putObj _ (by omega) hla rfl
      have hl2 : (Wa.putObj (w.heap.size + 1) (.loop { rec .ready none with state := .busy })).heap[w.heap.size + 1]? = some (.loop { rec .ready none with state := .busy }) := World.putObj_heap_same hlta
      have hk2 : (Wa.putObj (w.heap.size + 1) (.loop { rec .ready none with state := .busy })).heap[w.heap.size]? = some (.deferred (some [])) := (World.putObj_heap_other (by omega)).trans hka
      have ha2 := hAx _ _ _ _ _ hax hq2
      have hit2 : KeepsIt It W (Wa.putObj (w.heap.size + 1) (.loop { rec .ready none with state := .busy })) :=
        (KeepsIt.of_pure hpa).trans ⟨by simp, fun k hk _ => World.putObj_heap_other (by have := hItlt k hk; omega)⟩
      refine wpIn_mono (hbody _ pre x a' _ (by omega) ⟨_, hl2⟩ ha2) ?_
      have fin : ∀ (jump : Option Code) (W3 : World), KeepsRec w.heap.size (Wa.putObj (w.heap.size + 1) (.loop { rec .ready none with state := .busy })) W3 →
          (Instr.endRound (w.heap.size + 1) jump).run P W3 = .ok (.bool jump.isNone) (W3.putObj (w.heap.size + 1) (.loop (rec (if jump.isNone then .ready else .done) jump))) ∧
          W3.heap[w.heap.size + 1]? = some (.loop { rec .ready none with state := .busy }) ∧
          (W3.putObj (w.heap.size + 1) (.loop (rec (if jump.isNone then .ready else .done) jump))).heap[w.heap.size + 1]? = some (.loop (rec (if jump.isNone then .ready else .done) jump)) ∧
          (W3.putObj (w.heap.size + 1) (.loop (rec (if jump.isNone then .ready else .done) jump))).heap[w.heap.size]? = some (.deferred (some [])) := fun jump W3 hk3 => by
        have hl3 := hk3 _ _ (by omega) hl2 rfl
        have := run_endRound (P := P) jump hl3
        rw [hrec] at this ⊢
        exact ⟨this, by rw [hrec] at hl3; exact hl3, World.putObj_heap_same (Array.getElem?_eq_some_iff.1 hl3).1, (World.putObj_heap_other (by omega)).trans (hk3 _ _ (Nat.le_refl _) hk2 rfl)⟩
      rintro e a3 W3 hp
      cases e with
      | normal =>
        obtain ⟨hk3, hkp3, hi3⟩ := hp
        obtain ⟨hr, hl3, hl4, hk4⟩ := fin none W3 hk3
        have hlt3 : w.heap.size + 1 < W3.heap.size := (Array.getElem?_eq_some_iff.1 hl3).1
        exact ⟨_, _, hr, .inl ⟨rfl, ⟨hI _ _ _ hi3 (Quiet.putObj _ (by omega) hl3 rfl), hl4, hk4, by simp; omega⟩,
          (hit2.trans hkp3).trans ⟨by simp, fun k hk _ => World.putObj_heap_other (by have := hItlt k hk; omega)⟩⟩⟩
      | ret =>
        obtain ⟨hk3, hi3⟩ := hp
        obtain ⟨hr, hl3, hl4, hk4⟩ := fin (some .ret) W3 hk3
        exact ⟨_, _, hr, .inr ⟨rfl, .ret, hIx _ _ _ _ hi3 (Quiet.putObj _ (by omega) hl3 rfl), hl4, hk4⟩⟩
      | exit id =>
        obtain ⟨hk3, hi3⟩ := hp
        obtain ⟨hr, hl3, hl4, hk4⟩ := fin (some (.exit id)) W3 hk3
        exact ⟨_, _, hr, .inr ⟨rfl, .exit id, hIx _ _ _ _ hi3 (Quiet.putObj _ (by omega) hl3 rfl), hl4, hk4⟩⟩
      | goto t =>
        obtain ⟨hk3, hi3⟩ := hp
        obtain ⟨hr, hl3, hl4, hk4⟩ := fin (some (.goto t)) W3 hk3
        exact ⟨_, _, hr, .inr ⟨rfl, .goto t, hIx _ _ _ _ hi3 (Quiet.putObj _ (by omega) hl3 rfl), hl4, hk4⟩⟩
      | panic ch => exact hp.elim
      | outgrown => exact hp.elim
    · rintro e W2 ⟨⟨v, rfl⟩, (⟨xs, hS, hi, hl, hk, _⟩ | ⟨pre, c, hi, hl, hk⟩)⟩
      · exact ⟨none, _, by have := run_endLoop (P := P) hl (by rw [hrec]; simp); rw [hrec] at this; exact this, hdone _ xs _ (Nat.le_refl _) hS (hI _ _ _ hi (Quiet.putObj _ (by omega) hl rfl)) ((World.putObj_heap_other (by omega)).trans hk)⟩
      · exact ⟨some c, _, by have := run_endLoop (P := P) hl (by rw [hrec]; simp); rw [hrec] at this; exact this, hstop _ c pre _ (Nat.le_refl _) (hIx _ _ _ _ hi (Quiet.putObj _ (by omega) hl rfl)) ((World.putObj_heap_other (by omega)).trans hk)⟩

/-- append at a fenced list; what is appended is read. -/
theorem wpListIn_append_read {F : Fence} {m0 : Nat} {P : Program} (w : World) {ops : Array Oper} {rest : List Oper} {o : Oper} {a : Act} {Q : Exit → Act → World → Prop} (hgd : o.guard = none) (s x : Operand) (t : TypeId)
    (ho : o.op = .call { callee := .builtin .append, args := #[s, x], argTypes := #[t, t] })
    (e : TypeId) (i : TypeInfo) (z : Value) (k bytes : Nat) (ht : P.underlying t = some (.slice e)) (hi : P.info? e = some i) (hz : i.zero = some z)
    (hsize : i.size = k) (hby : i.bytes = bytes) (hzs : z.cells.size = k) (hsz : 0 < k)
    (v : Value) (n : Nat) (xs : List Value) (hs : a.eval s = v) (hown : w.ownsRow 0 e k v n xs) (xv : Value) (ys : List Value) (m : Nat) (hxv : a.eval x = xv) (hx : ReadAt w xv k ys) (hm : ys.length = m * k)
    (h63 : n + m ≤ maxLen) (hbytes : (n + m) * bytes ≤ 140737488355328)
    (h : ∀ a' c' w', w'.ownsRow 0 e k (.slice a' (n + m) c') (n + m) (xs ++ ys) → w.grownBy w' v.ownBlock → ((Value.slice a' (n + m) c').ownBlock = v.ownBlock ∨ (Value.slice a' (n + m) c').ownBlock = some w.heap.size) → wpListIn F m0 P ops Q rest (a.put o.dst (.slice a' (n + m) c')) w') : wpListIn F m0 P ops Q (o :: rest) a w := by
  refine wpListIn_plain hgd fun K hK' => ?_
  obtain ⟨a', c', w', hr, h2, h3, h4⟩ := run_append_read (P := P) w t o.type e i z k bytes ht hi hz hsize hby hzs hsz v n xs hown xv ys m hx hm h63 hbytes
  unfold Oper.wpIn
  refine ⟨?_, ?_⟩
  · simp [Oper.about, ho, resolve, Target.leads, Sem.run_pure]
  · rw [Oper.semAt_plain F _ _ (by rw [ho]; intro c hc'; cases hc')]
    simp [execOp, ho, resolve, invoke, builtin, hs, hxv, hr, Result.andThen]
    exact hK' _ _ (h a' c' w' h2 h3 h4)
/-- A function's end behind one range over a function that nothing was deferred in. -/
theorem bodyPostM_drained {P : Program} {fn : Func} {R : Ending → World → Prop} {l : Nat} {tmps : Array Value} {w : World} (v : Value) (hK : w.heap[l]? = some (.deferred (some []))) (hr : (results fn tmps).run P (w.putObj l (.deferred none)) = .ok v (w.putObj l (.deferred none)))
    (hR : R (.returned v) (w.putObj l (.deferred none))) : bodyPostM Fence.wide 0 P fn R .ret { tmps := tmps, defers := [{ target := .collected l, args := #[] }] } w :=
  ⟨by simp, .inl ⟨_, _, rfl, run_takeDeferred hK, v, hr, hR⟩⟩
end Go.Proofs.YtapplindfijngaaGreat

/- wp_range (XRange) with the round in one piece: no relation between the assignments and the body is asked. -/
namespace Go.Proofs.YtapplindfijngaaGreat
open Go.RowKit Go.Shelf
variable {P : Program}

theorem Quiet.trans {N : Nat} {A B C : World} (h : Quiet N A B) (k : Quiet N B C) : Quiet N A C := by
  refine Mod.trans' h k (fun _ _ h => h) (fun i hi hs => ?_)
  obtain ⟨hN, o, ho, hc⟩ := hs
  refine ⟨hN, ?_⟩
  have hA : A.heap[i]? = some (A.heap[i]'hi) := Array.getElem?_eq_getElem hi
  cases hx : (A.heap[i]'hi).isCells with
  | false => exact ⟨_, hA, hx⟩
  | true =>
    have := Mod.heap h (k := i) (o := A.heap[i]'hi) (fun hs => by
      obtain ⟨_, o', ho', hc'⟩ := hs
      rw [hA] at ho'; cases ho'; rw [hx] at hc'; cases hc') hA
    rw [this] at ho; cases ho; rw [hx] at hc; cases hc
theorem Quiet.refl (N : Nat) (A : World) : Quiet N A A := Quiet.of_pure (Mod.refl _ A)

theorem wp_range2 {α : Type} {g : Operand} {ps : Array Tmp} {assign body : Code} {Q : Exit → Act → World → Prop} {a : Act} {w : World}
    {gf : Nat} {lb : Array Value} (hg : a.eval g = .func (.func gf) #[] lb) (eg : ∀ args w, (callFunc gf args).run P w = .ok (.enter gf args) w)
    {encs : α → Array Value} {It : Nat → Prop} {G : List α → α → World → Prop} {S : List α → Prop} (hit : IterOk P gf lb encs It G S w) (hItlt : ∀ k, It k → k < w.heap.size)
    (hps : ∀ x, (encs x).size = ps.size)
    (I : List α → World → Prop) (Ix : Code → List α → World → Prop) (hI : ∀ pre A B, I pre A → Quiet w.heap.size A B → I pre B) (hIx : ∀ c pre A B, Ix c pre A → Quiet w.heap.size A B → Ix c pre B) (h0 : I [] w)
    (hround : ∀ (l : Nat) (pre : List α) (x : α) (W : World) (K : Act → World → Prop), I pre W → G pre x W →
      (∀ a' W', Pure W W' → (∀ (l' : Nat) (W2 : World), w.heap.size ≤ l' → (∃ r, W2.heap[l']? = some (.loop r)) → Quiet w.heap.size W' W2 → body.wpIn (Fence.wide.inRound l') 0 P (roundEnd w.heap.size It I Ix (pre ++ [x]) W2) a' W2) → K a' W') →
      assign.wpIn (Fence.wide.inRound l) 0 P (Exit.then K (fun _ _ _ => False)) { tmps := (ps.zip (encs x)).foldl (fun t (p, v) => t.setIfInBounds p v) a.tmps, defers := [] } W)
    (hdone : ∀ (D : Nat) (xs : List α) (W : World), w.heap.size ≤ D → S xs → I xs W → W.heap[D]? = some (.deferred (some [])) → Q .normal { a with defers := { target := .collected D, args := #[] } :: a.defers } W)
    (hstop : ∀ (D : Nat) (c : Code) (pre : List α) (W : World), w.heap.size ≤ D → Ix c pre W → W.heap[D]? = some (.deferred (some [])) → c.wpIn Fence.wide 0 P Q { a with defers := { target := .collected D, args := #[] } :: a.defers } W) :
    (Code.rangeFunc g ps assign body).wpIn Fence.wide 0 P Q a w :=
  wp_range hg eg hit hItlt hps I Ix hI hIx h0
    (fun pre x a' W' => ∀ (l' : Nat) (W2 : World), w.heap.size ≤ l' → (∃ r, W2.heap[l']? = some (.loop r)) → Quiet w.heap.size W' W2 → body.wpIn (Fence.wide.inRound l') 0 P (roundEnd w.heap.size It I Ix (pre ++ [x]) W2) a' W2)
    (fun _ _ _ _ _ h hq l' W2 hl hr hq2 => h l' W2 hl hr (hq.trans hq2)) hround (fun l _ _ _ W hl hr h => h l W hl hr (Quiet.refl _ _)) hdone hstop
end Go.Proofs.YtapplindfijngaaGreat

/- probe: valid numbers of groups, the sequence, its iterator; hash.Part and Tag. -/
namespace Go.Proofs.YtapplindfijngaaGreat
open Go.RowKit Go.Shelf
set_option maxRecDepth 100000
attribute [local go_sem] Oper.semAt_some

/-- An allowed number of groups. -/
def Pow (g : Nat) : Prop := ∃ k ≤ 20, g = 2 ^ k
theorem Pow.pos {g : Nat} (h : Pow g) : 0 < g := by obtain ⟨k, _, rfl⟩ := h; exact Nat.pow_pos (by decide)
theorem Pow.le {g : Nat} (h : Pow g) : g ≤ 1048576 := by obtain ⟨k, hk, rfl⟩ := h; exact Nat.pow_le_pow_right (n := 2) (by decide) hk
/-- The group that comes at an index of a probe sequence. -/
def atM (part g i : Nat) : Nat := (part + i * (i + 1) / 2) % g
def probes (part g : Nat) : List Nat := (List.range g).map (atM part g)

theorem Part_ok (s : Nat) (W : World) (hs : s < 18446744073709551616) : Calls Tryz.prog 142 #[.int .u64 s] W fun e w' => e = .returned (.int .u64 (s / 128 : Nat)) ∧ W = w' := by
  have h0 : (0 : Int) ≤ s := by omega
  have h1 : (s : Int) ≤ 18446744073709551615 := by omega
  go_enter Tryz.func142, Tryz.ntmps142
  go_wp2
  go_ret
  exact ⟨by simp, rfl⟩
theorem and_127 (s : Nat) : s &&& 127 = s % 128 := Nat.and_two_pow_sub_one_eq_mod s 7
theorem Tag_ok (s : Nat) (W : World) (hs : s < 18446744073709551616) : Calls Tryz.prog 146 #[.int .u64 s] W fun e w' => e = .returned (.int .u8 (s % 128 : Nat)) ∧ W = w' := by
  have h0 : (0 : Int) ≤ s := by omega
  have h1 : (s : Int) ≤ 18446744073709551615 := by omega
  have e1 : bits .and .u64 (s : Int) 127 = _ := bits_and64 s 127 hs (by omega)
  rw [and_127] at e1
  have e2 : ((s % 128 : Nat) : Int) % 256 = ((s % 128 : Nat) : Int) := by omega
  generalize s % 128 = t at *
  go_enter Tryz.func146, Tryz.ntmps146
  go_wp2
  go_ret
  exact ⟨by simp [e1, e2], rfl⟩

theorem bits_and63 (a b : Nat) (ha : a < 9223372036854775808) (hb : b < 9223372036854775808) : bits .and .i64 (a : Int) (b : Int) = ((a &&& b : Nat) : Int) := by
  have h : a &&& b < 2 ^ 63 := Nat.and_lt_two_pow _ hb
  show IntKind.i64.wrap (((BitVec.ofInt 64 (a : Int) &&& BitVec.ofInt 64 (b : Int)).toNat : Nat) : Int) = _
  rw [ofInt_nat, ofInt_nat]
  rw [BitVec.toNat_and, BitVec.toNat_ofNat, BitVec.toNat_ofNat, Nat.mod_eq_of_lt (by omega), Nat.mod_eq_of_lt (by omega)]
  generalize a &&& b = c at *
  simp [IntKind.wrap, IntKind.signed, IntKind.bits]
  omega
theorem pow_and : ∀ k ≤ 20, 2 ^ k &&& (2 ^ k - 1) = 0 := by decide +kernel
theorem PValid_ok (g : Nat) (W : World) (hg : Pow g) : Calls Tryz.prog 102 #[.int .i64 g] W fun e w' => e = .returned (.bool true) ∧ W = w' := by
  have h0 : (0 : Int) < g := by have := hg.pos; omega
  have h1 : (g : Int) ≤ 1048576 := by have := hg.le; omega
  have e1 : bits .and .i64 (g : Int) ((g : Int) - 1) = 0 := by
    have := bits_and63 g (g - 1) (by omega) (by omega)
    rw [show ((g - 1 : Nat) : Int) = (g : Int) - 1 by omega] at this
    rw [this]
    obtain ⟨k, hk, rfl⟩ := hg
    rw [pow_and k hk]
    rfl
  go_enter Tryz.func102, Tryz.ntmps102
  go_wp2
  all_goals go_ret
  all_goals exact ⟨rfl, rfl⟩
theorem at_walk (part g i p d q z : Nat) (W : World) (hi : i < 1048576) (hg0 : 1 ≤ g) (hg : g ≤ 1048576) (e1 : wrap64 ((i : Int) * ((i : Int) + 1)) = (p : Int)) (e2 : (p : Int).tdiv 2 = (d : Int)) (e3 : wrap64 (d : Int) = d) (e4 : IntKind.u64.wrap (d : Int) = d)
    (e5 : IntKind.u64.wrap ((part : Int) + d) = (q : Int)) (e6 : bits .and .u64 (q : Int) ((g : Int) - 1) = (z : Int)) (e7 : wrap64 (z : Int) = z) :
    Calls Tryz.prog 164 #[.int .u64 part, .int .i64 g, .int .i64 i] W fun e w' => e = .returned (.int .i64 z) ∧ W = w' := by
  have h1 : (1 : Int) ≤ g := by omega
  have h2 : (g : Int) ≤ 1048576 := by omega
  have h3 : (i : Int) < 1048576 := by omega
  go_enter Tryz.func164, Tryz.ntmps164
  go_wp2
  go_ret
  refine ⟨?_, rfl⟩
  show Ending.returned (.int .i64 (wrap64 (z : Int))) = _
  rw [e7]
theorem at_prod (i : Nat) (hi : i < 1048576) : i * (i + 1) < 1099512676352 := by
  have : i * (i + 1) ≤ 1048575 * 1048576 := Nat.mul_le_mul (by omega) (by omega)
  omega
theorem atM_and (part g i : Nat) (hg : Pow g) : (part + i * (i + 1) / 2) &&& (g - 1) = atM part g i := by
  unfold atM
  obtain ⟨k, hk, rfl⟩ := hg
  rw [Nat.and_two_pow_sub_one_eq_mod]
theorem at_ok (part g i : Nat) (W : World) (hg : Pow g) (hp : part < 144115188075855872) (hi : i < g) : Calls Tryz.prog 164 #[.int .u64 part, .int .i64 g, .int .i64 i] W fun e w' => e = .returned (.int .i64 (atM part g i)) ∧ W = w' := by
  have hg1 := hg.pos
  have hg2 := hg.le
  have hm := at_prod i (by omega)
  have hd : i * (i + 1) / 2 < 1099512676352 := by omega
  have hlt : atM part g i < g := Nat.mod_lt _ hg1
  refine at_walk part g i (i * (i + 1)) (i * (i + 1) / 2) (part + i * (i + 1) / 2) (atM part g i) W (by omega) hg1 hg2 ?_ ?_ (w64_nat _ (by omega)) (u64_wrap _ (by omega)) ?_ ?_ (w64_nat _ (by omega))
  · have := w64_nat (i * (i + 1)) (by omega)
    rwa [Int.natCast_mul, Int.natCast_add] at this
  · rw [Int.tdiv_eq_ediv_of_nonneg (Int.natCast_nonneg _)]; exact (Int.natCast_ediv _ 2).symm
  · have := u64_wrap (part + i * (i + 1) / 2) (by omega)
    rwa [Int.natCast_add] at this
  · have e6 := bits_and64 (part + i * (i + 1) / 2) (g - 1) (by omega) (by omega)
    rwa [show ((g - 1 : Nat) : Int) = (g : Int) - 1 by omega, atM_and part g i hg] at e6
theorem check_ok (g i : Nat) (W : World) (hg : Pow g) (hi : i < g) : Calls Tryz.prog 162 #[.int .i64 g, .int .i64 i] W fun e w' => e = .returned (.int .i64 0) ∧ W = w' := by
  have hq := PValid_ok g W hg
  have h0 : (0 : Int) ≤ i := by omega
  have h1 : (i : Int) < g := by omega
  have h2 : ¬ ((g : Int) ≤ i) := by omega
  go_enter Tryz.func162, Tryz.ntmps162
  go_wp2_with (go_at_call 102; go_must (refine Calls.mono hq ?_); rintro e w' ⟨rfl, rfl⟩)
  go_ret
  exact ⟨rfl, rfl⟩

/-! ### iterators over numbers -/
abbrev encN (i : Nat) : Array Value := #[.int .i64 i]
/-- What is promised of an element: it is the next one. -/
def nextOf (xs : List Nat) (pre : List Nat) (x : Nat) (_ : World) : Prop := ∃ post, xs = pre ++ x :: post

structure ProbeAt (w : World) (B1 B2 B3 part g : Nat) : Prop where
  many : w.heap[B1]? = some (.cells #[.int .i64 g] 3 (0, 0))
  part : w.heap[B2]? = some (.cells #[.int .u64 part] 22 (0, 0))
  grps : w.heap[B3]? = some (.cells #[.int .i64 g] 3 (0, 0))
def probeBlocks (B1 B2 B3 k : Nat) : Prop := k = B1 ∨ k = B2 ∨ k = B3
theorem ProbeAt.keeps {w w' : World} {B1 B2 B3 part g : Nat} (h : ProbeAt w B1 B2 B3 part g) (hk : KeepsIt (probeBlocks B1 B2 B3) w w') : ProbeAt w' B1 B2 B3 part g :=
  ⟨(hk.2 B1 (.inl rfl) (lt_of_block h.many)).trans h.many, (hk.2 B2 (.inr (.inl rfl)) (lt_of_block h.part)).trans h.part, (hk.2 B3 (.inr (.inr rfl)) (lt_of_block h.grps)).trans h.grps⟩

theorem drop_cons2 {α : Type} {L : List α} {n : Nat} {a : α} (h : L[n]? = some a) : L.drop n = a :: L.drop (n + 1) := by
  obtain ⟨hlt, rfl⟩ := List.getElem?_eq_some_iff.1 h
  exact List.drop_eq_getElem_cons hlt
theorem take_next {α : Type} {L : List α} {n : Nat} {a : α} (h : L[n]? = some a) : L.take (n + 1) = L.take n ++ [a] := by
  obtain ⟨hlt, rfl⟩ := List.getElem?_eq_some_iff.1 h
  rw [List.take_succ_eq_append_getElem hlt]
def probeInv (J : List Nat → World → Prop) (B1 B2 B3 part g : Nat) (k : Value) (wr : World) : Prop :=
  ∃ n, n ≤ g ∧ k = .int .i64 n ∧ J ((probes part g).take n) wr ∧ ProbeAt wr B1 B2 B3 part g
theorem probes_length (part g : Nat) : (probes part g).length = g := by simp [probes]
theorem probes_at (part g i : Nat) (h : i < g) : (probes part g)[i]? = some (atM part g i) := by simp [probes, h]
set_option maxHeartbeats 1000000 in
theorem Probe_iter {w : World} {B1 B2 B3 part g : Nat} (h : ProbeAt w B1 B2 B3 part g) (hg : Pow g) (hp : part < 144115188075855872) :
    IterOk Tryz.prog 163 #[.pointer (some ⟨B1, 0, none⟩), .pointer (some ⟨B2, 0, none⟩), .pointer (some ⟨B3, 0, none⟩)] encN (probeBlocks B1 B2 B3) (nextOf (probes part g)) (fun xs => xs = probes part g) w := by
  intro l J Jx W hW hJ hJx hY h0
  have hA := h.keeps (KeepsIt.of_pure hW)
  have hB := cell_of_row W B1 0 _ _ _ hA.many
  simp at hB
  have HA := Lib.hid hA
  have HY := Lib.hid hY
  have HJ := Lib.hid hJ
  have hgl := hg.le
  have HG := Lib.hid hg
  clear hA hY hJ hJx h hW hg
  refine callsIn_of_wp Tryz.func163 rfl trivial ?_ rfl
  simp only [Tryz.ntmps163, List.size_toArray, List.length_cons, List.length_nil, Nat.reduceAdd, Nat.reduceSub, Array.replicate_succ, Array.replicate_zero, List.push_toArray, List.append_toArray, List.nil_append, List.cons_append]
  gi_wp2
  gi_loopw [5, 7] (fun i k wr => probeInv J B1 B2 B3 part g k wr)
    (fun _ k _ => g - (intOf k).toNat)
  case atStart => exact ⟨0, Nat.zero_le _, rfl, h0, HA.out⟩
  case round =>
    obtain ⟨n, hn, rfl, hJs, hI⟩ := hrel
    by_cases hlt : n < g
    · have hn0 : (0 : Int) ≤ (n : Int) := by omega
      have hn1 : (n : Int) < (g : Int) := by omega
      have hn2 : n ≤ 1048576 := by omega
      have c2 := cell_of_row wr B2 0 _ _ _ hI.part
      have c3 := cell_of_row wr B3 0 _ _ _ hI.grps
      simp at c2 c3
      have he := probes_at part g n hlt
      have hdr := drop_cons2 he
      have htk : (probes part g).take (n + 1) = (probes part g).take n ++ [atM part g n] := take_next he
      obtain ⟨fn, tmps, assign, body, hy, hR⟩ := HY.out ((probes part g).take n) (atM part g n) wr hJs ⟨(probes part g).drop (n + 1), by rw [← hdr, List.take_append_drop]⟩
      dsimp only [encN] at hy
      have hRR := Lib.hid hR
      have HI := Lib.hid hI
      have HAT := Lib.hid (at_ok part g n wr HG.out hp hlt)
      have HT := Lib.hid htk
      clear hR hI hJs he hdr htk
      gi_wp2_with (gi_at_call 164; refine (callsIn_wide.2 HAT.out).mono ?_; rintro e w1 ⟨rfl, rfl⟩)
      refine hRR.out.mono ?_
      rintro e W' (⟨rfl, hJ', hk⟩ | ⟨rfl, hJx'⟩)
      · have HJ' := Lib.hid hJ'
        have HK := Lib.hid hk
        clear hJ' hk
        gi_wp2
        go_roundw
        case rel =>
          unfold probeInv
          exact ⟨n + 1, by omega, by go_num, by rw [HT.out]; exact HJ'.out, HI.out.keeps HK.out⟩
        case measure => simp [intOf]; omega
      · gi_wp2
        refine bodyPost_ret (results_none rfl _ _ _) rfl ?_
        exact ⟨⟨_, rfl⟩, .inr ⟨_, hJx'⟩⟩
    · have hend : n = g := by omega
      have hge : (g : Int) ≤ (n : Int) := by omega
      have HJS := Lib.hid hJs
      have HE := Lib.hid hend
      clear hJs hI hend
      gi_wp2
      go_end0
      refine ⟨⟨_, rfl⟩, .inl ⟨probes part g, rfl, ?_⟩⟩
      have := HJS.out
      rwa [HE.out, List.take_of_length_le (by rw [probes_length]; exact Nat.le_refl _)] at this
end Go.Proofs.YtapplindfijngaaGreat

/- A slice in a field of a struct that lies in a block: what an append to it leaves; rows of other types behind a change. -/
namespace Go.Proofs.YtapplindfijngaaGreat
open Go.RowKit

/-- A row keeps, if what has turned are blocks of other types. -/
theorem owns_modT {w w' : World} {S : Nat → Prop} {T k n : Nat} {v : Value} {xs : List Value} (ho : w.ownsRow 0 T k v n xs) (hm : Mod S w w')
    (hS : ∀ i, S i → i < w.heap.size → ∃ cs T' fz, w.heap[i]? = some (.cells cs T' fz) ∧ T' ≠ T) : w'.ownsRow 0 T k v n xs :=
  owns_mod ho hm (fun g hg hs => by
    obtain ⟨c, e⟩ := owns_type ho hg
    obtain ⟨cs, T', fz, e', hne⟩ := hS g hs (owns_lt ho hg)
    rw [e] at e'; cases e'; exact hne rfl)
theorem heap_modT {w w' : World} {S : Nat → Prop} {T k : Nat} {cs : Array Value} {fz : Nat × Nat} (hb : w.heap[k]? = some (.cells cs T fz)) (hm : Mod S w w')
    (hS : ∀ i, S i → i < w.heap.size → ∃ cs T' fz, w.heap[i]? = some (.cells cs T' fz) ∧ T' ≠ T) : w'.heap[k]? = some (.cells cs T fz) :=
  hm.heap (fun hs => by
    obtain ⟨cs', T', fz', e', hne⟩ := hS k hs (lt_of_block hb)
    rw [hb] at e'; cases e'; exact hne rfl) hb

/-- x.f = append(x.f, ..), x in block b, f its cell j. -/
theorem field_append {w wg w5 : World} {b j : Nat} {cs : Array Value} {T E k n n' : Nat} {v v' : Value} {xs xs' : List Value}
    (hb : w.heap[b]? = some (.cells cs T (0, 0))) (ho : w.ownsRow 0 E k v n xs) (hTE : T ≠ E) (hp : Pure w wg)
    (ho5 : w5.ownsRow 0 E k v' n' xs') (hg : wg.grownBy w5 v.ownBlock) (hat : v'.ownBlock = v.ownBlock ∨ v'.ownBlock = some wg.heap.size) :
    (w5.setCell ⟨b, j, none⟩ v').heap[b]? = some (.cells (cs.setIfInBounds j v') T (0, 0)) ∧ (w5.setCell ⟨b, j, none⟩ v').ownsRow 0 E k v' n' xs' ∧
      Mod (fun i => i = b ∨ v.ownBlock = some i) w (w5.setCell ⟨b, j, none⟩ v') ∧ (∀ g, v'.ownBlock = some g → v.ownBlock = some g ∨ w.heap.size ≤ g) := by
  have hlb : b < w.heap.size := lt_of_block hb
  have hnb : v.ownBlock ≠ some b := fun e => by
    obtain ⟨c, e'⟩ := owns_type ho e
    rw [hb] at e'; cases e'; exact hTE rfl
  have hnb' : v'.ownBlock ≠ some b := fun e => by
    rcases hat with h | h
    · exact hnb (h ▸ e)
    · rw [h] at e; cases e; have := hp.size; omega
  have m5 : w5.heap[b]? = some (.cells cs T (0, 0)) :=
    Mod.heap (Mod.of_grown (S := fun i => v.ownBlock = some i) hg (fun k e _ => e)) hnb (hp.heap (fun h => h) hb)
  refine ⟨heap_setCell_same w5 b j cs T v' m5, owns_mod ho5 ((Mod.refl (fun i => i = b) w5).setCell (p := ⟨b, j, none⟩) (fun _ => rfl) _) (fun g hg h => hnb' (h ▸ hg)), ?_, ?_⟩
  · exact ((Mod.of_pure hp).then (Mod.of_grown (S := fun i => i = b ∨ v.ownBlock = some i) hg (fun k e _ => .inr e)) (fun _ _ h => h)).setCell (fun _ => .inl rfl) _
  · intro g e
    rcases hat with h | h
    · exact .inl (h ▸ e)
    · rw [h] at e; cases e; exact .inr hp.size

/-- A local slice (in a slot): append. -/
theorem slot_append {w wg w5 : World} {E k n n' : Nat} {v v' : Value} {xs' : List Value}
    (hp : Pure w wg) (_ho5 : w5.ownsRow 0 E k v' n' xs') (hg : wg.grownBy w5 v.ownBlock) (hat : v'.ownBlock = v.ownBlock ∨ v'.ownBlock = some wg.heap.size) :
    Mod (fun i => v.ownBlock = some i) w w5 ∧ (∀ g, v'.ownBlock = some g → v.ownBlock = some g ∨ w.heap.size ≤ g) := by
  refine ⟨(Mod.of_pure hp).then (Mod.of_grown (S := fun i => v.ownBlock = some i) hg (fun k e _ => e)) (fun _ _ h => h), ?_⟩
  intro g e
  rcases hat with h | h
  · exact .inl (h ▸ e)
  · rw [h] at e; cases e; exact .inr hp.size

/-- The block of a struct behind stores into its cells. -/
theorem heap_set1 {w : World} {b j : Nat} {cs : Array Value} {T : TypeId} {v : Value} (h : w.heap[b]? = some (.cells cs T (0, 0))) : (w.setCell ⟨b, j, none⟩ v).heap[b]? = some (.cells (cs.setIfInBounds j v) T (0, 0)) := heap_setCell_same w b j cs T v h
theorem heap_set12 {w : World} {b : Nat} {u0 u1 v0 v1 : Value} {T : TypeId} (h : w.heap[b]? = some (.cells #[u0, u1] T (0, 0))) : ((w.setCell ⟨b, 0, none⟩ v0).setCell ⟨b, 1, none⟩ v1).heap[b]? = some (.cells #[v0, v1] T (0, 0)) :=
  heap_set1 (j := 1) (heap_set1 (j := 0) h)
theorem Mod.set1 {w : World} (b j : Nat) (v : Value) : Mod (fun i => i = b) w (w.setCell ⟨b, j, none⟩ v) := (Mod.refl (fun i => i = b) w).setCell (p := ⟨b, j, none⟩) (fun _ => rfl) v
theorem Mod.set2 {w : World} (b j k : Nat) (u v : Value) : Mod (fun i => i = b) w ((w.setCell ⟨b, j, none⟩ u).setCell ⟨b, k, none⟩ v) := (Mod.set1 b j u).trans (Mod.set1 b k v)
/-- What is only of new blocks is Pure. -/
theorem Mod.fresh {S : Nat → Prop} {a b c : World} (h : Pure a b) (hm : Mod S b c) (hS : ∀ i, S i → a.heap.size ≤ i) : Pure a c := h.then hm (fun i hi hs => by have := hS i hs; omega)
end Go.Proofs.YtapplindfijngaaGreat

/- hash.fold, Mix, Sum. -/
namespace Go.Proofs.YtapplindfijngaaGreat
open Go.RowKit Go.Shelf
set_option maxRecDepth 100000

/-- One byte more. -/
def foldS (h : Nat) (b : UInt8) : Nat := (h ^^^ b.toNat) * 1099511628211 % 18446744073709551616
def foldM (h : Nat) (l : List UInt8) : Nat := l.foldl foldS h
theorem foldl_step {α β : Type} (f : β → α → β) (h : β) (l : List α) {i : Nat} {b : α} (hb : l[i]? = some b) : (l.take (i + 1)).foldl f h = f ((l.take i).foldl f h) b := by
  rw [List.take_add_one, hb, List.foldl_append]
  rfl
theorem foldM_step (h : Nat) (l : List UInt8) {i : Nat} {b : UInt8} (hb : l[i]? = some b) : foldM h (l.take (i + 1)) = foldS (foldM h (l.take i)) b := by
  unfold foldM
  exact foldl_step foldS h l hb
theorem foldS_lt (h : Nat) (b : UInt8) : foldS h b < 18446744073709551616 := Nat.mod_lt _ (by decide)
theorem foldM_lt {h : Nat} (hh : h < 18446744073709551616) : ∀ l : List UInt8, foldM h l < 18446744073709551616
  | [] => hh
  | b :: l => foldM_lt (foldS_lt h b) l
def mix5 (w : Nat) : Nat := 5 * (w ^^^ (w / 536870912)) % 18446744073709551616
def mixM (w : Nat) : Nat := mix5 w ^^^ (mix5 w / 4294967296)
theorem mix5_lt (w : Nat) : mix5 w < 18446744073709551616 := Nat.mod_lt _ (by decide)
def sumS (seed : Nat) (same : Bool) (key : ByteArray) : Nat := mixM (foldM seed (if same then [] else key.data.toList))
set_option maxHeartbeats 1000000 in
theorem fold_ok (h : Nat) (hh : h < 18446744073709551616) (key : ByteArray) (hk : key.size ≤ 140737488355328) (w : World) : Calls Tryz.prog 136 #[.int .u64 h, .string key] w fun e w' => e = .returned (.int .u64 (foldM h key.data.toList : Nat)) ∧ w = w' := by
  obtain ⟨n, hn⟩ : ∃ n, key.size = n := ⟨_, rfl⟩
  have HN := Lib.hid hn
  have hn2 : n ≤ 140737488355328 := by omega
  obtain ⟨res, hres⟩ : ∃ res, foldM h key.data.toList = res := ⟨_, rfl⟩
  rw [hres]
  clear hk
  have wn : IntKind.i64.wrap (n : Int) = n := IntWalk.i64_in _ (by omega)
  go_enter Tryz.func136, Tryz.ntmps136
  go_upto_region 2 with fail
  go_loopw [0, 8] (fun v0 v8 wr => ∃ i, v0 = .int .u64 (foldM h (key.data.toList.take i) : Nat) ∧ v8 = .int .i64 (i : Nat) ∧ i ≤ n ∧ wr = w) (fun _ v8 _ => n - (intOf v8).toNat)
  case atStart => exact ⟨0, by rw [List.take_zero, foldM, List.foldl_nil], rfl, Nat.zero_le _, rfl⟩
  case round =>
    obtain ⟨i, rfl, rfl, hi, rfl⟩ := hrel
    have hlen : key.data.toList.length = n := by rw [← hn]; rfl
    by_cases hlt : i < n
    · have hlt' : (i : Int) < (n : Int) := by omega
      obtain ⟨b, hb⟩ : ∃ b, key.data.toList[i]? = some b := ⟨_, List.getElem?_eq_getElem (by omega)⟩
      have htk := foldM_step h key.data.toList hb
      have hq := foldM_lt hh (key.data.toList.take i)
      have hq2 := foldS_lt (foldM h (key.data.toList.take i)) b
      have HTK := Lib.hid htk
      clear htk
      generalize foldM h (key.data.toList.take i) = q at *
      have wi : IntKind.i64.wrap ((i : Int) + 1) = (i : Int) + 1 := IntWalk.i64_in _ (by omega)
      have hki : i < key.size := by omega
      have hkb : (key[i]'hki).toNat = b.toNat := by
        have := List.getElem?_eq_some_iff.1 hb
        obtain ⟨h1, h2⟩ := this
        rw [← h2]
        exact congrArg UInt8.toNat rfl
      have hb256 : b.toNat < 256 := UInt8.toNat_lt b
      have e1 : IntKind.u64.wrap (b.toNat : Int) = (b.toNat : Int) := u64_wrap _ (by omega)
      have e2 : bits .xor .u64 (q : Int) (b.toNat : Int) = ((q ^^^ b.toNat : Nat) : Int) := bits_xor64 _ _ hq (by omega)
      have e3 : IntKind.u64.wrap (((q ^^^ b.toNat : Nat) : Int) * 1099511628211) = ((foldS q b : Nat) : Int) := by
        unfold foldS
        rw [← u64_mod]
        simp
      generalize foldS q b = r at *
      generalize q ^^^ b.toNat = xx at *
      clear hb
      generalize b.toNat = kb at *
      clear hh hq hq2
      go_upto_region 5 with fail
      go_wp2
      go_roundw
      case rel => exact ⟨i + 1, by rw [HTK.out], by go_num, hlt, trivial⟩
      case measure => simp [intOf]; omega
    · have hlt' : (n : Int) ≤ (i : Int) := by omega
      have htk : key.data.toList.take i = key.data.toList := List.take_of_length_le (by omega)
      rw [htk, hres]
      go_wp2
      go_ret
      exact ⟨rfl, rfl⟩
theorem Mix_ok (n : Nat) (hn : n < 18446744073709551616) (w : World) : Calls Tryz.prog 135 #[.int .u64 n] w fun e w' => e = .returned (.int .u64 (mixM n : Nat)) ∧ w = w' := by
  have h29 : n / 536870912 < 18446744073709551616 := Nat.lt_of_le_of_lt (Nat.div_le_self _ _) hn
  have e1 : bits .xor .u64 (n : Int) ((n : Int) / 536870912) = ((n ^^^ (n / 536870912) : Nat) : Int) := bits_xor64 _ _ hn h29
  have e2 : IntKind.u64.wrap (5 * ((n ^^^ (n / 536870912) : Nat) : Int)) = ((mix5 n : Nat) : Int) := by
    unfold mix5
    rw [← u64_mod]
    simp
  have h5 := mix5_lt n
  have h32 : mix5 n / 4294967296 < 18446744073709551616 := Nat.lt_of_le_of_lt (Nat.div_le_self _ _) h5
  have e3 : bits .xor .u64 ((mix5 n : Nat) : Int) (((mix5 n : Nat) : Int) / 4294967296) = ((mixM n : Nat) : Int) := bits_xor64 _ _ h5 h32
  generalize mixM n = r at *
  generalize mix5 n = q at *
  generalize n ^^^ (n / 536870912) = z at *
  have n0 : (0 : Int) ≤ n := by omega
  have q0 : (0 : Int) ≤ q := by omega
  go_enter Tryz.func135, Tryz.ntmps135
  go_wp2
  go_ret
  exact ⟨by simp [*], rfl⟩
end Go.Proofs.YtapplindfijngaaGreat
