/- Lemmas and contracts of functions, strung together out of 10 texts. No condition. -/
import Derived.WalkKit
import Derived.WalkSpells
import Derived.WalkLawsBesides
import Derived.Outline
import Derived.Lib.Hide
import Derived.Deep.AppendLies
import Derived.Deep.AppendSrc
import Derived.Deep.RegionHeld3
import Derived.BigQuiet
import Derived.Deep.DeepCutAuto
import Derived.Deep.RegionLaw
import Derived.Deep.QuietTactic
import Derived.Test.YtlalpenfgkfkpaaGreatDoorProg
import Derived.Handy
import Derived.StillTailTactics
import Derived.RegionTactic
/- Which blocks a step may have turned (Mod), slices that are read (ReadAt), owned rows, the append law for what is read. -/
namespace Go.Proofs.YtlalpenfgkfkpaaGreatDoor
open Go.RowKit

/-! ## Which blocks a step may have turned -/

/-- Of the blocks that were there, only those in S may have turned; nothing is gone. -/
structure Mod (S : Nat → Prop) (w w' : World) : Prop where
  os : w'.os = w.os
  tape : w'.tape = w.tape
  output : w'.output = w.output
  size : w.heap.size ≤ w'.heap.size
  block : ∀ k, k < w.heap.size → ¬ S k → w'.heap[k]? = w.heap[k]?

/-- Nothing that was there has turned. -/
abbrev Pure (w w' : World) : Prop := Mod (fun _ => False) w w'

theorem Mod.refl (S : Nat → Prop) (w : World) : Mod S w w := ⟨rfl, rfl, rfl, Nat.le_refl _, fun _ _ _ => rfl⟩
theorem Mod.mono {S S' : Nat → Prop} {w w' : World} (h : Mod S w w') (hs : ∀ k, k < w.heap.size → S k → S' k) : Mod S' w w' :=
  ⟨h.os, h.tape, h.output, h.size, fun k hk hn => h.block k hk (fun hx => hn (hs k hk hx))⟩
theorem Mod.trans' {S T U : Nat → Prop} {a b c : World} (h : Mod S a b) (k : Mod T b c) (hs : ∀ i, i < a.heap.size → S i → U i) (ht : ∀ i, i < a.heap.size → T i → U i) : Mod U a c :=
  ⟨k.os.trans h.os, k.tape.trans h.tape, k.output.trans h.output, Nat.le_trans h.size k.size, fun i hi hn =>
    (k.block i (Nat.lt_of_lt_of_le hi h.size) (fun hx => hn (ht i hi hx))).trans (h.block i hi (fun hx => hn (hs i hi hx)))⟩
theorem Mod.trans {S : Nat → Prop} {a b c : World} (h : Mod S a b) (k : Mod S b c) : Mod S a c := h.trans' k (fun _ _ h => h) (fun _ _ h => h)
theorem Mod.of_pure {S : Nat → Prop} {w w' : World} (h : Pure w w') : Mod S w w' := h.mono (fun _ _ h => h.elim)
theorem Mod.of_grown {S : Nat → Prop} {w w' : World} {row : Option Nat} (h : w.grownBy w' row) (hs : ∀ k, row = some k → k < w.heap.size → S k) : Mod S w w' :=
  ⟨h.os, h.tape, h.output, h.size, fun k hk hn => h.block k hk (fun e => hn (hs k e.symm hk))⟩
theorem Mod.of_below {S : Nat → Prop} {w w' : World} (h : Below w.heap.size w w') : Mod S w w' := ⟨h.os, h.tape, h.output, h.size, fun k hk _ => h.block k hk⟩
theorem Mod.below {S : Nat → Prop} {w w' : World} (h : Mod S w w') (hs : ∀ k, k < w.heap.size → ¬ S k) : Below w.heap.size w w' := ⟨h.os, h.tape, h.output, h.size, fun k hk => h.block k hk (hs k hk)⟩
theorem Mod.alloc {S : Nat → Prop} {a w : World} (h : Mod S a w) (o : Obj) : Mod S a (w.alloc o) :=
  ⟨h.os, h.tape, h.output, Nat.le_trans h.size (by simp), fun k hk hn => (Below.heap_alloc w o k (Nat.lt_of_lt_of_le hk h.size)).trans (h.block k hk hn)⟩
theorem Mod.drew {S : Nat → Prop} {a w : World} (h : Mod S a w) : Mod S a w.drew := ⟨h.os, h.tape, h.output, h.size, h.block⟩
theorem Mod.of_drew {S : Nat → Prop} {w w' : World} (h : Mod S w.drew w') : Mod S w w' := ⟨h.os, h.tape, h.output, h.size, h.block⟩
theorem Mod.drewN {S : Nat → Prop} {a w : World} (h : Mod S a w) (n : Nat) : Mod S a (w.drewN n) := ⟨h.os, h.tape, h.output, h.size, h.block⟩
theorem Mod.setCell {S : Nat → Prop} {a w : World} (h : Mod S a w) {p : Addr} (hp : p.block < a.heap.size → S p.block) (u : Value) : Mod S a (w.setCell p u) :=
  ⟨h.os, h.tape, h.output, by simpa [World.setCell] using h.size, fun k hk hn => (Below.heap_setCell w p u k (fun e => by subst e; exact hn (hp hk))).trans (h.block k hk hn)⟩

theorem Mod.then {S T : Nat → Prop} {a b c : World} (h : Mod S a b) (k : Mod T b c) (ht : ∀ i, i < a.heap.size → T i → S i) : Mod S a c := h.trans' k (fun _ _ h => h) ht
/-- Behind a call that turned nothing: all cells and marks read as before (two rules for the walk). -/
theorem Mod.cells {W w1 : World} (h : Pure W w1) : (∀ b o, b < W.heap.size → w1.cell? ⟨b, o, none⟩ = W.cell? ⟨b, o, none⟩) ∧ (∀ b o, b < W.heap.size → w1.frozen? ⟨b, o, none⟩ = W.frozen? ⟨b, o, none⟩) :=
  ⟨fun b o hb => World.cell?_of_block (w := W) (a := ⟨b, o, none⟩) (h.block b hb (fun h => h)), fun b o hb => World.frozen?_of_block (w := W) (a := ⟨b, o, none⟩) (h.block b hb (fun h => h))⟩
theorem Mod.cell {S : Nat → Prop} {w w' : World} (h : Mod S w w') {a : Addr} {v : Value} (hn : ¬ S a.block) (hc : w.cell? a = some v) : w'.cell? a = some v :=
  (World.cell?_of_block (w := w) (h.block a.block (World.block_lt_of_cell? w a hc) hn)).trans hc
theorem Mod.heap {S : Nat → Prop} {w w' : World} (h : Mod S w w') {k : Nat} {o : Obj} (hn : ¬ S k) (hc : w.heap[k]? = some o) : w'.heap[k]? = some o :=
  (h.block k (lt_of_block hc) hn).trans hc
theorem Mod.lt {S : Nat → Prop} {w w' : World} (h : Mod S w w') {k : Nat} (hk : k < w.heap.size) : k < w'.heap.size := Nat.lt_of_lt_of_le hk h.size

/-- The block that was just made, under whatever name of its number; an elder one. -/
theorem heap_new {w : World} {o : Obj} {n : Nat} (hn : n = w.heap.size) : (w.alloc o).heap[n]? = some o := by subst hn; exact heap_alloc_new w o
theorem heap_keep {w : World} {o x : Obj} {n : Nat} (h : w.heap[n]? = some x) : (w.alloc o).heap[n]? = some x := by
  rw [Below.heap_alloc w o n (lt_of_block h)]; exact h
theorem heap_set_other {w : World} {a : Addr} {v : Value} {x : Obj} {n : Nat} (h : w.heap[n]? = some x) (hn : n ≠ a.block) : (w.setCell a v).heap[n]? = some x := by
  rw [heap_setCell_other w a n v hn]; exact h

/-- A block of one's own behind a step that has not turned it. -/
theorem Mod.box {S : Nat → Prop} {W w1 : World} (h : Mod S W w1) {b : Nat} {cs : Array Value} {T : TypeId} (hb : W.heap[b]? = some (.cells cs T (0, 0))) (hn : ¬ S b) :
    (∀ i, w1.cell? ⟨b, i, none⟩ = cs[i]?) ∧ (∀ i, w1.frozen? ⟨b, i, none⟩ = false) := by
  have := h.heap hn hb
  exact ⟨fun i => cell_of_row w1 b i cs T (0, 0) this, fun i => frozen_of_row w1 b i cs T this⟩

theorem w64_nat (n : Nat) (h : n ≤ 9223372036854775807) : wrap64 (n : Int) = n := IntWalk.wrap64_in _ (by omega)
theorem u32_nat (n : Nat) (h : n ≤ 4294967295) : wrap64 (n : Int) % 4294967296 = n := by rw [w64_nat n (by omega)]; omega

/-! ## Slices that are read -/

/-- The slice value v reads, element by element (k cells each), as the cells xs. -/
def ReadAt (w : World) (v : Value) (k : Nat) (xs : List Value) : Prop :=
  ∃ (a : Option Addr) (n c : Nat), v = .slice a n c ∧ xs.length = n * k ∧ (∀ u ∈ xs, u.oneCell' = true) ∧ (a = none → n = 0) ∧ ∀ ad, a = some ad → ∀ j u, xs[j]? = some u → w.cell? (ad.add j) = some u

theorem ReadAt.nil (w : World) (k : Nat) : ReadAt w (.slice none 0 0) k [] := ⟨none, 0, 0, rfl, by simp, by simp, fun _ => rfl, fun _ h => by cases h⟩

/-- The block that a slice value reads from (none if it reads nothing). -/
def rdBlock : Value → Option Nat
  | .slice (some a) n _ => if n = 0 then none else some a.block
  | _ => none
theorem rdBlock_own {v : Value} {g : Nat} (h : rdBlock v = some g) : v.ownBlock = some g := by
  unfold rdBlock at h
  split at h
  · split at h
    · cases h
    · exact h
  · cases h
theorem addr_block (ad : Addr) (j : Nat) : (ad.add j).block = ad.block := by unfold Addr.add; split <;> rfl
theorem ReadAt.frame {w w' : World} {v : Value} {k : Nat} {xs : List Value} {S : Nat → Prop} (h : ReadAt w v k xs) (hm : Mod S w w') (hn : ∀ g, rdBlock v = some g → ¬ S g) : ReadAt w' v k xs := by
  obtain ⟨a, n, c, rfl, hl, h1, h0, hc⟩ := h
  refine ⟨a, n, c, rfl, hl, h1, h0, fun ad ha j u hu => ?_⟩
  refine hm.cell ?_ (hc ad ha j u hu)
  rw [addr_block]
  refine hn ad.block ?_
  subst ha
  have : n ≠ 0 := by
    rintro rfl
    have : xs = [] := List.eq_nil_of_length_eq_zero (by simpa using hl)
    subst this
    cases hu
  simp [rdBlock, this]
theorem ReadAt.lt {w : World} {v : Value} {k : Nat} {xs : List Value} (h : ReadAt w v k xs) (hk : 0 < k) {g : Nat} (hg : rdBlock v = some g) : g < w.heap.size := by
  obtain ⟨a, n, c, rfl, hl, h1, h0, hc⟩ := h
  cases a with
  | none => cases hg
  | some ad =>
    simp only [rdBlock] at hg
    split at hg
    · cases hg
    · cases hg
      have hp : 0 < xs.length := by rw [hl]; exact Nat.mul_pos (by omega) hk
      have := World.block_lt_of_cell? w _ (hc ad rfl 0 _ (List.getElem?_eq_getElem hp))
      rwa [addr_block] at this

theorem ReadAt.of_owns {w : World} {e : TypeId} {k : Nat} {v : Value} {n : Nat} {xs : List Value} (h : w.ownsRow 0 e k v n xs) (h1 : ∀ u ∈ xs, u.oneCell' = true) : ReadAt w v k xs := by
  obtain ⟨hl, hv⟩ := h
  rcases hv with ⟨rfl, rfl⟩ | ⟨g, cap, cur, rfl, hb, hg, hnc, hcm, hcs, ht⟩
  · have : xs = [] := List.eq_nil_of_length_eq_zero (by simpa using hl)
    subst this
    exact ReadAt.nil w k
  · have hown : w.ownsRow 0 e k (.slice (some ⟨g, 0, none⟩) n cap) n xs := ⟨hl, .inr ⟨g, cap, cur, rfl, hb, hg, hnc, hcm, hcs, ht⟩⟩
    exact ⟨some ⟨g, 0, none⟩, n, cap, rfl, hl, h1, (fun h => by cases h), fun ad ha j u hu => by cases ha; exact hown.cells rfl j u hu⟩

/-- The cells of a flat row. -/
theorem flat_get {α β : Type} (f : α → List β) (k : Nat) (hf : ∀ a, (f a).length = k) (j : Nat) (hj : j < k) : ∀ (M : List α) (i : Nat), (M.flatMap f)[i * k + j]? = (M[i]?).bind fun m => (f m)[j]?
  | [], i => by simp
  | a :: M, 0 => by
    simp only [List.flatMap_cons, Nat.zero_mul, Nat.zero_add, List.getElem?_cons_zero, Option.bind_some]
    rw [List.getElem?_append_left (by rw [hf]; exact hj)]
  | a :: M, i + 1 => by
    have e : (i + 1) * k + j = (f a).length + (i * k + j) := by rw [hf, Nat.add_mul]; omega
    simp only [List.flatMap_cons, List.getElem?_cons_succ]
    rw [e, List.getElem?_append_right (Nat.le_add_right _ _), Nat.add_sub_cancel_left]
    exact flat_get f k hf j hj M i
theorem flat_length {α β : Type} (f : α → List β) (k : Nat) (hf : ∀ a, (f a).length = k) : ∀ (M : List α), (M.flatMap f).length = M.length * k
  | [] => by simp
  | a :: M => by simp only [List.flatMap_cons, List.length_append, hf, flat_length f k hf M, List.length_cons, Nat.add_mul]; omega

/-- The address of an owned row, its cells. -/
theorem owns_form {w : World} {T k : Nat} {v : Value} {n : Nat} {xs : List Value} (h : w.ownsRow 0 T k v n xs) : ∃ a c, v = .slice a n c ∧ n ≤ c := by
  rcases h.2 with ⟨rfl, rfl⟩ | ⟨g, cap, cur, rfl, _, _, hnc, _⟩
  · exact ⟨none, 0, rfl, Nat.le_refl _⟩
  · exact ⟨_, _, rfl, hnc⟩
theorem owns_at {w : World} {T k : Nat} {v : Value} {n : Nat} {xs : List Value} (h : w.ownsRow 0 T k v n xs) (hn : 0 < n) :
    ∃ g c, v = .slice (some ⟨g, 0, none⟩) n c ∧ n ≤ c ∧ g < w.heap.size ∧ (∀ j u, xs[j]? = some u → w.cell? ⟨g, j, none⟩ = some u) ∧ (∀ j, w.frozen? ⟨g, j, none⟩ = false) ∧ ∃ cur, w.heap[g]? = some (.cells cur T (0, 0)) ∧ cur.size = c * k ∧ cur.toList.take (n * k) = xs ∧ c ≤ maxLen := by
  obtain ⟨hl, hv⟩ := h
  rcases hv with ⟨_, h0⟩ | ⟨g, cap, cur, rfl, hb, hg, hnc, hm, hcs, ht⟩
  · omega
  · refine ⟨g, cap, rfl, hnc, lt_of_block hg, fun j u hu => ?_, fun j => frozen_of_row w g j cur T hg, cur, hg, hcs, ht, hm⟩
    rw [cell_of_row w g j cur T (0, 0) hg]
    rw [← ht, List.getElem?_take] at hu
    split at hu
    · simpa using hu
    · cases hu

theorem owns_heap {w w' : World} {T k : Nat} {v : Value} {n : Nat} {xs : List Value} (h : w.ownsRow 0 T k v n xs) (hn : ∀ g, v.ownBlock = some g → g < w.heap.size → w'.heap[g]? = w.heap[g]?) : w'.ownsRow 0 T k v n xs := by
  refine ⟨h.1, ?_⟩
  rcases h.2 with h2 | ⟨g, cap, cur, rfl, hb, hg, rest⟩
  · exact .inl h2
  · exact .inr ⟨g, cap, cur, rfl, hb, (hn g rfl (lt_of_block hg)).trans hg, rest⟩
theorem owns_mod {w w' : World} {T k : Nat} {v : Value} {n : Nat} {xs : List Value} {S : Nat → Prop} (h : w.ownsRow 0 T k v n xs) (hm : Mod S w w') (hn : ∀ g, v.ownBlock = some g → ¬ S g) : w'.ownsRow 0 T k v n xs := by
  refine ⟨h.1, ?_⟩
  rcases h.2 with h2 | ⟨g, cap, cur, rfl, hb, hg, rest⟩
  · exact .inl h2
  · exact .inr ⟨g, cap, cur, rfl, hb, hm.heap (hn g rfl) hg, rest⟩
/-- The block of an owned row is a block of its elements' type. -/
theorem owns_type {w : World} {T k : Nat} {v : Value} {n : Nat} {xs : List Value} (h : w.ownsRow 0 T k v n xs) {g : Nat} (hg : v.ownBlock = some g) : ∃ cur, w.heap[g]? = some (.cells cur T (0, 0)) := by
  rcases h.2 with ⟨rfl, _⟩ | ⟨g', cap, cur, rfl, _, hb, _⟩
  · cases hg
  · cases hg; exact ⟨cur, hb⟩
theorem owns_lt {w : World} {T k : Nat} {v : Value} {n : Nat} {xs : List Value} (h : w.ownsRow 0 T k v n xs) {g : Nat} (hg : v.ownBlock = some g) : g < w.heap.size := (h.lt g hg).2
/-- Two owned rows of different types lie in different blocks. -/
theorem owns_apart {w : World} {T T' k k' : Nat} {v v' : Value} {n n' : Nat} {xs xs' : List Value} (h : w.ownsRow 0 T k v n xs) (h' : w.ownsRow 0 T' k' v' n' xs') (hT : T ≠ T') {g : Nat} (hg : v.ownBlock = some g) : v'.ownBlock ≠ some g := by
  intro hg'
  obtain ⟨c, e⟩ := owns_type h hg
  obtain ⟨c', e'⟩ := owns_type h' hg'
  rw [e] at e'
  cases e'
  exact hT rfl
theorem owns_len {w : World} {T k : Nat} {v : Value} {n m : Nat} {xs : List Value} (h : w.ownsRow 0 T k v n xs) (hk : 0 < k) (hm : xs.length = m * k) : n = m := Nat.eq_of_mul_eq_mul_right hk (h.1.symm.trans hm)
theorem ReadAt.of_block {w : World} {B : Nat} {cs : Array Value} {T : TypeId} {fr : Nat × Nat} (n c k : Nat) (hb : w.heap[B]? = some (.cells cs T fr)) (hl : cs.toList.length = n * k) (h1 : ∀ u ∈ cs.toList, u.oneCell' = true) :
    ReadAt w (.slice (some ⟨B, 0, none⟩) n c) k cs.toList :=
  ⟨some ⟨B, 0, none⟩, n, c, rfl, hl, h1, (fun h => by cases h), fun ad ha j u hu => by cases ha; exact World.news_of_block hb j u hu⟩

/-- A cell of an owned row is stored into. -/
theorem owns_setCell {w : World} {T k g n c : Nat} {xs : List Value} (h : w.ownsRow 0 T k (.slice (some ⟨g, 0, none⟩) n c) n xs) (j : Nat) (u : Value) (hj : j < n * k) :
    (w.setCell ⟨g, j, none⟩ u).ownsRow 0 T k (.slice (some ⟨g, 0, none⟩) n c) n (xs.set j u) := by
  obtain ⟨hl, hv⟩ := h
  refine ⟨by rw [List.length_set]; exact hl, .inr ?_⟩
  rcases hv with ⟨hv, _⟩ | ⟨g', cap, cur, hv, hb, hg, hnc, hm, hcs, ht⟩
  · cases hv
  · cases hv
    refine ⟨g, c, cur.setIfInBounds j u, rfl, hb, heap_setCell_same w g j cur T u hg, hnc, hm, by rw [Array.size_setIfInBounds]; exact hcs, ?_⟩
    rw [Array.toList_setIfInBounds, List.take_set, ht]

/-- Replacing one row of a flat list, cell by cell. -/
theorem flatten_set (k j : Nat) (hj : j < k) (u : Value) : ∀ (R : List (List Value)) (_ : ∀ r ∈ R, r.length = k) (i : Nat), R.flatten.set (i * k + j) u = (R.modify i (fun r => r.set j u)).flatten
  | [], _, i => by simp
  | r :: R, hR, 0 => by
    simp only [Nat.zero_mul, Nat.zero_add, List.flatten_cons, List.modify_zero_cons]
    rw [List.set_append_left _ _ (by rw [hR r (by simp)]; exact hj)]
  | r :: R, hR, i + 1 => by
    have hr : r.length = k := hR r (by simp)
    simp only [List.flatten_cons, List.modify_succ_cons]
    rw [List.set_append_right _ _ (by rw [hr, Nat.add_mul]; omega)]
    have e : (i + 1) * k + j - r.length = i * k + j := by rw [hr, Nat.add_mul]; omega
    rw [e, flatten_set k j hj u R (fun r h => hR r (by simp [h])) i]
theorem modify_length {R : List (List Value)} {k : Nat} (hR : ∀ r ∈ R, r.length = k) (i j : Nat) (u : Value) : ∀ r ∈ R.modify i (fun r => r.set j u), r.length = k := by
  intro r hr
  obtain ⟨n, hn⟩ := List.mem_iff_getElem?.1 hr
  rw [List.getElem?_modify] at hn
  cases h : R[n]? with
  | none => simp [h] at hn
  | some r0 =>
    have h0 := hR r0 (List.mem_of_getElem? h)
    simp only [h, Option.map_some] at hn
    split at hn <;> (cases hn; simp [h0])
theorem modify_map_set {α : Type} (f : α → List Value) (h : List Value → List Value) (m' : α) : ∀ (M : List α) (i : Nat) (m : α), M[i]? = some m → h (f m) = f m' → (M.map f).modify i h = (M.set i m').map f
  | [], i, m, hi, _ => by simp at hi
  | a :: M, 0, m, hi, hm => by simp at hi; subst hi; simp [hm]
  | a :: M, i + 1, m, hi, hm => by
    have := modify_map_set f h m' M i m (by simpa using hi) hm
    simp only [List.map_cons, List.modify_succ_cons, List.set_cons_succ, this]

/-! ## append -/

section
variable {P : Program} (w : World)

/-- append onto an owned row (nil, empty or not), of whatever is read. -/
theorem run_append_read (t ty e : TypeId) (i : TypeInfo) (z : Value) (k bytes : Nat) (ht : P.underlying t = some (.slice e)) (hi : P.info? e = some i) (hz : i.zero = some z)
    (hsize : i.size = k) (hby : i.bytes = bytes) (hzs : z.cells.size = k) (hsz : 0 < k)
    (v : Value) (n : Nat) (xs : List Value) (hown : w.ownsRow 0 e k v n xs) (x : Value) (ys : List Value) (m : Nat) (hx : ReadAt w x k ys) (hm : ys.length = m * k)
    (h63 : n + m ≤ maxLen) (hbytes : (n + m) * bytes ≤ 140737488355328) :
    ∃ a' c' w', (Builtin.append_ #[t, t] ty #[v, x]).run P w = .ok (.slice a' (n + m) c') w' ∧ w'.ownsRow 0 e k (.slice a' (n + m) c') (n + m) (xs ++ ys) ∧ w.grownBy w' v.ownBlock ∧ ((Value.slice a' (n + m) c').ownBlock = v.ownBlock ∨ (Value.slice a' (n + m) c').ownBlock = some w.heap.size) := by
  suffices hs : ∃ v' w', (Builtin.append_ #[t, t] ty #[v, x]).run P w = .ok v' w' ∧ w'.ownsRow 0 e k v' (n + m) (xs ++ ys) ∧ w.grownBy w' v.ownBlock ∧ (v'.ownBlock = v.ownBlock ∨ v'.ownBlock = some w.heap.size) by
    obtain ⟨v', w', r1, r2, r3, r4⟩ := hs
    obtain ⟨a', c', rfl, _⟩ := owns_form r2
    exact ⟨a', c', w', r1, r2, r3, r4⟩
  obtain ⟨a, m', c, rfl, hl, h1, h0, hc⟩ := hx
  have em : m' = m := Nat.eq_of_mul_eq_mul_right hsz (hl.symm.trans hm)
  subst em
  cases a with
  | some ad =>
    obtain ⟨v', w', r1, r2, r3, _, r5⟩ := run_append_own_at (P := P) w 0 t ty e i z k bytes ht hi hz hsize hby hzs hsz v n xs hown ad m' c ys hl (fun j u hu => hc ad rfl j u hu) h1 h63 hbytes (Nat.zero_le _)
    exact ⟨v', w', r1, r2, r3, r5⟩
  | none =>
    have hm0 := h0 rfl
    subst hm0
    have hy : ys = [] := List.eq_nil_of_length_eq_zero (by simpa using hl)
    subst hy
    refine ⟨v, w, ?_, by simpa using hown, ⟨rfl, rfl, rfl, Nat.le_refl _, fun _ _ _ => rfl⟩, .inl rfl⟩
    rcases hown.2 with ⟨rfl, rfl⟩ | ⟨g, cap, cur, rfl, _, hg, hnc, _⟩
    · simp [Builtin.append_, run_underlying ht, sizeOf, typeInfo, hi, Builtin.lenOf, Builtin.firstCells, loadCells, loadCellsFrom]
    · simp [Builtin.append_, run_underlying ht, sizeOf, typeInfo, hi, Builtin.lenOf, Builtin.firstCells, hnc, storeCells]

theorem wp_append_read {o : Oper} {a : Act} {K : Act → World → Prop} {Q : Exit → Act → World → Prop} (s x : Operand) (t : TypeId)
    (ho : o.op = .call { callee := .builtin .append, args := #[s, x], argTypes := #[t, t] })
    (e : TypeId) (i : TypeInfo) (z : Value) (k bytes : Nat) (ht : P.underlying t = some (.slice e)) (hi : P.info? e = some i) (hz : i.zero = some z)
    (hsize : i.size = k) (hby : i.bytes = bytes) (hzs : z.cells.size = k) (hsz : 0 < k)
    (v : Value) (n : Nat) (xs : List Value) (hs : a.eval s = v) (hown : w.ownsRow 0 e k v n xs) (xv : Value) (ys : List Value) (m : Nat) (hxv : a.eval x = xv) (hx : ReadAt w xv k ys) (hm : ys.length = m * k)
    (h63 : n + m ≤ maxLen) (hbytes : (n + m) * bytes ≤ 140737488355328)
    (h : ∀ a' c' w', w'.ownsRow 0 e k (.slice a' (n + m) c') (n + m) (xs ++ ys) → w.grownBy w' v.ownBlock → ((Value.slice a' (n + m) c').ownBlock = v.ownBlock ∨ (Value.slice a' (n + m) c').ownBlock = some w.heap.size) → K (a.put o.dst (.slice a' (n + m) c')) w') : o.wp P a w K Q := by
  obtain ⟨a', c', w', hr, h2, h3, h4⟩ := run_append_read (P := P) w t o.type e i z k bytes ht hi hz hsize hby hzs hsz v n xs hown xv ys m hx hm h63 hbytes
  unfold Oper.wp execOp
  simp only [ho, resolve, invoke, builtin, Sem.run_bind, Sem.run_pure, Result.andThen_ok, List.map_toArray, List.map_cons, List.map_nil, hs, hxv, hr]
  exact h a' c' w' h2 h3 h4

/-- At a plain region's list. -/
theorem wpList_append_read {ops : Array Oper} {rest : List Oper} {o : Oper} {a : Act} {Q : Exit → Act → World → Prop} (hgd : o.guard = none) (s x : Operand) (t : TypeId)
    (ho : o.op = .call { callee := .builtin .append, args := #[s, x], argTypes := #[t, t] })
    (e : TypeId) (i : TypeInfo) (z : Value) (k bytes : Nat) (ht : P.underlying t = some (.slice e)) (hi : P.info? e = some i) (hz : i.zero = some z)
    (hsize : i.size = k) (hby : i.bytes = bytes) (hzs : z.cells.size = k) (hsz : 0 < k)
    (v : Value) (n : Nat) (xs : List Value) (hs : a.eval s = v) (hown : w.ownsRow 0 e k v n xs) (xv : Value) (ys : List Value) (m : Nat) (hxv : a.eval x = xv) (hx : ReadAt w xv k ys) (hm : ys.length = m * k)
    (h63 : n + m ≤ maxLen) (hbytes : (n + m) * bytes ≤ 140737488355328)
    (h : ∀ a' c' w', w'.ownsRow 0 e k (.slice a' (n + m) c') (n + m) (xs ++ ys) → w.grownBy w' v.ownBlock → ((Value.slice a' (n + m) c').ownBlock = v.ownBlock ∨ (Value.slice a' (n + m) c').ownBlock = some w.heap.size) → wpList P ops Q rest (a.put o.dst (.slice a' (n + m) c')) w') : wpList P ops Q (o :: rest) a w :=
  wpList_plain hgd fun _ hK => wp_append_read w s x t ho e i z k bytes ht hi hz hsize hby hzs hsz v n xs hs hown xv ys m hxv hx hm h63 hbytes fun a' c' w' h2 h3 h4 => hK _ _ (h a' c' w' h2 h3 h4)

/-- At a step of a region that draws its order. -/
theorem step_append_read {ops : Array Oper} {o : Oper} {a : Act} {K : Act → World → Prop} {Q : Exit → Act → World → Prop} {E : Prop} (hgd : o.guard = none) (s x : Operand) (t : TypeId)
    (ho : o.op = .call { callee := .builtin .append, args := #[s, x], argTypes := #[t, t] })
    (e : TypeId) (i : TypeInfo) (z : Value) (k bytes : Nat) (ht : P.underlying t = some (.slice e)) (hi : P.info? e = some i) (hz : i.zero = some z)
    (hsize : i.size = k) (hby : i.bytes = bytes) (hzs : z.cells.size = k) (hsz : 0 < k)
    (v : Value) (n : Nat) (xs : List Value) (hs : a.eval s = v) (hown : w.ownsRow 0 e k v n xs) (xv : Value) (ys : List Value) (m : Nat) (hxv : a.eval x = xv) (hx : ReadAt w xv k ys) (hm : ys.length = m * k)
    (h63 : n + m ≤ maxLen) (hbytes : (n + m) * bytes ≤ 140737488355328)
    (h : ∀ a' c' w', w'.ownsRow 0 e k (.slice a' (n + m) c') (n + m) (xs ++ ys) → w.grownBy w' v.ownBlock → ((Value.slice a' (n + m) c').ownBlock = v.ownBlock ∨ (Value.slice a' (n + m) c').ownBlock = some w.heap.size) → K (a.put o.dst (.slice a' (n + m) c')) w') :
    if Region.wanted o (yielded ops a.tmps) = true then Oper.wp P o a w K Q else E := by
  have hw : Region.wanted o (yielded ops a.tmps) = true := by simp [Region.wanted, hgd]
  rw [if_pos hw]
  exact wp_append_read w s x t ho e i z k bytes ht hi hz hsize hby hzs hsz v n xs hs hown xv ys m hxv hx hm h63 hbytes h
end

end Go.Proofs.YtlalpenfgkfkpaaGreatDoor

/- Words of eight lanes, lane by lane, in plain numbers. No program. -/
namespace Go.Proofs.YtlalpenfgkfkpaaGreatDoor
open Go.RowKit
set_option maxRecDepth 100000

/-- The word with these lanes, the lowest first. -/
def word8 : List Nat → Nat
  | [] => 0
  | b :: l => 256 * word8 l + b
/-- The set of the lanes for which the list says true. -/
def mask : List Bool → Nat
  | [] => 0
  | b :: l => 2 * mask l + b.toNat

def Bytes8 (l : List Nat) : Prop := l.length = 8 ∧ ∀ c ∈ l, c < 256

theorem op_split (f : Nat → Nat → Nat) (g : Bool → Bool → Bool) (hf : ∀ a b i, (f a b).testBit i = g (a.testBit i) (b.testBit i)) (hlt : ∀ a b, a < 2 ^ 8 → b < 2 ^ 8 → f a b < 2 ^ 8) (a b x y : Nat) (ha : a < 256) (hb : b < 256) :
    f (256 * x + a) (256 * y + b) = 256 * f x y + f a b := by
  apply Nat.eq_of_testBit_eq
  intro i
  have e : (256 : Nat) = 2 ^ 8 := rfl
  rw [hf, e, Nat.testBit_two_pow_mul_add x ha i, Nat.testBit_two_pow_mul_add y hb i, Nat.testBit_two_pow_mul_add (f x y) (hlt a b ha hb) i]
  split <;> rw [hf]
theorem word8_op (f : Nat → Nat → Nat) (g : Bool → Bool → Bool) (h00 : f 0 0 = 0) (hf : ∀ a b i, (f a b).testBit i = g (a.testBit i) (b.testBit i)) (hlt : ∀ a b, a < 2 ^ 8 → b < 2 ^ 8 → f a b < 2 ^ 8) (s t : Nat → Nat) :
    ∀ l : List Nat, (∀ c ∈ l, s c < 256) → (∀ c ∈ l, t c < 256) → f (word8 (l.map s)) (word8 (l.map t)) = word8 (l.map (fun c => f (s c) (t c)))
  | [], _, _ => h00
  | c :: l, hs, ht => by
    simp only [List.map_cons, word8]
    rw [op_split f g hf hlt _ _ _ _ (hs c (by simp)) (ht c (by simp)), word8_op f g h00 hf hlt s t l (fun c h => hs c (by simp [h])) (fun c h => ht c (by simp [h]))]
theorem word8_xor (s t : Nat → Nat) (l : List Nat) (hs : ∀ c ∈ l, s c < 256) (ht : ∀ c ∈ l, t c < 256) : word8 (l.map s) ^^^ word8 (l.map t) = word8 (l.map (fun c => s c ^^^ t c)) :=
  word8_op (· ^^^ ·) Bool.xor rfl Nat.testBit_xor (fun _ _ => Nat.xor_lt_two_pow) s t l hs ht
theorem word8_and (s t : Nat → Nat) (l : List Nat) (hs : ∀ c ∈ l, s c < 256) (ht : ∀ c ∈ l, t c < 256) : word8 (l.map s) &&& word8 (l.map t) = word8 (l.map (fun c => s c &&& t c)) :=
  word8_op (· &&& ·) and rfl Nat.testBit_and (fun a b ha _ => Nat.lt_of_le_of_lt Nat.and_le_left ha) s t l hs ht
theorem word8_or (s t : Nat → Nat) (l : List Nat) (hs : ∀ c ∈ l, s c < 256) (ht : ∀ c ∈ l, t c < 256) : word8 (l.map s) ||| word8 (l.map t) = word8 (l.map (fun c => s c ||| t c)) :=
  word8_op (· ||| ·) or rfl Nat.testBit_or (fun _ _ => Nat.or_lt_two_pow) s t l hs ht
theorem word8_add (s t : Nat → Nat) : ∀ l : List Nat, word8 (l.map s) + word8 (l.map t) = word8 (l.map (fun c => s c + t c))
  | [] => rfl
  | c :: l => by simp only [List.map_cons, word8]; rw [← word8_add s t l]; omega
theorem word8_lt : ∀ l : List Nat, (∀ c ∈ l, c < 256) → word8 l < 256 ^ l.length
  | [], _ => by simp [word8]
  | c :: l, h => by
    have h1 := word8_lt l (fun c hc => h c (by simp [hc]))
    have h2 := h c (by simp)
    simp only [word8, List.length_cons, Nat.pow_succ]
    omega
theorem Bytes8.lt {l : List Nat} (h : Bytes8 l) : word8 l < 18446744073709551616 := by have := word8_lt l h.2; rw [h.1] at this; simpa using this
theorem Bytes8.map {l : List Nat} (h : Bytes8 l) {s : Nat → Nat} (hs : ∀ c, c < 256 → s c < 256) : Bytes8 (l.map s) := ⟨by simp [h.1], fun c hc => by obtain ⟨a, ha, rfl⟩ := List.mem_map.1 hc; exact hs a (h.2 a ha)⟩
theorem word8_const (k : Nat) {l : List Nat} (h : l.length = 8) : word8 (l.map (fun _ => k)) = 72340172838076673 * k := by
  have : l.map (fun _ => k) = [k, k, k, k, k, k, k, k] := by
    rw [show (fun _ : Nat => k) = Function.const Nat k from rfl, List.map_const, h]; rfl
  rw [this]; simp only [word8]; omega
theorem Bytes8.eight {l : List Nat} (h : Bytes8 l) : ∃ a b c d e f g i, l = [a, b, c, d, e, f, g, i] := by
  obtain ⟨hl, _⟩ := h
  match l, hl with
  | [a, b, c, d, e, f, g, i], _ => exact ⟨a, b, c, d, e, f, g, i, rfl⟩
theorem eight_of {α : Type} {l : List α} (hl : l.length = 8) : ∃ a b c d e f g i, l = [a, b, c, d, e, f, g, i] := by
  match l, hl with
  | [a, b, c, d, e, f, g, i], _ => exact ⟨a, b, c, d, e, f, g, i, rfl⟩

/-! ### the two bit tricks -/
theorem trick_zero : ∀ x < 256, 255 ^^^ ((((x &&& 127) + 127) ||| x) ||| 127) = if x = 0 then 128 else 0 := by decide +kernel
theorem xor_zero {a b : Nat} (h : a ^^^ b = 0) : a = b := by
  apply Nat.eq_of_testBit_eq
  intro i
  have : (a ^^^ b).testBit i = false := by rw [h]; simp
  rw [Nat.testBit_xor] at this
  cases ha : a.testBit i <;> cases hb : b.testBit i <;> simp [ha, hb] at this <;> rfl
/-- What Match hands to gather. -/
theorem match_word {l : List Nat} (h : Bytes8 l) (b : Nat) (hb : b < 256) :
    18446744073709551615 ^^^ (((((word8 l ^^^ (72340172838076673 * b)) &&& 9187201950435737471) + 9187201950435737471) ||| (word8 l ^^^ (72340172838076673 * b))) ||| 9187201950435737471) =
      word8 (l.map (fun c => if c = b then 128 else 0)) := by
  have hx : ∀ c ∈ l, c ^^^ b < 256 := fun c hc => Nat.xor_lt_two_pow (n := 8) (h.2 c hc) hb
  have ha : ∀ c ∈ l, (c ^^^ b) &&& 127 < 128 := fun c hc => by have : (c ^^^ b) &&& 127 ≤ 127 := Nat.and_le_right; omega
  have h1 : word8 l ^^^ (72340172838076673 * b) = word8 (l.map (fun c => c ^^^ b)) := by
    have := word8_xor id (fun _ => b) l (by simpa using h.2) (fun _ _ => hb)
    rwa [word8_const b h.1, List.map_id] at this
  have k127 : (9187201950435737471 : Nat) = word8 (l.map (fun _ => 127)) := by rw [word8_const 127 h.1]
  have k255 : (18446744073709551615 : Nat) = word8 (l.map (fun _ => 255)) := by rw [word8_const 255 h.1]
  rw [h1, k127, k255, word8_and _ _ _ hx (fun _ _ => by omega), word8_add, word8_or _ _ _ (fun c hc => by have := ha c hc; omega) hx,
    word8_or _ _ _ (fun c hc => Nat.or_lt_two_pow (n := 8) (by have := ha c hc; omega) (hx c hc)) (fun _ _ => by omega),
    word8_xor _ _ _ (fun _ _ => by omega) (fun c hc => Nat.or_lt_two_pow (n := 8) (Nat.or_lt_two_pow (n := 8) (by have := ha c hc; omega) (hx c hc)) (by omega))]
  congr 1
  apply List.map_congr_left
  intro c hc
  rw [trick_zero _ (hx c hc)]
  by_cases e : c = b
  · subst e; simp
  · rw [if_neg e, if_neg (fun h => e (xor_zero h))]
theorem match_small {l : List Nat} (h : Bytes8 l) (b : Nat) (hb : b < 256) :
    (((word8 l ^^^ (72340172838076673 * b)) &&& 9187201950435737471) + 9187201950435737471) < 18446744073709551616 := by
  have : (word8 l ^^^ (72340172838076673 * b)) &&& 9187201950435737471 ≤ 9187201950435737471 := Nat.and_le_right
  omega
theorem word8_map_bool {l : List Nat} (p : Nat → Bool) : l.map (fun c => if p c then 128 else 0) = (l.map p).map (fun b => if b then 128 else 0) := by
  rw [List.map_map]; rfl
theorem gather_all : ∀ a b c d e f g i : Bool, (word8 ([a, b, c, d, e, f, g, i].map (fun b => if b then 128 else 0)) / 128 * 72624976668147840 % 18446744073709551616) / 72057594037927936 % 256 = mask [a, b, c, d, e, f, g, i] := by decide +kernel
theorem gather_mask {p : List Bool} (h : p.length = 8) : (word8 (p.map (fun b => if b then 128 else 0)) / 128 * 72624976668147840 % 18446744073709551616) / 72057594037927936 % 256 = mask p := by
  obtain ⟨a, b, c, d, e, f, g, i, rfl⟩ := eight_of h
  exact gather_all a b c d e f g i
theorem high_word {l : List Nat} (h : Bytes8 l) : word8 l &&& 9259542123273814144 = word8 (l.map (fun c => if decide (128 ≤ c) then 128 else 0)) := by
  have k : (9259542123273814144 : Nat) = word8 (l.map (fun _ => 128)) := by rw [word8_const 128 h.1]
  have := word8_and id (fun _ => 128) l (by simpa using h.2) (fun _ _ => by omega)
  rw [List.map_id] at this
  rw [k, this]
  congr 1
  apply List.map_congr_left
  intro c hc
  have : ∀ c < 256, c &&& 128 = if decide (128 ≤ c) then 128 else 0 := by decide +kernel
  exact this c (h.2 c hc)
end Go.Proofs.YtlalpenfgkfkpaaGreatDoor

/- The model's bit operations on plain numbers; sets of lanes. -/
namespace Go.Proofs.YtlalpenfgkfkpaaGreatDoor
open Go.RowKit
set_option maxRecDepth 100000

theorem u64_wrap (n : Nat) (h : n < 18446744073709551616) : IntKind.u64.wrap (n : Int) = n := by
  simp [IntKind.wrap, IntKind.signed, IntKind.bits]; omega
theorem u8_wrap (n : Nat) (h : n < 256) : IntKind.u8.wrap (n : Int) = n := by
  simp [IntKind.wrap, IntKind.signed, IntKind.bits]; omega
theorem ofInt_nat (k : Nat) (n : Nat) : BitVec.ofInt k (n : Int) = BitVec.ofNat k n := by
  apply BitVec.eq_of_toNat_eq
  simp [BitVec.toNat_ofInt]
theorem bits_xor64 (a b : Nat) (ha : a < 18446744073709551616) (hb : b < 18446744073709551616) : bits .xor .u64 (a : Int) (b : Int) = ((a ^^^ b : Nat) : Int) := by
  have h : a ^^^ b < 2 ^ 64 := Nat.xor_lt_two_pow ha hb
  show IntKind.u64.wrap (((BitVec.ofInt 64 (a : Int) ^^^ BitVec.ofInt 64 (b : Int)).toNat : Nat) : Int) = _
  rw [ofInt_nat, ofInt_nat]
  rw [BitVec.toNat_xor, BitVec.toNat_ofNat, BitVec.toNat_ofNat, Nat.mod_eq_of_lt (by omega), Nat.mod_eq_of_lt (by omega)]
  exact u64_wrap _ (by omega)
theorem bits_and64 (a b : Nat) (ha : a < 18446744073709551616) (hb : b < 18446744073709551616) : bits .and .u64 (a : Int) (b : Int) = ((a &&& b : Nat) : Int) := by
  have h : a &&& b < 2 ^ 64 := Nat.and_lt_two_pow _ hb
  show IntKind.u64.wrap (((BitVec.ofInt 64 (a : Int) &&& BitVec.ofInt 64 (b : Int)).toNat : Nat) : Int) = _
  rw [ofInt_nat, ofInt_nat]
  rw [BitVec.toNat_and, BitVec.toNat_ofNat, BitVec.toNat_ofNat, Nat.mod_eq_of_lt (by omega), Nat.mod_eq_of_lt (by omega)]
  exact u64_wrap _ (by omega)
theorem bits_or64 (a b : Nat) (ha : a < 18446744073709551616) (hb : b < 18446744073709551616) : bits .or .u64 (a : Int) (b : Int) = ((a ||| b : Nat) : Int) := by
  have h : a ||| b < 2 ^ 64 := Nat.or_lt_two_pow ha hb
  show IntKind.u64.wrap (((BitVec.ofInt 64 (a : Int) ||| BitVec.ofInt 64 (b : Int)).toNat : Nat) : Int) = _
  rw [ofInt_nat, ofInt_nat]
  rw [BitVec.toNat_or, BitVec.toNat_ofNat, BitVec.toNat_ofNat, Nat.mod_eq_of_lt (by omega), Nat.mod_eq_of_lt (by omega)]
  exact u64_wrap _ (by omega)
theorem bits_or8 (a b : Nat) (ha : a < 256) (hb : b < 256) : bits .or .u8 (a : Int) (b : Int) = ((a ||| b : Nat) : Int) := by
  have h : a ||| b < 2 ^ 8 := Nat.or_lt_two_pow ha hb
  show IntKind.u8.wrap (((BitVec.ofInt 8 (a : Int) ||| BitVec.ofInt 8 (b : Int)).toNat : Nat) : Int) = _
  rw [ofInt_nat, ofInt_nat]
  rw [BitVec.toNat_or, BitVec.toNat_ofNat, BitVec.toNat_ofNat, Nat.mod_eq_of_lt (by omega), Nat.mod_eq_of_lt (by omega)]
  exact u8_wrap _ (by omega)
theorem bits_and8 (a b : Nat) (ha : a < 256) (hb : b < 256) : bits .and .u8 (a : Int) (b : Int) = ((a &&& b : Nat) : Int) := by
  have h : a &&& b < 2 ^ 8 := Nat.and_lt_two_pow _ hb
  show IntKind.u8.wrap (((BitVec.ofInt 8 (a : Int) &&& BitVec.ofInt 8 (b : Int)).toNat : Nat) : Int) = _
  rw [ofInt_nat, ofInt_nat]
  rw [BitVec.toNat_and, BitVec.toNat_ofNat, BitVec.toNat_ofNat, Nat.mod_eq_of_lt (by omega), Nat.mod_eq_of_lt (by omega)]
  exact u8_wrap _ (by omega)
theorem bits_xor8 (a b : Nat) (ha : a < 256) (hb : b < 256) : bits .xor .u8 (a : Int) (b : Int) = ((a ^^^ b : Nat) : Int) := by
  have h : a ^^^ b < 2 ^ 8 := Nat.xor_lt_two_pow ha hb
  show IntKind.u8.wrap (((BitVec.ofInt 8 (a : Int) ^^^ BitVec.ofInt 8 (b : Int)).toNat : Nat) : Int) = _
  rw [ofInt_nat, ofInt_nat]
  rw [BitVec.toNat_xor, BitVec.toNat_ofNat, BitVec.toNat_ofNat, Nat.mod_eq_of_lt (by omega), Nat.mod_eq_of_lt (by omega)]
  exact u8_wrap _ (by omega)
theorem bits_andNot64 (a b c : Nat) (ha : a < 18446744073709551616) (hb : b < 18446744073709551616) (hc : c = 18446744073709551615 - b) : bits .andNot .u64 (a : Int) (b : Int) = ((a &&& c : Nat) : Int) := by
  subst hc
  have h : a &&& (18446744073709551615 - b) < 2 ^ 64 := Nat.lt_of_le_of_lt Nat.and_le_left ha
  show IntKind.u64.wrap (((BitVec.ofInt 64 (a : Int) &&& ~~~ BitVec.ofInt 64 (b : Int)).toNat : Nat) : Int) = _
  rw [ofInt_nat, ofInt_nat]
  rw [BitVec.toNat_and, BitVec.toNat_not, BitVec.toNat_ofNat, BitVec.toNat_ofNat, Nat.mod_eq_of_lt (a := a) (by omega), Nat.mod_eq_of_lt (a := b) (by omega)]
  exact u64_wrap _ (by simpa using h)
theorem not_u64 : (if IntKind.u64.signed = true then (-1 : Int) else IntKind.u64.max) = ((18446744073709551615 : Nat) : Int) := by decide
theorem not_u8 : (if IntKind.u8.signed = true then (-1 : Int) else IntKind.u8.max) = ((255 : Nat) : Int) := by decide

/-! ### sets of lanes -/
theorem mask_lt {p : List Bool} (h : p.length = 8) : mask p < 256 := by
  obtain ⟨a, b, c, d, e, f, g, i, rfl⟩ := eight_of h
  have : ∀ a b c d e f g i : Bool, mask [a, b, c, d, e, f, g, i] < 256 := by decide +kernel
  exact this ..
theorem mask_not {p : List Bool} (h : p.length = 8) : 255 ^^^ mask p = mask (p.map not) := by
  obtain ⟨a, b, c, d, e, f, g, i, rfl⟩ := eight_of h
  have : ∀ a b c d e f g i : Bool, 255 ^^^ mask [a, b, c, d, e, f, g, i] = mask ([a, b, c, d, e, f, g, i].map not) := by decide +kernel
  exact this ..
theorem mask_zero {p : List Bool} (h : p.length = 8) : decide (mask p = 0) = !p.any id := by
  obtain ⟨a, b, c, d, e, f, g, i, rfl⟩ := eight_of h
  have : ∀ a b c d e f g i : Bool, decide (mask [a, b, c, d, e, f, g, i] = 0) = !([a, b, c, d, e, f, g, i].any id) := by decide +kernel
  exact this ..
theorem mask_full {p : List Bool} (h : p.length = 8) : decide (mask p = 255) = p.all id := by
  obtain ⟨a, b, c, d, e, f, g, i, rfl⟩ := eight_of h
  have : ∀ a b c d e f g i : Bool, decide (mask [a, b, c, d, e, f, g, i] = 255) = ([a, b, c, d, e, f, g, i].all id) := by decide +kernel
  exact this ..
theorem mask_bit {p : List Bool} (h : p.length = 8) (j : Nat) (hj : j < 8) : mask p / 2 ^ j &&& 1 = (p.getD j false).toNat := by
  obtain ⟨a, b, c, d, e, f, g, i, rfl⟩ := eight_of h
  have : ∀ a b c d e f g i : Bool, ∀ j < 8, mask [a, b, c, d, e, f, g, i] / 2 ^ j &&& 1 = ([a, b, c, d, e, f, g, i].getD j false).toNat := by decide +kernel
  exact this _ _ _ _ _ _ _ _ j hj
theorem mask_or : ∀ (l : List Nat) (s t : Nat → Bool), mask (l.map s) ||| mask (l.map t) = mask (l.map (fun c => s c || t c))
  | [], _, _ => by simp [mask]
  | c :: l, s, t => by
    simp only [List.map_cons, mask]
    rw [← mask_or l s t]
    apply Nat.eq_of_testBit_eq
    intro i
    have hb : ∀ b : Bool, b.toNat < 2 ^ 1 := fun b => by cases b <;> decide
    have e : ∀ (x : Nat) (b : Bool), 2 * x + b.toNat = 2 ^ 1 * x + b.toNat := fun _ _ => rfl
    rw [Nat.testBit_or, e, e, e, Nat.testBit_two_pow_mul_add _ (hb _), Nat.testBit_two_pow_mul_add _ (hb _), Nat.testBit_two_pow_mul_add _ (hb _)]
    split
    · have : i = 0 := by omega
      subst this
      cases s c <;> cases t c <;> rfl
    · rw [Nat.testBit_or]

/-- The lanes of a set, in order. -/
def lanesOf (m : Nat) : List Nat := (List.range 8).filter m.testBit
/-- The first lane of a set, or 8. -/
def lane1 (m : Nat) : Nat := (lanesOf m).headD 8
theorem lanes_mask {p : List Bool} (h : p.length = 8) : lanesOf (mask p) = (List.range 8).filter (fun i => p.getD i false) := by
  obtain ⟨a, b, c, d, e, f, g, i, rfl⟩ := eight_of h
  have : ∀ a b c d e f g i : Bool, lanesOf (mask [a, b, c, d, e, f, g, i]) = (List.range 8).filter (fun j => [a, b, c, d, e, f, g, i].getD j false) := by decide +kernel
  exact this ..
theorem lanes_step : ∀ m < 256, m ≠ 0 → lanesOf m = lane1 m :: lanesOf (m &&& (m - 1)) ∧ lane1 m < 8 ∧ m &&& (m - 1) < m := by decide +kernel
theorem first_le : ∀ m < 256, lane1 m ≤ 8 := by decide +kernel
theorem lanes_zero : lanesOf 0 = [] := by decide
theorem first_mask {p : List Bool} (h : p.length = 8) : lane1 (mask p) = p.findIdx id := by
  obtain ⟨a, b, c, d, e, f, g, i, rfl⟩ := eight_of h
  have : ∀ a b c d e f g i : Bool, lane1 (mask [a, b, c, d, e, f, g, i]) = [a, b, c, d, e, f, g, i].findIdx id := by decide +kernel
  exact this ..

/-! ### one lane -/
theorem word8_range {l : List Nat} (h : l.length = 8) : word8 l = word8 ((List.range 8).map (fun i => l.getD i 0)) := by
  obtain ⟨a, b, c, d, e, f, g, i, rfl⟩ := eight_of h
  rfl
theorem keep_word : ∀ j < 8, 18446744073709551615 - 255 * 2 ^ (8 * j) = word8 ((List.range 8).map (fun i => if i = j then 0 else 255)) := by decide +kernel
theorem put_word (b : Nat) : ∀ j < 8, b * 2 ^ (8 * j) = word8 ((List.range 8).map (fun i => if i = j then b else 0)) := by
  intro j hj
  have : j = 0 ∨ j = 1 ∨ j = 2 ∨ j = 3 ∨ j = 4 ∨ j = 5 ∨ j = 6 ∨ j = 7 := by omega
  rcases this with rfl | rfl | rfl | rfl | rfl | rfl | rfl | rfl <;> simp [List.range_succ, word8] <;> omega
theorem with_word {l : List Nat} (h : Bytes8 l) (j b : Nat) (hj : j < 8) (hb : b < 256) : (word8 l &&& (18446744073709551615 - 255 * 2 ^ (8 * j))) ||| b * 2 ^ (8 * j) = word8 (l.set j b) := by
  have hg : ∀ i, l.getD i 0 < 256 := fun i => by
    rw [List.getD_eq_getElem?_getD]
    cases hi : l[i]? with
    | none => simp
    | some c => exact h.2 c (List.mem_of_getElem? hi)
  rw [keep_word j hj, put_word b j hj, word8_range h.1, word8_and _ _ _ (fun i _ => hg i) (fun i _ => by split <;> omega),
    word8_or _ _ _ (fun i _ => Nat.lt_of_le_of_lt Nat.and_le_left (hg i)) (fun i _ => by split <;> omega), word8_range (l := l.set j b) (by simp [h.1])]
  congr 1
  apply List.map_congr_left
  intro i hi
  have hi : i < 8 := by simpa using hi
  have h255 : ∀ c < 256, c &&& 255 = c := by decide +kernel
  simp only [List.getD_eq_getElem?_getD, List.getElem?_set]
  by_cases e : i = j
  · subst e; simp [h.1, hj]
  · rw [if_neg e, if_neg e, if_neg (fun x => e x.symm), Nat.or_zero, h255 _ (by have := hg i; rwa [List.getD_eq_getElem?_getD] at this)]
theorem word8_lane : ∀ (l : List Nat) (_ : ∀ c ∈ l, c < 256) (j : Nat), word8 l / 2 ^ (8 * j) % 256 = l.getD j 0
  | [], _, j => by simp [word8]
  | c :: l, h, 0 => by have := h c (by simp); simp [word8]; omega
  | c :: l, h, j + 1 => by
    have := h c (by simp)
    have e : 2 ^ (8 * (j + 1)) = 256 * 2 ^ (8 * j) := by rw [Nat.mul_add, Nat.pow_add]; omega
    rw [e, ← Nat.div_div_eq_div_mul]
    have e2 : word8 (c :: l) / 256 = word8 l := by simp only [word8]; omega
    rw [e2, word8_lane l (fun c hc => h c (by simp [hc])) j]
    rfl
end Go.Proofs.YtlalpenfgkfkpaaGreatDoor

/- Which lists are not empty, as bits of words. No program in sight. No condition. -/
namespace Go.Proofs.YtlalpenfgkfkpaaGreatDoor
/-- The word of n bits of which bit j says f (64 k + j). -/
def wd (f : Nat → Bool) (k : Nat) : Nat → Nat
  | 0 => 0
  | n + 1 => (if f (64 * k + n) then 2 ^ n else 0) + wd f k n
theorem wd_lt (f : Nat → Bool) (k : Nat) : ∀ n, wd f k n < 2 ^ n
  | 0 => by simp [wd]
  | n + 1 => by
    have := wd_lt f k n
    unfold wd
    rw [Nat.pow_succ]
    split <;> omega
theorem wd_bit (f : Nat → Bool) (k : Nat) : ∀ n j, (wd f k n).testBit j = (decide (j < n) && f (64 * k + j))
  | 0, j => by simp [wd]
  | n + 1, j => by
    have h1 := wd_lt f k n
    have h2 := wd_bit f k n j
    unfold wd
    by_cases hf : f (64 * k + n) = true
    · rw [if_pos hf]
      have e := Nat.testBit_two_pow_mul_add 1 h1 j
      rw [Nat.mul_one] at e
      rw [e, h2]
      by_cases hj : j < n
      · rw [if_pos hj]
        have : decide (j < n + 1) = true := decide_eq_true (by omega)
        simp [hj, this]
      · rw [if_neg hj]
        by_cases e2 : j = n
        · subst e2; simp [hf]
        · have h3 : ¬ j < n + 1 := by omega
          have h5 : Nat.testBit 1 (j - n) = false := by
            cases hm : j - n with
            | zero => omega
            | succ m => rw [Nat.testBit_succ]; simp
          rw [h5]
          simp [h3]
    · rw [if_neg hf, Nat.zero_add, h2]
      rw [Bool.not_eq_true] at hf
      by_cases hj : j < n
      · have : j < n + 1 := by omega
        simp [hj, this]
      · by_cases e2 : j = n
        · subst e2; simp [hf]
        · have : ¬ j < n + 1 := by omega
          simp [hj, this]
def wd64 (f : Nat → Bool) (k : Nat) : Nat := wd f k 64
theorem wd64_bit (f : Nat → Bool) (k j : Nat) : (wd64 f k).testBit j = (decide (j < 64) && f (64 * k + j)) := wd_bit f k 64 j
theorem wd64_lt (f : Nat → Bool) (k : Nat) : wd64 f k < 18446744073709551616 := wd_lt f k 64
theorem wd64_congr {f g : Nat → Bool} {k : Nat} (h : ∀ j, j < 64 → f (64 * k + j) = g (64 * k + j)) : wd64 f k = wd64 g k := by
  apply Nat.eq_of_testBit_eq
  intro j
  rw [wd64_bit, wd64_bit]
  by_cases hj : j < 64
  · rw [h j hj]
  · simp [hj]
def setB (f : Nat → Bool) (b : Nat) (v : Bool) : Nat → Bool := fun x => if x = b then v else f x
theorem wd_set {f : Nat → Bool} {b : Nat} : wd64 f (b / 64) ||| 2 ^ (b % 64) = wd64 (setB f b true) (b / 64) := by
  apply Nat.eq_of_testBit_eq
  intro j
  rw [Nat.testBit_or, wd64_bit, wd64_bit, Nat.testBit_two_pow]
  unfold setB
  by_cases hj : j < 64
  · by_cases e : b % 64 = j
    · have : 64 * (b / 64) + j = b := by omega
      simp [hj, e, this]
    · have : 64 * (b / 64) + j ≠ b := by omega
      simp [hj, e, this]
  · have : b % 64 ≠ j := by omega
    simp [hj, this]
theorem wd_clear {f : Nat → Bool} {b : Nat} : wd64 f (b / 64) &&& (18446744073709551615 - 2 ^ (b % 64)) = wd64 (setB f b false) (b / 64) := by
  apply Nat.eq_of_testBit_eq
  intro j
  have hlt : 2 ^ (b % 64) < 2 ^ 64 := Nat.pow_lt_pow_right (by decide) (by omega)
  have e1 : 18446744073709551615 - 2 ^ (b % 64) = 2 ^ 64 - (2 ^ (b % 64) + 1) := by omega
  rw [Nat.testBit_and, wd64_bit, wd64_bit, e1, Nat.testBit_two_pow_sub_succ hlt, Nat.testBit_two_pow]
  unfold setB
  by_cases hj : j < 64
  · by_cases e : b % 64 = j
    · have : 64 * (b / 64) + j = b := by omega
      simp [hj, e, this]
    · have : 64 * (b / 64) + j ≠ b := by omega
      simp [hj, e, this]
  · simp [hj]
theorem wd_other {f : Nat → Bool} {b k : Nat} {v : Bool} (h : k ≠ b / 64) : wd64 (setB f b v) k = wd64 f k :=
  wd64_congr (fun j hj => by unfold setB; rw [if_neg (by omega)])
theorem wd_zero {f : Nat → Bool} {k : Nat} : wd64 f k = 0 ↔ ∀ j, j < 64 → f (64 * k + j) = false := by
  constructor
  · intro h j hj
    have := wd64_bit f k j
    rw [h] at this
    simp [hj] at this
    exact this
  · intro h
    apply Nat.eq_of_testBit_eq
    intro j
    rw [wd64_bit]
    by_cases hj : j < 64
    · rw [h j hj]; simp
    · simp [hj]
/-- The least one of the first n of which f holds. -/
def firstB (f : Nat → Bool) (n : Nat) : Option Nat := (List.range n).find? f
theorem firstB_none {f : Nat → Bool} {n : Nat} (h : ∀ j, j < n → f j = false) : firstB f n = none := by
  unfold firstB
  rw [List.find?_eq_none]
  intro x hx
  rw [h x (List.mem_range.1 hx)]
  decide
theorem firstB_some {f : Nat → Bool} {n b : Nat} (hb : b < n) (h1 : f b = true) (h2 : ∀ j, j < b → f j = false) : firstB f n = some b := by
  unfold firstB
  rw [List.find?_range_eq_some]
  exact ⟨h1, List.mem_range.2 hb, fun j hj => by rw [h2 j hj]; decide⟩
end Go.Proofs.YtlalpenfgkfkpaaGreatDoor

/- Rings of nodes: what becomes of the lists where a node is put in or taken out. No program in sight. No condition. -/
namespace Go.Proofs.YtlalpenfgkfkpaaGreatDoor
/-- A node: the one before it, the one behind it, one more than its list. -/
structure Nd where
  pv : Nat
  nx : Nat
  ow : Nat
abbrev ndZ : Nd := ⟨0, 0, 0⟩
def nd (F : List Nd) (i : Nat) : Nd := (F[i]?).getD ndZ
theorem nd_some {F : List Nd} {i : Nat} (h : i < F.length) : F[i]? = some (nd F i) := by unfold nd; rw [List.getElem?_eq_getElem h]; rfl
theorem nd_set {F : List Nd} {i : Nat} (h : i < F.length) (v : Nd) (j : Nat) : nd (F.set i v) j = if j = i then v else nd F j := by
  unfold nd
  by_cases e : i = j
  · subst e; rw [if_pos rfl, List.getElem?_set_self h]; rfl
  · rw [if_neg (fun c => e c.symm), List.getElem?_set_ne e]
/-- From a through l: each one is behind the one before it. -/
def Ch (F : List Nd) : Nat → List Nat → Prop
  | _, [] => True
  | a, x :: l => (nd F a).nx = x ∧ (nd F x).pv = a ∧ Ch F x l
theorem Ch_append {F : List Nd} : ∀ {l1 : List Nat} {a : Nat} {l2 : List Nat}, Ch F a (l1 ++ l2) ↔ Ch F a l1 ∧ Ch F (l1.getLastD a) l2
  | [], a, l2 => by simp [Ch]
  | x :: l1, a, l2 => by
    have := @Ch_append F l1 x l2
    simp only [List.cons_append, Ch, this, List.getLastD_cons, and_assoc]
theorem Ch_frame {F F' : List Nd} : ∀ {l : List Nat} {a : Nat}, Ch F a l → (∀ i ∈ (a :: l).dropLast, (nd F' i).nx = (nd F i).nx) → (∀ i ∈ l, (nd F' i).pv = (nd F i).pv) → Ch F' a l
  | [], _, _, _, _ => trivial
  | x :: l, a, ⟨h1, h2, h3⟩, hn, hp => by
    refine ⟨by rw [hn a (by simp), h1], by rw [hp x (by simp), h2], Ch_frame h3 (fun i hi => hn i ?_) (fun i hi => hp i (List.mem_cons_of_mem _ hi))⟩
    rw [List.dropLast_cons_of_ne_nil (by simp)]
    exact List.mem_cons_of_mem _ hi
theorem Ch_mem {F : List Nd} : ∀ {l : List Nat} {a : Nat}, Ch F a l → ∀ x ∈ l, (nd F (nd F x).pv).nx = x ∧ ((nd F x).pv = a ∨ (nd F x).pv ∈ l.dropLast)
  | [], _, _, x, hx => by cases hx
  | y :: l, a, ⟨h1, h2, h3⟩, x, hx => by
    rcases List.mem_cons.1 hx with rfl | hx
    · exact ⟨by rw [h2, h1], .inl h2⟩
    · obtain ⟨e1, e2⟩ := Ch_mem h3 x hx
      refine ⟨e1, .inr ?_⟩
      have hne : l ≠ [] := by rintro rfl; cases hx
      rw [List.dropLast_cons_of_ne_nil hne]
      rcases e2 with e2 | e2
      · rw [e2]; exact List.mem_cons_self
      · exact List.mem_cons_of_mem _ e2
/-- The ring of the node r: l, and back to r. -/
def Ring (F : List Nd) (r : Nat) (l : List Nat) : Prop := Ch F r (l ++ [r])

/-! ### a node is put before another -/
/-- The nodes behind links.put(n, o). -/
def putF (F : List Nd) (n o : Nat) : List Nd :=
  ((F.set n ⟨(nd F o).pv, o, (nd F o).ow⟩).set (nd F o).pv ⟨(nd (F.set n ⟨(nd F o).pv, o, (nd F o).ow⟩) (nd F o).pv).pv, n, (nd (F.set n ⟨(nd F o).pv, o, (nd F o).ow⟩) (nd F o).pv).ow⟩).set o
    ⟨n, (nd ((F.set n ⟨(nd F o).pv, o, (nd F o).ow⟩).set (nd F o).pv ⟨(nd (F.set n ⟨(nd F o).pv, o, (nd F o).ow⟩) (nd F o).pv).pv, n, (nd (F.set n ⟨(nd F o).pv, o, (nd F o).ow⟩) (nd F o).pv).ow⟩) o).nx,
      (nd ((F.set n ⟨(nd F o).pv, o, (nd F o).ow⟩).set (nd F o).pv ⟨(nd (F.set n ⟨(nd F o).pv, o, (nd F o).ow⟩) (nd F o).pv).pv, n, (nd (F.set n ⟨(nd F o).pv, o, (nd F o).ow⟩) (nd F o).pv).ow⟩) o).ow⟩
theorem putF_length (F : List Nd) (n o : Nat) : (putF F n o).length = F.length := by simp [putF]
theorem putF_nd {F : List Nd} {n o : Nat} (hn : n < F.length) (ho : o < F.length) (hb : (nd F o).pv < F.length) (h1 : (nd F o).pv ≠ n) (h2 : o ≠ n) (i : Nat) :
    (nd (putF F n o) i).nx = (if i = (nd F o).pv then n else if i = n then o else (nd F i).nx) ∧ (nd (putF F n o) i).pv = (if i = o then n else if i = n then (nd F o).pv else (nd F i).pv) ∧ (nd (putF F n o) i).ow = (if i = n then (nd F o).ow else (nd F i).ow) := by
  unfold putF
  generalize hbb : (nd F o).pv = b at *
  generalize hw : (nd F o).ow = wo at *
  have e1 : ∀ j, nd (F.set n ⟨b, o, wo⟩) j = if j = n then ⟨b, o, wo⟩ else nd F j := fun j => nd_set hn _ j
  generalize hF1 : F.set n ⟨b, o, wo⟩ = F1 at *
  have l1 : F1.length = F.length := by rw [← hF1]; simp
  have e2 : ∀ j, nd (F1.set b ⟨(nd F1 b).pv, n, (nd F1 b).ow⟩) j = if j = b then ⟨(nd F1 b).pv, n, (nd F1 b).ow⟩ else nd F1 j := fun j => nd_set (by omega) _ j
  generalize hF2 : F1.set b ⟨(nd F1 b).pv, n, (nd F1 b).ow⟩ = F2 at *
  have l2 : F2.length = F.length := by rw [← hF2]; simpa using l1
  rw [nd_set (by omega) _ i]
  by_cases c1 : i = o
  · subst c1
    rw [if_pos rfl]
    simp only [e2, e1, if_neg h2, if_pos]
    by_cases c2 : i = b
    · subst c2; simp [e1, h2]
    · simp [c2, h2]
  · rw [if_neg c1]
    simp only [e2, e1]
    by_cases c2 : i = b
    · subst c2; simp [h1, c1]
    · by_cases c3 : i = n
      · subst c3; simp [c2, c1]
      · simp [c2, c3, c1]
theorem mem_dropLast_ne {l : List Nat} {z : Nat} (hnd : l.Nodup) (hz : l.getLast? = some z) : ∀ i ∈ l.dropLast, i ≠ z := by
  intro i hi e
  subst e
  have hne : l ≠ [] := by rintro rfl; cases hz
  have : l = l.dropLast ++ [i] := by
    have h := List.dropLast_concat_getLast hne
    rw [List.getLast?_eq_some_getLast hne] at hz
    injection hz with hz
    rw [hz] at h
    exact h.symm
  rw [this] at hnd
  rw [List.nodup_append] at hnd
  exact hnd.2.2 i hi i (by simp) rfl
theorem getLast_cons_D (r : Nat) (l : List Nat) : (r :: l).getLast? = some (l.getLastD r) := by
  rw [List.getLast?_cons]
  rw [List.getLastD_eq_getLast?]
theorem ring_put {F F' : List Nd} {r n o z : Nat} {l1 l2 : List Nat} (h : Ring F r (l1 ++ l2)) (hnd : (r :: (l1 ++ l2)).Nodup) (hn : n ∉ r :: (l1 ++ l2)) (ho : (l2 ++ [r]).head? = some o) (hz : l1.getLastD r = z)
    (hx : ∀ i, (nd F' i).nx = (if i = z then n else if i = n then o else (nd F i).nx)) (hp : ∀ i, (nd F' i).pv = (if i = o then n else if i = n then z else (nd F i).pv)) : Ring F' r (l1 ++ n :: l2) := by
  unfold Ring at *
  rw [List.append_assoc, Ch_append, hz] at h
  rw [List.append_assoc, Ch_append, hz]
  obtain ⟨g1, g2⟩ := h
  have hnz : n ≠ z := by
    rintro rfl
    refine hn ?_
    have hm := List.mem_of_getLast? ((getLast_cons_D r l1).trans (congrArg some hz))
    rcases List.mem_cons.1 hm with e | e
    · rw [e]; exact List.mem_cons_self
    · exact List.mem_cons_of_mem _ (List.mem_append_left _ e)
  have hor : o ∈ l2 ++ [r] := List.mem_of_head? ho
  have hno : n ≠ o := by
    rintro rfl
    refine hn ?_
    rcases List.mem_append.1 hor with e | e
    · exact List.mem_cons_of_mem _ (List.mem_append_right _ e)
    · rw [List.mem_singleton.1 e]; exact List.mem_cons_self
  have hnd1 : (r :: l1).Nodup := by
    have : (r :: l1).Sublist (r :: (l1 ++ l2)) := (List.sublist_append_left _ _).cons_cons _
    exact hnd.sublist this
  have hl1 : ∀ i ∈ l1, i ≠ o ∧ i ≠ n := fun i hi => by
    refine ⟨?_, fun e => hn (by subst e; exact List.mem_cons_of_mem _ (List.mem_append_left _ hi))⟩
    rintro rfl
    rw [List.nodup_cons, List.nodup_append] at hnd
    rcases List.mem_append.1 hor with e | e
    · exact hnd.2.2.2 i hi i e rfl
    · rw [List.mem_singleton.1 e] at hi
      exact hnd.1 (List.mem_append_left _ hi)
  refine ⟨Ch_frame g1 (fun i hi => ?_) (fun i hi => ?_), by rw [hx, if_pos rfl], ?_, ?_⟩
  · rw [hx, if_neg (mem_dropLast_ne hnd1 ((getLast_cons_D r l1).trans (congrArg some hz)) i hi), if_neg]
    rintro rfl
    rcases List.mem_cons.1 ((List.dropLast_sublist _).subset hi) with e | e
    · exact hn (by rw [e]; exact List.mem_cons_self)
    · exact (hl1 _ e).2 rfl
  · rw [hp, if_neg (hl1 i hi).1, if_neg (hl1 i hi).2]
  · rw [hp, if_neg hno, if_pos rfl]
  · obtain ⟨rest, hrest⟩ : ∃ rest, l2 ++ [r] = o :: rest := by
      cases hl : l2 ++ [r] with
      | nil => simp at hl
      | cons y rest => rw [hl] at ho; simp at ho; exact ⟨rest, by rw [ho]⟩
    show Ch F' n (l2 ++ [r])
    rw [hrest] at g2 ⊢
    obtain ⟨q1, q2, q3⟩ := g2
    have hnd2 : (o :: rest).Nodup := by
      rw [← hrest]
      rw [List.nodup_cons, List.nodup_append] at hnd
      rw [List.nodup_append]
      exact ⟨hnd.2.2.1, by simp, fun a ha b hb => by rw [List.mem_singleton.1 hb]; rintro rfl; exact hnd.1 (List.mem_append_right _ ha)⟩
    refine ⟨by rw [hx, if_neg hnz, if_pos rfl], by rw [hp, if_pos rfl], Ch_frame q3 (fun i hi => ?_) (fun i hi => ?_)⟩
    · have hi2 : i ∈ l2 := by
        have : (o :: rest).dropLast = l2 := by rw [← hrest]; simp
        rw [← this]; exact hi
      have hiz : i ≠ z := by
        rintro rfl
        rw [List.nodup_cons, List.nodup_append] at hnd
        have hm := List.mem_of_getLast? ((getLast_cons_D r l1).trans (congrArg some hz))
        rcases List.mem_cons.1 hm with e | e
        · exact hnd.1 (by rw [← e]; exact List.mem_append_right _ hi2)
        · exact hnd.2.2.2 i e i hi2 rfl
      rw [hx, if_neg hiz, if_neg]
      rintro rfl
      exact hn (List.mem_cons_of_mem _ (List.mem_append_right _ hi2))
    · rw [hp, if_neg, if_neg]
      · rintro rfl
        have : i ∈ l2 ++ [r] := by rw [hrest]; exact List.mem_cons_of_mem _ hi
        rcases List.mem_append.1 this with e | e
        · exact hn (List.mem_cons_of_mem _ (List.mem_append_right _ e))
        · exact hn (by rw [List.mem_singleton.1 e]; exact List.mem_cons_self)
      · rintro rfl
        exact (List.nodup_cons.1 hnd2).1 hi

/-! ### a node is taken out -/
/-- The nodes behind links.Remove(n). -/
def cutF (F : List Nd) (n : Nat) : List Nd :=
  ((F.set (nd F n).pv ⟨(nd F (nd F n).pv).pv, (nd F n).nx, (nd F (nd F n).pv).ow⟩).set (nd F n).nx
    ⟨(nd F n).pv, (nd (F.set (nd F n).pv ⟨(nd F (nd F n).pv).pv, (nd F n).nx, (nd F (nd F n).pv).ow⟩) (nd F n).nx).nx, (nd (F.set (nd F n).pv ⟨(nd F (nd F n).pv).pv, (nd F n).nx, (nd F (nd F n).pv).ow⟩) (nd F n).nx).ow⟩).set n ndZ
theorem cutF_length (F : List Nd) (n : Nat) : (cutF F n).length = F.length := by simp [cutF]
theorem cutF_nd {F : List Nd} {n : Nat} (hn : n < F.length) (ha : (nd F n).pv < F.length) (hb : (nd F n).nx < F.length) (h1 : (nd F n).pv ≠ n) (h2 : (nd F n).nx ≠ n) (i : Nat) :
    (i ≠ n → (nd (cutF F n) i).nx = (if i = (nd F n).pv then (nd F n).nx else (nd F i).nx) ∧ (nd (cutF F n) i).pv = (if i = (nd F n).nx then (nd F n).pv else (nd F i).pv) ∧ (nd (cutF F n) i).ow = (nd F i).ow) ∧ (i = n → nd (cutF F n) i = ndZ) := by
  unfold cutF
  generalize hbb : (nd F n).pv = a at *
  generalize hw : (nd F n).nx = b at *
  have e1 : ∀ j, nd (F.set a ⟨(nd F a).pv, b, (nd F a).ow⟩) j = if j = a then ⟨(nd F a).pv, b, (nd F a).ow⟩ else nd F j := fun j => nd_set ha _ j
  generalize hF1 : F.set a ⟨(nd F a).pv, b, (nd F a).ow⟩ = F1 at *
  have l1 : F1.length = F.length := by rw [← hF1]; simp
  have e2 : ∀ j, nd (F1.set b ⟨a, (nd F1 b).nx, (nd F1 b).ow⟩) j = if j = b then ⟨a, (nd F1 b).nx, (nd F1 b).ow⟩ else nd F1 j := fun j => nd_set (by omega) _ j
  generalize hF2 : F1.set b ⟨a, (nd F1 b).nx, (nd F1 b).ow⟩ = F2 at *
  have l2 : F2.length = F.length := by rw [← hF2]; simpa using l1
  rw [nd_set (by omega) _ i]
  refine ⟨fun c => ?_, fun c => by rw [if_pos c]⟩
  rw [if_neg c]
  simp only [e2, e1]
  by_cases c1 : i = b
  · subst c1
    by_cases c2 : i = a
    · subst c2; simp
    · simp [c2]
  · by_cases c2 : i = a
    · subst c2; simp [c1]
    · simp [c1, c2]
theorem ring_cut {F F' : List Nd} {r n : Nat} {l1 l2 : List Nat} (h : Ring F r (l1 ++ n :: l2)) (hnd : (r :: (l1 ++ n :: l2)).Nodup)
    (hx : ∀ i, i ≠ n → (nd F' i).nx = (if i = (nd F n).pv then (nd F n).nx else (nd F i).nx)) (hp : ∀ i, i ≠ n → (nd F' i).pv = (if i = (nd F n).nx then (nd F n).pv else (nd F i).pv)) : Ring F' r (l1 ++ l2) := by
  unfold Ring at *
  rw [List.append_assoc, Ch_append] at h
  rw [List.append_assoc, Ch_append]
  obtain ⟨g1, g2, g3, g4⟩ := h
  generalize hz : l1.getLastD r = z at *
  have g4' : Ch F n (l2 ++ [r]) := g4
  clear g4
  obtain ⟨o, rest, hrest⟩ : ∃ o rest, l2 ++ [r] = o :: rest := by
    cases hl : l2 ++ [r] with
    | nil => simp at hl
    | cons y rest => exact ⟨y, rest, rfl⟩
  rw [hrest] at g4' ⊢
  obtain ⟨q1, q2, q3⟩ := g4'
  rw [g3, q1] at hx hp
  rw [List.nodup_cons, List.nodup_append, List.nodup_cons] at hnd
  obtain ⟨m1, m2, ⟨m3, m4⟩, m5⟩ := hnd
  have hzm : z = r ∨ z ∈ l1 := List.mem_cons.1 (List.mem_of_getLast? ((getLast_cons_D r l1).trans (congrArg some hz)))
  have hom : o ∈ l2 ∨ o = r := by
    have : o ∈ l2 ++ [r] := by rw [hrest]; exact List.mem_cons_self
    rcases List.mem_append.1 this with e | e
    · exact .inl e
    · exact .inr (List.mem_singleton.1 e)
  have hrn : r ≠ n := fun e => m1 (by rw [e]; simp)
  have hl1n : ∀ i ∈ l1, i ≠ n := fun i hi e => m5 i hi n (by simp) e
  have hzn : z ≠ n := by
    rcases hzm with e | e
    · rw [e]; exact hrn
    · exact hl1n z e
  have hl2n : ∀ i ∈ l2, i ≠ n := fun i hi e => m3 (by rw [← e]; exact hi)
  have hon : o ≠ n := by
    rcases hom with e | e
    · exact hl2n o e
    · rw [e]; exact hrn
  have hnd1 : (r :: l1).Nodup := by rw [List.nodup_cons]; exact ⟨fun e => m1 (List.mem_append_left _ e), m2⟩
  refine ⟨Ch_frame g1 (fun i hi => ?_) (fun i hi => ?_), by rw [hx z hzn, if_pos rfl], by rw [hp o hon, if_pos rfl], Ch_frame q3 (fun i hi => ?_) (fun i hi => ?_)⟩
  · have hin : i ≠ n := by
      rcases List.mem_cons.1 ((List.dropLast_sublist _).subset hi) with e | e
      · rw [e]; exact hrn
      · exact hl1n i e
    rw [hx i hin, if_neg (mem_dropLast_ne hnd1 ((getLast_cons_D r l1).trans (congrArg some hz)) i hi)]
  · rw [hp i (hl1n i hi), if_neg]
    rintro rfl
    rcases hom with e | e
    · exact m5 i hi i (List.mem_cons_of_mem _ e) rfl
    · exact m1 (List.mem_append_left _ (by rw [← e]; exact hi))
  · have hi2 : i ∈ l2 := by
      have : (o :: rest).dropLast = l2 := by rw [← hrest]; simp
      rw [← this]; exact hi
    rw [hx i (hl2n i hi2), if_neg]
    rintro rfl
    rcases hzm with e | e
    · exact m1 (by rw [← e]; exact List.mem_append_right _ (List.mem_cons_of_mem _ hi2))
    · exact m5 i e i (List.mem_cons_of_mem _ hi2) rfl
  · have hi2 : i ∈ l2 ∨ i = r := by
      have : i ∈ l2 ++ [r] := by rw [hrest]; exact List.mem_cons_of_mem _ hi
      rcases List.mem_append.1 this with e | e
      · exact .inl e
      · exact .inr (List.mem_singleton.1 e)
    have hin : i ≠ n := by
      rcases hi2 with e | e
      · exact hl2n i e
      · rw [e]; exact hrn
    have hnd2 : (o :: rest).Nodup := by
      rw [← hrest, List.nodup_append]
      exact ⟨m4, by simp, fun a ha b hb => by rw [List.mem_singleton.1 hb]; rintro rfl; exact m1 (List.mem_append_right _ (List.mem_cons_of_mem _ ha))⟩
    rw [hp i hin, if_neg]
    rintro rfl
    exact (List.nodup_cons.1 hnd2).1 hi
end Go.Proofs.YtlalpenfgkfkpaaGreatDoor

/- A field of nodes that holds lists: what put and Remove do to it. No program in sight. No condition. -/
namespace Go.Proofs.YtlalpenfgkfkpaaGreatDoor
/-- The field F of N nodes and one for each of the lists Ls. -/
structure LkOk (N : Nat) (Ls : List (List Nat)) (F : List Nd) : Prop where
  len : F.length = N + Ls.length
  ring : ∀ (h : Nat) (l : List Nat), Ls[h]? = some l → Ring F (N + h) l
  nodup : ∀ (h : Nat) (l : List Nat), Ls[h]? = some l → l.Nodup
  own : ∀ (h : Nat) (l : List Nat), Ls[h]? = some l → ∀ a ∈ l, a < N ∧ (nd F a).ow = h + 1
  head : ∀ h, h < Ls.length → (nd F (N + h)).ow = h + 1
  free : ∀ a, a < N → (nd F a).ow ≠ 0 → ∃ (h : Nat) (l : List Nat), Ls[h]? = some l ∧ a ∈ l ∧ (nd F a).ow = h + 1
section
variable {N : Nat} {Ls : List (List Nat)} {F : List Nd}
theorem LkOk.hd_lt (h : LkOk N Ls F) {k : Nat} (hk : k < Ls.length) : N + k < F.length := by rw [h.len]; omega
theorem LkOk.cons_nodup (h : LkOk N Ls F) {k : Nat} {l : List Nat} (hl : Ls[k]? = some l) : ((N + k) :: l).Nodup := by
  rw [List.nodup_cons]
  exact ⟨fun e => by have := (h.own k l hl _ e).1; omega, h.nodup k l hl⟩
theorem LkOk.mem_lt (h : LkOk N Ls F) {k : Nat} {l : List Nat} (hl : Ls[k]? = some l) : ∀ a ∈ l ++ [N + k], a < F.length ∧ (nd F a).ow = k + 1 := fun a ha => by
  have hk := (List.getElem?_eq_some_iff.1 hl).1
  rcases List.mem_append.1 ha with e | e
  · exact ⟨by have := (h.own k l hl a e).1; rw [h.len]; omega, (h.own k l hl a e).2⟩
  · rw [List.mem_singleton.1 e]; exact ⟨h.hd_lt hk, h.head k hk⟩
/-- The node before one of a ring's. -/
theorem LkOk.pv (h : LkOk N Ls F) {k : Nat} {l : List Nat} (hl : Ls[k]? = some l) {a : Nat} (ha : a ∈ l ++ [N + k]) : (nd F a).pv ∈ l ++ [N + k] ∧ (nd F (nd F a).pv).nx = a := by
  obtain ⟨e1, e2⟩ := Ch_mem (h.ring k l hl) a ha
  refine ⟨?_, e1⟩
  rcases e2 with e2 | e2
  · rw [e2]; simp
  · simp at e2; exact List.mem_append_left _ e2
theorem LkOk.not_of (h : LkOk N Ls F) {n : Nat} (hn : n < N) (hf : (nd F n).ow = 0) {k : Nat} {l : List Nat} (hl : Ls[k]? = some l) : n ∉ (N + k) :: l := fun e => by
  rcases List.mem_cons.1 e with e | e
  · omega
  · have := (h.own k l hl n e).2; omega
theorem Ring.frame {F F' : List Nd} {r : Nat} {l : List Nat} (h : Ring F r l) (he : ∀ i ∈ r :: l, nd F' i = nd F i) : Ring F' r l := by
  refine Ch_frame h (fun i hi => ?_) (fun i hi => ?_)
  · have : i ∈ r :: l := by
      rw [← List.cons_append, List.dropLast_concat] at hi
      exact hi
    rw [he i this]
  · rw [he i (by rcases List.mem_append.1 hi with e | e; exact List.mem_cons_of_mem _ e; rw [List.mem_singleton.1 e]; exact List.mem_cons_self)]
theorem nodup_bound : ∀ {N : Nat} {l : List Nat}, l.Nodup → (∀ a ∈ l, a < N) → l.length ≤ N
  | 0, l, _, h => by
    cases l with
    | nil => simp
    | cons a l => exact absurd (h a (by simp)) (by omega)
  | N + 1, l, hn, h => by
    have h1 := nodup_bound (N := N) (l := l.erase N) (hn.erase N) (fun a ha => by
      have h2 := h a (List.mem_of_mem_erase ha)
      have h3 : a ≠ N := fun e => by subst e; exact (List.Nodup.not_mem_erase hn) ha
      omega)
    have h2 := List.length_erase (a := N) (l := l)
    split at h2 <;> omega
theorem LkOk.short (h : LkOk N Ls F) {k : Nat} {l : List Nat} (hl : Ls[k]? = some l) : l.length ≤ N := nodup_bound (h.nodup k l hl) (fun a ha => (h.own k l hl a ha).1)
/-- A node of no list is put before a node of list k. -/
theorem LkOk.put (h : LkOk N Ls F) {n : Nat} (hn : n < N) (hf : (nd F n).ow = 0) {k : Nat} {l1 l2 : List Nat} (hl : Ls[k]? = some (l1 ++ l2)) {o : Nat} (ho : (l2 ++ [N + k]).head? = some o) :
    LkOk N (Ls.set k (l1 ++ n :: l2)) (putF F n o) ∧ (nd F o).ow = k + 1 ∧ o < F.length ∧ (nd F o).pv < F.length ∧ (nd F o).pv ≠ n ∧ o ≠ n := by
  have hk := (List.getElem?_eq_some_iff.1 hl).1
  have hom : o ∈ (l1 ++ l2) ++ [N + k] := by rw [List.append_assoc]; exact List.mem_append_right _ (List.mem_of_head? ho)
  obtain ⟨ho1, ho2⟩ := h.mem_lt hl o hom
  obtain ⟨hb1, hb2⟩ := h.pv hl hom
  obtain ⟨hb3, hb4⟩ := h.mem_lt hl _ hb1
  have hbn : (nd F o).pv ≠ n := fun e => by rw [e] at hb4; omega
  have hon : o ≠ n := fun e => by rw [e] at ho2; omega
  have hnF : n < F.length := by rw [h.len]; omega
  have E := fun i => putF_nd hnF ho1 hb3 hbn hon i
  have hz : l1.getLastD (N + k) = (nd F o).pv := by
    have hr := h.ring k _ hl
    unfold Ring at hr
    rw [List.append_assoc, Ch_append] at hr
    obtain ⟨_, g2⟩ := hr
    cases hl2 : l2 ++ [N + k] with
    | nil => simp at hl2
    | cons y rest =>
      rw [hl2] at g2 ho
      simp at ho
      subst ho
      exact g2.2.1.symm
  have hnot := h.not_of hn hf hl
  refine ⟨⟨by rw [putF_length, List.length_set]; exact h.len, fun j l hj => ?_, fun j l hj => ?_, fun j l hj a ha => ?_, fun j hj => ?_, fun a ha haw => ?_⟩, ho2, ho1, hb3, hbn, hon⟩
  · by_cases e : k = j
    · subst e
      rw [List.getElem?_set_self hk] at hj
      cases hj
      exact ring_put (h.ring k _ hl) (h.cons_nodup hl) hnot ho hz (fun i => (E i).1) (fun i => (E i).2.1)
    · rw [List.getElem?_set_ne e] at hj
      refine (h.ring j l hj).frame (fun i hi => ?_)
      have hi' : i ∈ l ++ [N + j] := by
        rcases List.mem_cons.1 hi with e | e
        · rw [e]; simp
        · exact List.mem_append_left _ e
      have hio := (h.mem_lt hj i hi').2
      have i1 : i ≠ (nd F o).pv := fun c => by rw [c, hb4] at hio; omega
      have i2 : i ≠ o := fun c => by rw [c, ho2] at hio; omega
      have i3 : i ≠ n := fun c => by rw [c] at hio; omega
      obtain ⟨e1, e2, e3⟩ := E i
      rw [if_neg i1, if_neg i3] at e1
      rw [if_neg i2, if_neg i3] at e2
      rw [if_neg i3] at e3
      cases hh : nd (putF F n o) i; cases hh2 : nd F i
      rw [hh, hh2] at e1 e2 e3
      simp only at e1 e2 e3
      rw [e1, e2, e3]
  · by_cases e : k = j
    · subst e
      rw [List.getElem?_set_self hk] at hj
      cases hj
      have := h.nodup k _ hl
      rw [List.nodup_append] at this ⊢
      obtain ⟨a1, a2, a3⟩ := this
      rw [List.nodup_cons]
      refine ⟨a1, ⟨fun c => hnot (List.mem_cons_of_mem _ (List.mem_append_right _ c)), a2⟩, fun x hx y hy => ?_⟩
      rcases List.mem_cons.1 hy with e | e
      · rintro rfl; exact hnot (by rw [← e]; exact List.mem_cons_of_mem _ (List.mem_append_left _ hx))
      · exact a3 x hx y e
    · rw [List.getElem?_set_ne e] at hj
      exact h.nodup j l hj
  · rw [(E a).2.2]
    by_cases e : k = j
    · subst e
      rw [List.getElem?_set_self hk] at hj
      cases hj
      by_cases c : a = n
      · rw [if_pos c, ho2]; exact ⟨by omega, rfl⟩
      · rw [if_neg c]
        refine h.own k _ hl a ?_
        rcases List.mem_append.1 ha with e | e
        · exact List.mem_append_left _ e
        · rcases List.mem_cons.1 e with e | e
          · exact absurd e c
          · exact List.mem_append_right _ e
    · rw [List.getElem?_set_ne e] at hj
      have := h.own j l hj a ha
      rw [if_neg (fun c => by rw [c] at this; omega)]
      exact this
  · rw [List.length_set] at hj
    rw [(E _).2.2, if_neg (by omega)]
    exact h.head j hj
  · rw [(E a).2.2] at haw ⊢
    by_cases c : a = n
    · rw [if_pos c, ho2]
      exact ⟨k, _, List.getElem?_set_self hk, by rw [c]; simp, rfl⟩
    · rw [if_neg c] at haw ⊢
      obtain ⟨j, l, hj, hm, hw⟩ := h.free a ha haw
      by_cases e : k = j
      · subst e
        rw [hl] at hj
        cases hj
        refine ⟨k, _, List.getElem?_set_self hk, ?_, hw⟩
        rcases List.mem_append.1 hm with e | e
        · exact List.mem_append_left _ e
        · exact List.mem_append_right _ (List.mem_cons_of_mem _ e)
      · exact ⟨j, l, by rw [List.getElem?_set_ne e]; exact hj, hm, hw⟩
/-- .. at its back. -/
theorem LkOk.back (h : LkOk N Ls F) {n : Nat} (hn : n < N) (hf : (nd F n).ow = 0) {k : Nat} {l : List Nat} (hl : Ls[k]? = some l) :
    LkOk N (Ls.set k (l ++ [n])) (putF F n (N + k)) ∧ (nd F (N + k)).ow = k + 1 ∧ N + k < F.length ∧ (nd F (N + k)).pv < F.length ∧ (nd F (N + k)).pv ≠ n ∧ N + k ≠ n :=
  h.put hn hf (l1 := l) (l2 := []) (by rw [List.append_nil]; exact hl) rfl
/-- A node of list k is taken out. -/
theorem LkOk.cut (h : LkOk N Ls F) {n k : Nat} {l : List Nat} (hl : Ls[k]? = some l) (hm : n ∈ l) :
    LkOk N (Ls.set k (l.erase n)) (cutF F n) ∧ n < N ∧ (nd F n).ow = k + 1 ∧ (nd F n).pv < F.length ∧ (nd F n).nx < F.length ∧ (nd F n).pv ≠ n ∧ (nd F n).nx ≠ n := by
  have hk := (List.getElem?_eq_some_iff.1 hl).1
  obtain ⟨hn, hw⟩ := h.own k l hl n hm
  obtain ⟨l1, l2, hne, hll, herase⟩ := List.exists_erase_eq hm
  rw [herase]
  subst hll
  have hnd := h.cons_nodup hl
  have hr := h.ring k _ hl
  have hr' := hr
  unfold Ring at hr'
  rw [List.append_assoc, Ch_append] at hr'
  obtain ⟨_, g2, g3, g4⟩ := hr'
  have g4' : Ch F n (l2 ++ [N + k]) := g4
  obtain ⟨o, rest, hrest⟩ : ∃ o rest, l2 ++ [N + k] = o :: rest := by
    cases hl : l2 ++ [N + k] with
    | nil => simp at hl
    | cons y rest => exact ⟨y, rest, rfl⟩
  rw [hrest] at g4'
  obtain ⟨q1, q2, q3⟩ := g4'
  have hol : o ∈ (l1 ++ n :: l2) ++ [N + k] := by
    have : o ∈ l2 ++ [N + k] := by rw [hrest]; exact List.mem_cons_self
    rw [List.append_assoc]
    exact List.mem_append_right _ (List.mem_cons_of_mem _ this)
  have hom : o ∈ l2 ∨ o = N + k := by
    have : o ∈ l2 ++ [N + k] := by rw [hrest]; exact List.mem_cons_self
    rcases List.mem_append.1 this with e | e
    · exact .inl e
    · exact .inr (List.mem_singleton.1 e)
  obtain ⟨hp1, hp2⟩ := h.pv hl (a := n) (List.mem_append_left _ hm)
  obtain ⟨hp3, hp4⟩ := h.mem_lt hl _ hp1
  rw [← q1] at hol hom
  obtain ⟨ho3, ho4⟩ := h.mem_lt hl _ hol
  have hnd2 := hnd
  rw [List.nodup_cons, List.nodup_append, List.nodup_cons] at hnd2
  obtain ⟨m1, m2, ⟨m3, m4⟩, m5⟩ := hnd2
  have hbn : (nd F n).nx ≠ n := fun e => by
    rw [e] at hom
    rcases hom with e | e
    · exact m3 e
    · omega
  have han : (nd F n).pv ≠ n := fun e => by
    rw [e] at g3
    have hzm : n = N + k ∨ n ∈ l1 := by
      have := List.mem_of_getLast? ((getLast_cons_D (N + k) l1).trans (congrArg some g3.symm))
      exact List.mem_cons.1 this
    rcases hzm with e | e
    · omega
    · exact m5 n e n (by simp) rfl
  have hnF : n < F.length := by rw [h.len]; omega
  have E := fun i => cutF_nd hnF hp3 ho3 han hbn i
  refine ⟨⟨by rw [cutF_length, List.length_set]; exact h.len, fun j l hj => ?_, fun j l hj => ?_, fun j l hj a ha => ?_, fun j hj => ?_, fun a ha haw => ?_⟩, hn, hw, hp3, ho3, han, hbn⟩
  · by_cases e : k = j
    · subst e
      rw [List.getElem?_set_self hk] at hj
      cases hj
      exact ring_cut hr hnd (fun i hi => ((E i).1 hi).1) (fun i hi => ((E i).1 hi).2.1)
    · rw [List.getElem?_set_ne e] at hj
      refine (h.ring j l hj).frame (fun i hi => ?_)
      have hi' : i ∈ l ++ [N + j] := by
        rcases List.mem_cons.1 hi with e | e
        · rw [e]; simp
        · exact List.mem_append_left _ e
      have hio := (h.mem_lt hj i hi').2
      have i1 : i ≠ (nd F n).pv := fun c => by rw [c, hp4] at hio; omega
      have i2 : i ≠ (nd F n).nx := fun c => by rw [c, ho4] at hio; omega
      have i3 : i ≠ n := fun c => by rw [c, hw] at hio; omega
      obtain ⟨e1, e2, e3⟩ := (E i).1 i3
      rw [if_neg i1] at e1
      rw [if_neg i2] at e2
      cases hh : nd (cutF F n) i; cases hh2 : nd F i
      rw [hh, hh2] at e1 e2 e3
      simp only at e1 e2 e3
      rw [e1, e2, e3]
  · by_cases e : k = j
    · subst e
      rw [List.getElem?_set_self hk] at hj
      cases hj
      rw [List.nodup_append]
      exact ⟨m2, m4, fun x hx y hy => m5 x hx y (List.mem_cons_of_mem _ hy)⟩
    · rw [List.getElem?_set_ne e] at hj
      exact h.nodup j l hj
  · by_cases e : k = j
    · subst e
      rw [List.getElem?_set_self hk] at hj
      cases hj
      have hma : a ∈ l1 ++ n :: l2 := by
        rcases List.mem_append.1 ha with e | e
        · exact List.mem_append_left _ e
        · exact List.mem_append_right _ (List.mem_cons_of_mem _ e)
      have c : a ≠ n := by
        rintro rfl
        rcases List.mem_append.1 ha with e | e
        · exact m5 a e a (by simp) rfl
        · exact m3 e
      rw [((E a).1 c).2.2]
      exact h.own k _ hl a hma
    · rw [List.getElem?_set_ne e] at hj
      have := h.own j l hj a ha
      have c : a ≠ n := fun c => by rw [c, hw] at this; omega
      rw [((E a).1 c).2.2]
      exact this
  · rw [List.length_set] at hj
    rw [((E _).1 (by omega)).2.2]
    exact h.head j hj
  · by_cases c : a = n
    · rw [(E a).2 c] at haw
      exact absurd rfl haw
    · rw [((E a).1 c).2.2] at haw ⊢
      obtain ⟨j, l, hj, hm, hw⟩ := h.free a ha haw
      by_cases e : k = j
      · subst e
        rw [hl] at hj
        cases hj
        refine ⟨k, _, List.getElem?_set_self hk, ?_, hw⟩
        rcases List.mem_append.1 hm with e | e
        · exact List.mem_append_left _ e
        · rcases List.mem_cons.1 e with e | e
          · exact absurd e c
          · exact List.mem_append_right _ e
      · exact ⟨j, l, by rw [List.getElem?_set_ne e]; exact hj, hm, hw⟩
end
end Go.Proofs.YtlalpenfgkfkpaaGreatDoor

/- A field of nodes in memory: its cells, and how a store turns them. No condition. -/
namespace Go.Proofs.YtlalpenfgkfkpaaGreatDoor
open Go.RowKit
set_option maxRecDepth 100000
def ndC (n : Nd) : List Value := [.int .u32 n.pv, .int .u32 n.nx, .int .u32 n.ow]
def fldC (F : List Nd) : List Value := F.flatMap ndC
def lensC (Ls : List (List Nat)) : List Value := Ls.map (fun l => .int .i64 (l.length : Nat))
theorem fldC_length (F : List Nd) : (fldC F).length = F.length * 3 := flat_length ndC 3 (fun _ => rfl) F
theorem fldC_get {F : List Nd} {i : Nat} (h : i < F.length) {j : Nat} {u : Value} (hu : (ndC (nd F i))[j]? = some u) : (fldC F)[i * 3 + j]? = some u := by
  have hj : j < 3 := (List.getElem?_eq_some_iff.1 hu).1
  unfold fldC
  rw [flat_get ndC 3 (fun _ => rfl) j hj F i, nd_some h]
  exact hu
theorem fldC_set : ∀ {F : List Nd} {i j : Nat} {u : Value} {m : Nd}, i < F.length → j < 3 → (ndC (nd F i)).set j u = ndC m → (fldC F).set (i * 3 + j) u = fldC (F.set i m)
  | [], i, j, u, m, h, _, _ => by simp at h
  | a :: F, 0, j, u, m, _, hj, e => by
    have e' : (ndC a).set j u = ndC m := e
    show (ndC a ++ fldC F).set (0 * 3 + j) u = ndC m ++ fldC F
    rw [Nat.zero_mul, Nat.zero_add, List.set_append_left _ _ (by simpa [ndC] using hj), e']
  | a :: F, i + 1, j, u, m, h, hj, e => by
    have e' : (ndC (nd F i)).set j u = ndC m := e
    have ih := fldC_set (F := F) (i := i) (by simpa using h) hj e'
    show (ndC a ++ fldC F).set ((i + 1) * 3 + j) u = ndC a ++ fldC (F.set i m)
    have hl : (ndC a).length = 3 := rfl
    rw [List.set_append_right _ _ (by rw [hl]; omega), hl, show (i + 1) * 3 + j - 3 = i * 3 + j by omega, ih]
theorem lensC_get {Ls : List (List Nat)} {h : Nat} {l : List Nat} (hl : Ls[h]? = some l) : (lensC Ls)[h]? = some (.int .i64 (l.length : Nat)) := by
  unfold lensC; rw [List.getElem?_map, hl]; rfl
theorem lensC_set (Ls : List (List Nat)) (h : Nat) (l : List Nat) : (lensC Ls).set h (.int .i64 (l.length : Nat)) = lensC (Ls.set h l) := by
  unfold lensC; rw [List.map_set]
theorem lensC_length (Ls : List (List Nat)) : (lensC Ls).length = Ls.length := by unfold lensC; simp
/-- The field of the lists Ls over N nodes, in blocks p, gF, gL. -/
structure LkMem (w : World) (p gF gL cF cL N : Nat) (Ls : List (List Nat)) (F : List Nd) : Prop where
  box : w.heap[p]? = some (.cells #[.slice (some ⟨gF, 0, none⟩) F.length cF, .int .i64 N, .slice (some ⟨gL, 0, none⟩) Ls.length cL] 140 (0, 0))
  fld : w.heap[gF]? = some (.cells (fldC F).toArray 144 (0, 0))
  len : w.heap[gL]? = some (.cells (lensC Ls).toArray 3 (0, 0))
  ok : LkOk N Ls F
  n1 : 1 ≤ N
  nm : N ≤ 4194304
  hm : Ls.length ≤ 4096
section
variable {w w' : World} {p gF gL cF cL N : Nat} {Ls : List (List Nat)} {F : List Nd}
theorem LkMem.frame {S : Nat → Prop} (h : LkMem w p gF gL cF cL N Ls F) (hm : Mod S w w') (h1 : ¬ S p) (h2 : ¬ S gF) (h3 : ¬ S gL) : LkMem w' p gF gL cF cL N Ls F :=
  ⟨hm.heap h1 h.box, hm.heap h2 h.fld, hm.heap h3 h.len, h.ok, h.n1, h.nm, h.hm⟩
theorem LkMem.pure (h : LkMem w p gF gL cF cL N Ls F) (hm : Pure w w') : LkMem w' p gF gL cF cL N Ls F := h.frame hm (fun h => h) (fun h => h) (fun h => h)
theorem LkMem.ne (h : LkMem w p gF gL cF cL N Ls F) : p ≠ gF ∧ p ≠ gL ∧ gF ≠ gL := by
  refine ⟨?_, ?_, ?_⟩
  · rintro rfl; have := h.box.symm.trans h.fld; injection this with this; injection this with _ this; exact absurd this (by decide)
  · rintro rfl; have := h.box.symm.trans h.len; injection this with this; injection this with _ this; exact absurd this (by decide)
  · rintro rfl; have := h.fld.symm.trans h.len; injection this with this; injection this with _ this; exact absurd this (by decide)
/-- The cells of node i. -/
theorem LkMem.at_ (h : LkMem w p gF gL cF cL N Ls F) {i : Nat} (hi : i < F.length) :
    w.cell? ⟨gF, i * 3, none⟩ = some (.int .u32 (nd F i).pv) ∧ w.cell? ⟨gF, i * 3 + 1, none⟩ = some (.int .u32 (nd F i).nx) ∧ w.cell? ⟨gF, i * 3 + 2, none⟩ = some (.int .u32 (nd F i).ow) := by
  have g := fun j => cell_of_row w gF j _ _ (0, 0) h.fld
  refine ⟨?_, ?_, ?_⟩
  · rw [g, List.getElem?_toArray]; exact fldC_get hi (j := 0) rfl
  · rw [g, List.getElem?_toArray]; exact fldC_get hi (j := 1) rfl
  · rw [g, List.getElem?_toArray]; exact fldC_get hi (j := 2) rfl
theorem LkMem.lenAt (h : LkMem w p gF gL cF cL N Ls F) {k : Nat} {l : List Nat} (hl : Ls[k]? = some l) : w.cell? ⟨gL, k, none⟩ = some (.int .i64 (l.length : Nat)) := by
  rw [cell_of_row w gL k _ _ (0, 0) h.len, List.getElem?_toArray]; exact lensC_get hl
theorem LkMem.free (h : LkMem w p gF gL cF cL N Ls F) : (∀ i, w.frozen? ⟨gF, i, none⟩ = false) ∧ (∀ i, w.frozen? ⟨gL, i, none⟩ = false) ∧ (∀ i, w.frozen? ⟨p, i, none⟩ = false) :=
  ⟨fun i => frozen_of_row w gF i _ _ h.fld, fun i => frozen_of_row w gL i _ _ h.len, fun i => frozen_of_row w p i _ _ h.box⟩
end
/-- .. whatever its own blocks are: D holds them all. -/
def LkAt (w : World) (D : Nat → Prop) (p N : Nat) (Ls : List (List Nat)) : Prop :=
  ∃ gF gL cF cL F, LkMem w p gF gL cF cL N Ls F ∧ ∀ k, D k ↔ (k = p ∨ k = gF ∨ k = gL)
section
variable {w w' : World} {D S : Nat → Prop} {p N : Nat} {Ls : List (List Nat)}
theorem LkAt.frame (h : LkAt w D p N Ls) (hm : Mod S w w') (hd : ∀ k, D k → ¬ S k) : LkAt w' D p N Ls := by
  obtain ⟨gF, gL, cF, cL, F, h1, h2⟩ := h
  exact ⟨gF, gL, cF, cL, F, h1.frame hm (hd p ((h2 p).2 (.inl rfl))) (hd gF ((h2 gF).2 (.inr (.inl rfl)))) (hd gL ((h2 gL).2 (.inr (.inr rfl)))), h2⟩
theorem LkAt.pure (h : LkAt w D p N Ls) (hm : Pure w w') : LkAt w' D p N Ls := h.frame hm (fun _ _ h => h)
theorem LkAt.lt (h : LkAt w D p N Ls) {k : Nat} (hk : D k) : k < w.heap.size := by
  obtain ⟨gF, gL, cF, cL, F, h1, h2⟩ := h
  rcases (h2 k).1 hk with rfl | rfl | rfl
  · exact lt_of_block h1.box
  · exact lt_of_block h1.fld
  · exact lt_of_block h1.len
theorem LkAt.self (h : LkAt w D p N Ls) : D p := by obtain ⟨gF, gL, cF, cL, F, h1, h2⟩ := h; exact (h2 p).2 (.inl rfl)
end
end Go.Proofs.YtlalpenfgkfkpaaGreatDoor

/- links: none, list, node, in, ring, put. Conditions: the field lies in memory. -/
namespace Go.Proofs.YtlalpenfgkfkpaaGreatDoor
open Go.RowKit
set_option maxRecDepth 100000
@[go_sem] theorem eql_nil_nodes (w : World) (a : Option Addr) (n c : Nat) : (binOp .eql 138 (.slice a n c) (.slice none 0 0)).run Tryz.prog w = .ok (.bool a.isNone) w :=
  Lib.run_eql_slice_nil w _ _ a n c 0 0 Tryz.underlying138
abbrev lkP (p : Nat) : Value := .pointer (some ⟨p, 0, none⟩)
theorem u32_of (n : Nat) (h : n < 4294967296) : IntKind.u32.wrap (n : Int) = n := by simp [IntKind.wrap, IntKind.signed, IntKind.bits]; omega
section
variable {w w' : World} {p gF gL cF cL N : Nat} {Ls : List (List Nat)} {F : List Nd}
theorem lnone_ok (h : LkMem w p gF gL cF cL N Ls F) : Calls Tryz.prog 113 #[lkP p] w fun e w' => e = .returned (.bool false) ∧ w = w' := by
  have hb := h.box
  clear h
  have hb_0 := cell_of_row _ _ 0 _ _ _ hb; have hb_1 := cell_of_row _ _ 1 _ _ _ hb; have hb_2 := cell_of_row _ _ 2 _ _ _ hb; have hb_f := (fun j => frozen_of_row _ _ j _ _ hb); have hb_l := lt_of_block hb; simp at hb_0 hb_1 hb_2; have H_hb := Lib.hid hb; clear hb
  go_enter Tryz.func113, Tryz.ntmps113
  go_wp2
  go_ret
  exact ⟨rfl, rfl⟩
theorem llist_ok (h : LkMem w p gF gL cF cL N Ls F) {k : Nat} (hk : k < Ls.length) : Calls Tryz.prog 107 #[lkP p, .int .i64 k] w fun e w' => e = .returned (.int .i64 0) ∧ w = w' := by
  have hb := h.box
  have HN := Lib.hid (lnone_ok h)
  have hm := h.hm
  obtain ⟨H, hH⟩ : ∃ H, Ls.length = H := ⟨_, rfl⟩
  rw [hH] at hb hm hk
  clear h hH
  have hb_0 := cell_of_row _ _ 0 _ _ _ hb; have hb_1 := cell_of_row _ _ 1 _ _ _ hb; have hb_2 := cell_of_row _ _ 2 _ _ _ hb; have hb_f := (fun j => frozen_of_row _ _ j _ _ hb); have hb_l := lt_of_block hb; simp at hb_0 hb_1 hb_2; have H_hb := Lib.hid hb; clear hb
  have d1 : decide ((k : Int) < 0) = false := decide_eq_false (by omega)
  have d2 : decide ((H : Int) ≤ (k : Int)) = false := decide_eq_false (by omega)
  have d3 : decide (H ≤ k) = false := decide_eq_false (by omega)
  have wH : IntKind.i64.wrap (H : Int) = H := IntWalk.i64_in _ (by omega)
  go_enter Tryz.func107, Tryz.ntmps107
  go_wp2_with (go_at_call 113; refine Calls.mono HN.out ?_; rintro e w' ⟨rfl, rfl⟩)
  go_ret
  exact ⟨rfl, rfl⟩
theorem lnode_ok (h : LkMem w p gF gL cF cL N Ls F) {n : Nat} (hn : n < N) : Calls Tryz.prog 112 #[lkP p, .int .u32 n] w fun e w' => e = .returned (.int .i64 0) ∧ w = w' := by
  have hb := h.box
  have HN := Lib.hid (lnone_ok h)
  have hm := h.nm
  clear h
  have hb_0 := cell_of_row _ _ 0 _ _ _ hb; have hb_1 := cell_of_row _ _ 1 _ _ _ hb; have hb_2 := cell_of_row _ _ 2 _ _ _ hb; have hb_f := (fun j => frozen_of_row _ _ j _ _ hb); have hb_l := lt_of_block hb; simp at hb_0 hb_1 hb_2; have H_hb := Lib.hid hb; clear hb
  have d2 : decide ((N : Int) ≤ (n : Int)) = false := decide_eq_false (by omega)
  have d3 : decide (N ≤ n) = false := decide_eq_false (by omega)
  have wn : IntKind.i64.wrap (n : Int) = n := IntWalk.i64_in _ (by omega)
  go_enter Tryz.func112, Tryz.ntmps112
  go_wp2_with (go_at_call 113; refine Calls.mono HN.out ?_; rintro e w' ⟨rfl, rfl⟩)
  go_ret
  exact ⟨rfl, rfl⟩
theorem lnode_arg (h : LkMem w p gF gL cF cL N Ls F) {n : Nat} (hn : N ≤ n) (h32 : n ≤ 4294967295) : Calls Tryz.prog 112 #[lkP p, .int .u32 n] w fun e w' => e = .returned (.int .i64 2) ∧ w = w' := by
  have hb := h.box
  have HN := Lib.hid (lnone_ok h)
  clear h
  have hb_0 := cell_of_row _ _ 0 _ _ _ hb; have hb_1 := cell_of_row _ _ 1 _ _ _ hb; have hb_2 := cell_of_row _ _ 2 _ _ _ hb; have hb_f := (fun j => frozen_of_row _ _ j _ _ hb); have hb_l := lt_of_block hb; simp at hb_0 hb_1 hb_2; have H_hb := Lib.hid hb; clear hb
  have d2 : decide ((N : Int) ≤ (n : Int)) = true := decide_eq_true (by omega)
  have d3 : decide (N ≤ n) = true := decide_eq_true (by omega)
  have wn : IntKind.i64.wrap (n : Int) = n := IntWalk.i64_in _ (by omega)
  go_enter Tryz.func112, Tryz.ntmps112
  go_wp2_with (go_at_call 113; refine Calls.mono HN.out ?_; rintro e w' ⟨rfl, rfl⟩)
  go_ret
  exact ⟨rfl, rfl⟩
/-- What in says of a node. -/
def inE (N : Nat) (F : List Nd) (n : Nat) : Int := if n < N then (if (nd F n).ow = 0 then 9 else 0) else 2
theorem lin_ok (h : LkMem w p gF gL cF cL N Ls F) {n : Nat} (h32 : n ≤ 4294967295) : Calls Tryz.prog 106 #[lkP p, .int .u32 n] w fun e w' => e = .returned (.int .i64 (inE N F n)) ∧ w = w' := by
  have hb := h.box
  by_cases hn : n < N
  · have HN := Lib.hid (lnode_ok h hn)
    have hlt : n < F.length := by rw [h.ok.len]; omega
    obtain ⟨c0, c1, c2⟩ := h.at_ hlt
    unfold inE
    rw [if_pos hn]
    have hl : F.length ≤ 4198400 := by rw [h.ok.len]; have := h.nm; have := h.hm; omega
    have d1 : decide (n < F.length) = true := decide_eq_true hlt
    have hlt' : (n : Int) < (F.length : Int) := by omega
    have hn0 : (0 : Int) ≤ (n : Int) := by omega
    clear h c0 c1
    generalize (nd F n).ow = o at *
    have hb_0 := cell_of_row _ _ 0 _ _ _ hb; have hb_1 := cell_of_row _ _ 1 _ _ _ hb; have hb_2 := cell_of_row _ _ 2 _ _ _ hb; have hb_f := (fun j => frozen_of_row _ _ j _ _ hb); have hb_l := lt_of_block hb; simp at hb_0 hb_1 hb_2; have H_hb := Lib.hid hb; clear hb
    by_cases ho : o = 0
    · subst ho
      go_enter Tryz.func106, Tryz.ntmps106
      go_wp2_with (go_at_call 112; refine Calls.mono HN.out ?_; rintro e w' ⟨rfl, rfl⟩)
      go_ret
      exact ⟨rfl, rfl⟩
    · rw [if_neg ho]
      have e1 : ((o : Int) == 0) = false := by simp; omega
      go_enter Tryz.func106, Tryz.ntmps106
      go_wp2_with (go_at_call 112; refine Calls.mono HN.out ?_; rintro e w' ⟨rfl, rfl⟩)
      go_ret
      exact ⟨rfl, rfl⟩
  · have HN := Lib.hid (lnode_arg h (by omega) h32)
    unfold inE
    rw [if_neg hn]
    clear h hb
    go_enter Tryz.func106, Tryz.ntmps106
    go_wp2_with (go_at_call 112; refine Calls.mono HN.out ?_; rintro e w' ⟨rfl, rfl⟩)
    go_ret
    exact ⟨rfl, rfl⟩
theorem ring_ok (h : LkMem w p gF gL cF cL N Ls F) {k : Nat} (hk : k ≤ 4096) : Calls Tryz.prog 87 #[.int .i64 k, lkP p] w fun e w' => e = .returned (.int .u32 (N + k : Nat)) ∧ w = w' := by
  have hb := h.box
  have hm := h.nm
  clear h
  have hb_0 := cell_of_row _ _ 0 _ _ _ hb; have hb_1 := cell_of_row _ _ 1 _ _ _ hb; have hb_2 := cell_of_row _ _ 2 _ _ _ hb; have hb_f := (fun j => frozen_of_row _ _ j _ _ hb); have hb_l := lt_of_block hb; simp at hb_0 hb_1 hb_2; have H_hb := Lib.hid hb; clear hb
  have ws : IntKind.i64.wrap ((N : Int) + (k : Int)) = (N : Int) + (k : Int) := IntWalk.i64_in _ (by omega)
  have wu : IntKind.u32.wrap ((N : Int) + (k : Int)) = (N : Int) + (k : Int) := by simp [IntKind.wrap, IntKind.signed, IntKind.bits]; omega
  have wk : IntKind.i64.wrap (k : Int) = k := IntWalk.i64_in _ (by omega)
  go_enter Tryz.func87, Tryz.ntmps87
  go_wp2
  go_ret
  exact ⟨by go_num, rfl⟩
end
end Go.Proofs.YtlalpenfgkfkpaaGreatDoor

/- links: put. Conditions: the field lies in memory. -/
namespace Go.Proofs.YtlalpenfgkfkpaaGreatDoor
open Go.RowKit
set_option maxRecDepth 100000
theorem fld_set {w : World} {gF : Nat} {F : List Nd} {T : TypeId} (h : w.heap[gF]? = some (.cells (fldC F).toArray T (0, 0))) {i j : Nat} {u : Value} {m : Nd} (hi : i < F.length) (hj : j < 3) (he : (ndC (nd F i)).set j u = ndC m) :
    (w.setCell ⟨gF, i * 3 + j, none⟩ u).heap[gF]? = some (.cells (fldC (F.set i m)).toArray T (0, 0)) := by
  rw [heap_setCell_same w gF _ _ T u h]
  congr 2
  rw [List.setIfInBounds_toArray, fldC_set hi hj he]
theorem nd_self {F : List Nd} {i : Nat} (hi : i < F.length) (m : Nd) : nd (F.set i m) i = m := by rw [nd_set hi, if_pos rfl]
/-- A whole node is stored. -/
theorem fld_put {w : World} {gF : Nat} {F : List Nd} {T : TypeId} (h : w.heap[gF]? = some (.cells (fldC F).toArray T (0, 0))) {i : Nat} (hi : i < F.length) (a b c : Nat) :
    (((w.setCell ⟨gF, i * 3, none⟩ (.int .u32 a)).setCell ⟨gF, i * 3 + 1, none⟩ (.int .u32 b)).setCell ⟨gF, i * 3 + 2, none⟩ (.int .u32 c)).heap[gF]? = some (.cells (fldC (F.set i ⟨a, b, c⟩)).toArray T (0, 0)) := by
  have h1 := fld_set h (j := 0) (u := .int .u32 a) (m := ⟨a, (nd F i).nx, (nd F i).ow⟩) hi (by decide) rfl
  have h2 := fld_set h1 (i := i) (j := 1) (u := .int .u32 b) (m := ⟨a, b, (nd F i).ow⟩) (by simpa using hi) (by decide) (by rw [nd_self hi]; rfl)
  have h3 := fld_set h2 (i := i) (j := 2) (u := .int .u32 c) (m := ⟨a, b, c⟩) (by simpa using hi) (by decide) (by rw [nd_self (by simpa using hi)]; rfl)
  simpa using h3
theorem cell_set {X : World} {b o b2 o2 : Nat} {u v : Value} (h : X.cell? ⟨b, o, none⟩ = some v) (hne : b2 ≠ b ∨ o2 ≠ o) : (X.setCell ⟨b2, o2, none⟩ u).cell? ⟨b, o, none⟩ = some v := by
  rw [World.cell?_setCell_other (h := fun e => by injection e with e1 e2; rcases hne with h | h <;> contradiction)]; exact h
theorem fldC_at {w : World} {gF : Nat} {F : List Nd} {T : TypeId} (h : w.heap[gF]? = some (.cells (fldC F).toArray T (0, 0))) {i : Nat} (hi : i < F.length) :
    w.cell? ⟨gF, i * 3, none⟩ = some (.int .u32 (nd F i).pv) ∧ w.cell? ⟨gF, i * 3 + 1, none⟩ = some (.int .u32 (nd F i).nx) ∧ w.cell? ⟨gF, i * 3 + 2, none⟩ = some (.int .u32 (nd F i).ow) := by
  have g := fun j => cell_of_row w gF j _ _ (0, 0) h
  refine ⟨?_, ?_, ?_⟩
  · rw [g, List.getElem?_toArray]; exact fldC_get hi (j := 0) rfl
  · rw [g, List.getElem?_toArray]; exact fldC_get hi (j := 1) rfl
  · rw [g, List.getElem?_toArray]; exact fldC_get hi (j := 2) rfl
/-- Both neighbours are turned to the node. -/
theorem fld_put2 {w : World} {gF : Nat} {F : List Nd} {T : TypeId} {n o b kk : Nat} (hb : (nd F o).pv = b) (hk : (nd F o).ow = kk) (h : w.heap[gF]? = some (.cells (fldC (F.set n ⟨b, o, kk⟩)).toArray T (0, 0))) (hbF : b < F.length) (hoF : o < F.length) :
    ((w.setCell ⟨gF, b * 3 + 1, none⟩ (.int .u32 n)).setCell ⟨gF, o * 3, none⟩ (.int .u32 n)).heap[gF]? = some (.cells (fldC (putF F n o)).toArray T (0, 0)) := by
  subst hb hk
  have h1 := fld_set h (i := (nd F o).pv) (j := 1) (u := .int .u32 n) (m := ⟨(nd (F.set n ⟨(nd F o).pv, o, (nd F o).ow⟩) (nd F o).pv).pv, n, (nd (F.set n ⟨(nd F o).pv, o, (nd F o).ow⟩) (nd F o).pv).ow⟩) (by simpa using hbF) (by decide) rfl
  exact fld_set h1 (i := o) (j := 0) (u := .int .u32 n) (by simpa using hoF) (by decide) rfl
section
variable {w w' : World} {p gF gL cF cL N : Nat} {Ls : List (List Nat)} {F : List Nd}
set_option maxHeartbeats 1000000 in
theorem lput_ok (h : LkMem w p gF gL cF cL N Ls F) {n o k : Nat} (hn : n < N) (ho : o < F.length) (how : (nd F o).ow = k + 1) (hb : (nd F o).pv < F.length) (hbn : (nd F o).pv ≠ n) (hon : o ≠ n) {l : List Nat} (hl : Ls[k]? = some l) :
    Calls Tryz.prog 114 #[lkP p, .int .u32 n, .int .u32 o] w fun e w' => e = .returned (.tuple #[]) ∧ w'.heap[gF]? = some (.cells (fldC (putF F n o)).toArray 144 (0, 0)) ∧ w'.heap[gL]? = some (.cells ((lensC Ls).set k (.int .i64 ((l.length + 1 : Nat) : Int))).toArray 3 (0, 0)) ∧ Mod (fun b => b = gF ∨ b = gL) w w' := by
  have hbx := h.box
  have hF : F.length ≤ 4198400 := by rw [h.ok.len]; have := h.nm; have := h.hm; omega
  have hnF : n < F.length := by rw [h.ok.len]; omega
  obtain ⟨c0, c1, c2⟩ := h.at_ ho
  rw [how] at c2
  obtain ⟨q0, q1, q2⟩ := h.at_ hnF
  obtain ⟨f1, f2, f3⟩ := h.free
  obtain ⟨ne1, ne2, ne3⟩ := h.ne
  have HFL := Lib.hid h.fld; have HLN := Lib.hid h.len
  have hk2 : k < Ls.length := (List.getElem?_eq_some_iff.1 hl).1
  have hkb : k < 4096 := by have := h.hm; omega
  have HNX := Lib.hid (fun (X : World) (hX : X.heap[gL]? = some (.cells (lensC Ls).toArray 3 (0, 0))) => (show X.cell? ⟨gL, k, none⟩ = some (.int .i64 (l.length : Nat)) by rw [cell_of_row X gL k _ _ (0, 0) hX, List.getElem?_toArray]; exact lensC_get hl))
  have hll : l.length ≤ N := h.ok.short hl
  have hN := h.nm
  obtain ⟨b, hbe⟩ : ∃ b, (nd F o).pv = b := ⟨_, rfl⟩
  rw [hbe] at c0 hb hbn
  obtain ⟨FL, hFL⟩ : ∃ FL, F.length = FL := ⟨_, rfl⟩
  rw [hFL] at hbx hF hnF hb ho
  have HBX := Lib.hid hbx
  clear h hbx
  have hbx := HBX.out
  have dn : decide (n < FL) = true := decide_eq_true hnF
  have do' : decide (o < FL) = true := decide_eq_true ho
  have db : decide (b < FL) = true := decide_eq_true hb
  have HBE := Lib.hid hbe; have HFLe := Lib.hid hFL; have HOW := Lib.hid how
  clear hbe hFL how
  have hbx_0 := cell_of_row _ _ 0 _ _ _ hbx; have hbx_1 := cell_of_row _ _ 1 _ _ _ hbx; have hbx_2 := cell_of_row _ _ 2 _ _ _ hbx; have hbx_f := (fun j => frozen_of_row _ _ j _ _ hbx); have hbx_l := lt_of_block hbx; simp at hbx_0 hbx_1 hbx_2; have H_hbx := Lib.hid hbx; clear hbx
  have g0 := f1 (n * 3); have g1 := f1 (n * 3 + 1); have g2 := f1 (n * 3 + 2)
  obtain ⟨kk, hkk⟩ : ∃ kk, k + 1 = kk := ⟨_, rfl⟩
  rw [hkk] at c2 HOW
  have wk : IntKind.u32.wrap ((kk : Int) - 1) = (k : Int) := by rw [← hkk, show ((k + 1 : Nat) : Int) - 1 = (k : Int) by omega]; exact u32_of k (by omega)
  clear hkk
  go_enter Tryz.func114, Tryz.ntmps114
  go_upto_region 1 with fail
  go_region_held3 (fun w' => w'.cell? ⟨p, 0, none⟩ = some (.slice (some ⟨gF, 0, none⟩) FL cF) ∧ w'.cell? ⟨gF, o * 3 + 2, none⟩ = some (.int .u32 kk))
    (first | exact ⟨hbx_0, c2⟩ | exact ⟨cell_set (cell_set (cell_set hbx_0 (.inl ne1.symm)) (.inl ne1.symm)) (.inl ne1.symm), cell_set (cell_set (cell_set c2 (.inr (by omega))) (.inr (by omega))) (.inr (by omega))⟩) (fail)
  have hm1 : Mod (fun b => b = gF) w (((w.setCell ⟨gF, n * 3, none⟩ (.int .u32 b)).setCell ⟨gF, n * 3 + 1, none⟩ (.int .u32 o)).setCell ⟨gF, n * 3 + 2, none⟩ (.int .u32 kk)).drew :=
    ((((Mod.refl (fun b => b = gF) w).setCell (p := ⟨gF, n * 3, none⟩) (fun _ => rfl) _).setCell (p := ⟨gF, n * 3 + 1, none⟩) (fun _ => rfl) _).setCell (p := ⟨gF, n * 3 + 2, none⟩) (fun _ => rfl) _).drew
  have hf1 : (((w.setCell ⟨gF, n * 3, none⟩ (.int .u32 b)).setCell ⟨gF, n * 3 + 1, none⟩ (.int .u32 o)).setCell ⟨gF, n * 3 + 2, none⟩ (.int .u32 kk)).drew.heap[gF]? = _ := fld_put HFL.out (i := n) (by rw [HFLe.out]; exact hnF) b o kk
  generalize (((w.setCell ⟨gF, n * 3, none⟩ (.int .u32 b)).setCell ⟨gF, n * 3 + 1, none⟩ (.int .u32 o)).setCell ⟨gF, n * 3 + 2, none⟩ (.int .u32 kk)).drew = X1 at hm1 hf1 ⊢
  have hbx1 := hm1.heap (fun e => ne1 e) HBX.out
  have hln1 := hm1.heap (fun e => ne3 e.symm) HLN.out
  clear hbx_0 hbx_1 hbx_2 hbx_f hbx_l
  clear H_hbx c0 c1 c2 q0 q1 q2 f1 f2 f3 g0 g1 g2
  have HF1 := Lib.hid hf1; have HL1 := Lib.hid hln1; have HM1 := Lib.hid hm1; have HB1 := Lib.hid hbx1
  obtain ⟨r0, r1, r2⟩ := fldC_at hf1 (i := b) (by simp; rw [HFLe.out]; exact hb)
  obtain ⟨s0, s1, s2⟩ := fldC_at hf1 (i := o) (by simp; rw [HFLe.out]; exact ho)
  have g0 := frozen_of_row X1 gF (b * 3 + 1) _ _ hf1
  have g1 := frozen_of_row X1 gF (o * 3) _ _ hf1
  have hX : gF < X1.heap.size := lt_of_block hf1
  clear hf1 hln1 hm1
  have hbx1_0 := cell_of_row _ _ 0 _ _ _ hbx1; have hbx1_1 := cell_of_row _ _ 1 _ _ _ hbx1; have hbx1_2 := cell_of_row _ _ 2 _ _ _ hbx1; have hbx1_f := (fun j => frozen_of_row _ _ j _ _ hbx1); have hbx1_l := lt_of_block hbx1; simp at hbx1_0 hbx1_1 hbx1_2; have H_hbx1 := Lib.hid hbx1; clear hbx1
  go_upto_region 2 with fail
  go_region_held3 (fun w' => w'.cell? ⟨p, 0, none⟩ = some (.slice (some ⟨gF, 0, none⟩) FL cF))
    (first | exact hbx1_0 | exact cell_set hbx1_0 (.inl ne1.symm) | exact cell_set (cell_set hbx1_0 (.inl ne1.symm)) (.inl ne1.symm)) (fail)
  have hm2 : Mod (fun b => b = gF) X1 ((X1.setCell ⟨gF, b * 3 + 1, none⟩ (.int .u32 n)).setCell ⟨gF, o * 3, none⟩ (.int .u32 n)).drew :=
    (((Mod.refl (fun b => b = gF) X1).setCell (p := ⟨gF, b * 3 + 1, none⟩) (fun _ => rfl) _).setCell (p := ⟨gF, o * 3, none⟩) (fun _ => rfl) _).drew
  have hf2 : ((X1.setCell ⟨gF, b * 3 + 1, none⟩ (.int .u32 n)).setCell ⟨gF, o * 3, none⟩ (.int .u32 n)).drew.heap[gF]? = _ := fld_put2 HBE.out HOW.out HF1.out (by rw [HFLe.out]; exact hb) (by rw [HFLe.out]; exact ho)
  generalize ((X1.setCell ⟨gF, b * 3 + 1, none⟩ (.int .u32 n)).setCell ⟨gF, o * 3, none⟩ (.int .u32 n)).drew = X2 at hm2 hf2 ⊢
  have hbx2 := hm2.heap (fun e => ne1 e) HB1.out
  have hln2 := hm2.heap (fun e => ne3 e.symm) HL1.out
  have hl9 := HNX.out _ hln2
  have hput := (putF_nd (F := F) (n := n) (o := o) (by rw [HFLe.out]; exact hnF) (by rw [HFLe.out]; exact ho) (by rw [HBE.out, HFLe.out]; exact hb) (by rw [HBE.out]; exact hbn) hon n).2.2
  rw [if_pos rfl, HOW.out] at hput
  obtain ⟨q0, q1, q2⟩ := fldC_at hf2 (i := n) (by rw [putF_length, HFLe.out]; exact hnF)
  rw [hput] at q2
  clear hbx1_0 hbx1_1 hbx1_2 hbx1_f hbx1_l
  clear H_hbx1 r0 r1 r2 s0 s1 s2 g0 g1 hput q0 q1 hX
  have g0 := frozen_of_row X2 gL k _ _ hln2
  have HM := Lib.hid ((HM1.out.trans hm2).mono (fun _ _ h => Or.inl h) : Mod (fun b => b = gF ∨ b = gL) w X2)
  have HF2 := Lib.hid hf2; have HL2 := Lib.hid hln2
  have hX2 : gL < X2.heap.size := lt_of_block hln2
  clear hm2 hf2 hln2
  have dk : decide (k < Ls.length) = true := decide_eq_true hk2
  have wl : IntKind.i64.wrap ((l.length : Int) + 1) = (l.length : Int) + 1 := IntWalk.i64_in _ (by omega)
  have hbx2_0 := cell_of_row _ _ 0 _ _ _ hbx2; have hbx2_1 := cell_of_row _ _ 1 _ _ _ hbx2; have hbx2_2 := cell_of_row _ _ 2 _ _ _ hbx2; have hbx2_f := (fun j => frozen_of_row _ _ j _ _ hbx2); have hbx2_l := lt_of_block hbx2; simp at hbx2_0 hbx2_1 hbx2_2; have H_hbx2 := Lib.hid hbx2; clear hbx2
  go_upto_region 3 with fail
  go_still_tail 17, (by kernel_rfl)
  go_wp2
  have e1 : (X2.setCell ⟨gL, k, none⟩ (.int .i64 ((l.length : Int) + 1))).heap[gF]? = _ := heap_set_other HF2.out ne3
  have e2 : (X2.setCell ⟨gL, k, none⟩ (.int .i64 ((l.length : Int) + 1))).heap[gL]? = _ := heap_setCell_same X2 gL k _ _ (.int .i64 ((l.length : Int) + 1)) HL2.out
  rw [List.setIfInBounds_toArray] at e2
  have e3 := HM.out.setCell (p := ⟨gL, k, none⟩) (fun _ => .inr rfl) (.int .i64 ((l.length : Int) + 1))
  go_end0
  exact ⟨rfl, e1, e2, e3.drew⟩
end
end Go.Proofs.YtlalpenfgkfkpaaGreatDoor

/- wheel: marks.set, clear. Conditions: the words lie in memory. -/
namespace Go.Proofs.YtlalpenfgkfkpaaGreatDoor
open Go.RowKit
set_option maxRecDepth 100000
abbrev mkP (p : Nat) : Value := .pointer (some ⟨p, 1, none⟩)
/-- What a wheel's box holds. -/
def whC (q : Nat) (f : Nat → Bool) (many : Int) : Array Value := #[.pointer (some ⟨q, 0, none⟩), .int .u64 (wd64 f 0 : Nat), .int .u64 (wd64 f 1 : Nat), .int .u64 (wd64 f 2 : Nat), .int .u64 (wd64 f 3 : Nat), .int .i64 many]
theorem whC_get {q : Nat} {f : Nat → Bool} {many : Int} {k : Nat} (hk : k < 4) : (whC q f many)[1 + k]? = some (.int .u64 (wd64 f k : Nat)) := by
  have arr : ∀ (a x0 x1 x2 x3 z : Value), (#[a, x0, x1, x2, x3, z] : Array Value)[1 + 0]? = some x0 ∧ (#[a, x0, x1, x2, x3, z] : Array Value)[1 + 1]? = some x1 ∧ (#[a, x0, x1, x2, x3, z] : Array Value)[1 + 2]? = some x2 ∧ (#[a, x0, x1, x2, x3, z] : Array Value)[1 + 3]? = some x3 := fun _ _ _ _ _ _ => ⟨rfl, rfl, rfl, rfl⟩
  have : k = 0 ∨ k = 1 ∨ k = 2 ∨ k = 3 := by omega
  unfold whC
  rcases this with rfl | rfl | rfl | rfl
  · exact (arr _ _ _ _ _ _).1
  · exact (arr _ _ _ _ _ _).2.1
  · exact (arr _ _ _ _ _ _).2.2.1
  · exact (arr _ _ _ _ _ _).2.2.2
theorem whC_set {q : Nat} {f : Nat → Bool} {many : Int} {b : Nat} {v : Bool} {x : Nat} (hb : b < 256) (hx : x = wd64 (setB f b v) (b / 64)) : (whC q f many).setIfInBounds (1 + b / 64) (.int .u64 (x : Nat)) = whC q (setB f b v) many := by
  rw [hx]
  clear hx
  have h := fun k (hk : k ≠ b / 64) => wd_other (f := f) (b := b) (v := v) hk
  have : b / 64 = 0 ∨ b / 64 = 1 ∨ b / 64 = 2 ∨ b / 64 = 3 := by omega
  have arr : ∀ (a x0 x1 x2 x3 y z : Value), (#[a, x0, x1, x2, x3, z] : Array Value).setIfInBounds (1 + 0) y = #[a, y, x1, x2, x3, z] ∧ (#[a, x0, x1, x2, x3, z] : Array Value).setIfInBounds (1 + 1) y = #[a, x0, y, x2, x3, z] ∧ (#[a, x0, x1, x2, x3, z] : Array Value).setIfInBounds (1 + 2) y = #[a, x0, x1, y, x3, z] ∧ (#[a, x0, x1, x2, x3, z] : Array Value).setIfInBounds (1 + 3) y = #[a, x0, x1, x2, y, z] := fun _ _ _ _ _ _ _ => ⟨rfl, rfl, rfl, rfl⟩
  rcases this with e | e | e | e <;> rw [e] at h ⊢ <;> unfold whC
  · rw [(arr _ _ _ _ _ _ _).1, h 1 (by decide), h 2 (by decide), h 3 (by decide)]
  · rw [(arr _ _ _ _ _ _ _).2.1, h 0 (by decide), h 2 (by decide), h 3 (by decide)]
  · rw [(arr _ _ _ _ _ _ _).2.2.1, h 0 (by decide), h 1 (by decide), h 3 (by decide)]
  · rw [(arr _ _ _ _ _ _ _).2.2.2, h 0 (by decide), h 1 (by decide), h 2 (by decide)]
section
variable {w w' : World} {p q : Nat} {f : Nat → Bool} {many : Int}
set_option maxHeartbeats 1000000 in
theorem mset_ok (h : w.heap[p]? = some (.cells (whC q f many) 112 (0, 0))) {b : Nat} (hb : b < 256) :
    Calls Tryz.prog 104 #[mkP p, .int .i64 b] w fun e w' => e = .returned (.tuple #[]) ∧ w'.heap[p]? = some (.cells (whC q (setB f b true) many) 112 (0, 0)) ∧ Mod (fun k => k = p) w w' := by
  have hk : b / 64 < 4 := by omega
  have hr : b % 64 < 64 := Nat.mod_lt _ (by decide)
  have c0 : w.cell? ⟨p, 1 + b / 64, none⟩ = some (.int .u64 (wd64 f (b / 64) : Nat)) := by rw [cell_of_row w p _ _ _ (0, 0) h]; exact whC_get hk
  have g0 := frozen_of_row w p (1 + b / 64) _ _ h
  have hlt : p < w.heap.size := lt_of_block h
  have wq : wrap64 ((b : Int) / 64) = ((b / 64 : Nat) : Int) := by rw [show (b : Int) / 64 = ((b / 64 : Nat) : Int) by omega]; exact w64_nat _ (by omega)
  have eq1 : (b : Int) / 64 = ((b / 64 : Nat) : Int) := by omega
  have eq2 : (b : Int) % 64 = ((b % 64 : Nat) : Int) := by omega
  have HS := Lib.hid (wd_set (f := f) (b := b))
  have hwl := wd64_lt f (b / 64)
  have hpl : 2 ^ (b % 64) < 18446744073709551616 := Nat.pow_lt_pow_right (a := 2) (by decide) (show b % 64 < 64 by omega)
  have hc2 : ((2 ^ (b % 64) : Nat) : Int) = (2 : Int) ^ (b % 64) := by simp
  have hw2 := u64_wrap (2 ^ (b % 64)) hpl
  rw [hc2] at hw2
  have hor := bits_or64 (wd64 f (b / 64)) (2 ^ (b % 64)) hwl hpl
  rw [hc2] at hor
  clear hc2
  have b0 : (0 : Int) ≤ (b : Int) := by omega
  have b1 : (b : Int) < 256 := by omega
  have HH := Lib.hid h; have HB := Lib.hid hb
  obtain ⟨k, hk'⟩ : ∃ k, b / 64 = k := ⟨_, rfl⟩
  have HK := Lib.hid hk'
  clear h hb hk
  rw [hk'] at c0 g0 wq eq1 HS hwl hor
  clear hk'
  generalize wd64 f k = x at *
  generalize b % 64 = r at *
  go_enter Tryz.func104, Tryz.ntmps104
  go_region
  have e1 := heap_setCell_same w p (1 + k) _ _ (.int .u64 ((x ||| 2 ^ r : Nat) : Int)) HH.out
  have e2 := ((Mod.refl (fun k => k = p) w).setCell (p := ⟨p, 1 + k, none⟩) (fun _ => rfl) (.int .u64 ((x ||| 2 ^ r : Nat) : Int))).drew
  have e3 : (whC q f many).setIfInBounds (1 + k) (.int .u64 ((x ||| 2 ^ r : Nat) : Int)) = whC q (setB f b true) many := by
    have := whC_set (q := q) (f := f) (many := many) (v := true) (x := x ||| 2 ^ r) HB.out (by rw [HK.out]; exact HS.out)
    rw [HK.out] at this
    exact this
  rw [e3] at e1
  go_end0
  exact ⟨rfl, e1, e2⟩
set_option maxHeartbeats 1000000 in
theorem mclear_ok (h : w.heap[p]? = some (.cells (whC q f many) 112 (0, 0))) {b : Nat} (hb : b < 256) :
    Calls Tryz.prog 92 #[mkP p, .int .i64 b] w fun e w' => e = .returned (.tuple #[]) ∧ w'.heap[p]? = some (.cells (whC q (setB f b false) many) 112 (0, 0)) ∧ Mod (fun k => k = p) w w' := by
  have hk : b / 64 < 4 := by omega
  have hr : b % 64 < 64 := Nat.mod_lt _ (by decide)
  have c0 : w.cell? ⟨p, 1 + b / 64, none⟩ = some (.int .u64 (wd64 f (b / 64) : Nat)) := by rw [cell_of_row w p _ _ _ (0, 0) h]; exact whC_get hk
  have g0 := frozen_of_row w p (1 + b / 64) _ _ h
  have hlt : p < w.heap.size := lt_of_block h
  have wq : wrap64 ((b : Int) / 64) = ((b / 64 : Nat) : Int) := by rw [show (b : Int) / 64 = ((b / 64 : Nat) : Int) by omega]; exact w64_nat _ (by omega)
  have eq1 : (b : Int) / 64 = ((b / 64 : Nat) : Int) := by omega
  have eq2 : (b : Int) % 64 = ((b % 64 : Nat) : Int) := by omega
  have HS := Lib.hid (wd_clear (f := f) (b := b))
  have hwl := wd64_lt f (b / 64)
  have hpl : 2 ^ (b % 64) < 18446744073709551616 := Nat.pow_lt_pow_right (a := 2) (by decide) (show b % 64 < 64 by omega)
  have hc2 : ((2 ^ (b % 64) : Nat) : Int) = (2 : Int) ^ (b % 64) := by simp
  have hw2 := u64_wrap (2 ^ (b % 64)) hpl
  rw [hc2] at hw2
  have hor := bits_andNot64 (wd64 f (b / 64)) (2 ^ (b % 64)) _ hwl hpl rfl
  rw [hc2] at hor
  clear hc2
  have b0 : (0 : Int) ≤ (b : Int) := by omega
  have b1 : (b : Int) < 256 := by omega
  have HH := Lib.hid h; have HB := Lib.hid hb
  obtain ⟨k, hk'⟩ : ∃ k, b / 64 = k := ⟨_, rfl⟩
  have HK := Lib.hid hk'
  clear h hb hk
  rw [hk'] at c0 g0 wq eq1 HS hwl hor
  clear hk'
  generalize wd64 f k = x at *
  generalize b % 64 = r at *
  go_enter Tryz.func92, Tryz.ntmps92
  go_region
  have e1 := heap_setCell_same w p (1 + k) _ _ (.int .u64 ((x &&& (18446744073709551615 - 2 ^ r) : Nat) : Int)) HH.out
  have e2 := ((Mod.refl (fun k => k = p) w).setCell (p := ⟨p, 1 + k, none⟩) (fun _ => rfl) (.int .u64 ((x &&& (18446744073709551615 - 2 ^ r) : Nat) : Int))).drew
  have e3 : (whC q f many).setIfInBounds (1 + k) (.int .u64 ((x &&& (18446744073709551615 - 2 ^ r) : Nat) : Int)) = whC q (setB f b false) many := by
    have := whC_set (q := q) (f := f) (many := many) (v := false) (x := x &&& (18446744073709551615 - 2 ^ r)) HB.out (by rw [HK.out]; exact HS.out)
    rw [HK.out] at this
    exact this
  rw [e3] at e1
  go_end0
  exact ⟨rfl, e1, e2⟩
end
end Go.Proofs.YtlalpenfgkfkpaaGreatDoor
