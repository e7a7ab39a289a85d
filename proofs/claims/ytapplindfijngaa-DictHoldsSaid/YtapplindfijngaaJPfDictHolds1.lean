/- Lemmas and contracts of functions, strung together out of 6 texts. No condition. -/
import Derived.WalkKit
import Derived.WalkSpells
import Derived.WalkLawsBesides
import Derived.Outline
import Derived.Lib.Hide
import Derived.Deep.AppendLies
import Derived.Deep.AppendSrc
import Derived.Deep.RegionHeld3
import Derived.BigQuiet
import Derived.Deep.DeepCutAuto
import Derived.Deep.RegionLaw
import Derived.Deep.QuietTactic
import Derived.Test.YtapplindfijngaaProg
import Derived.ProofKit
import Derived.OpenShut
import Derived.Below
import Derived.ChangeSame
import Derived.Carry
import Derived.ChangeSlices
import Derived.Deep.Slices
import Derived.Lib.SmallJoins
import Derived.ChangeArms
import Derived.Handy
/- Which blocks a step may have turned (Mod), slices that are read (ReadAt), owned rows, the append law for what is read. -/
namespace Go.Proofs.Ytapplindfijngaa
open Go.RowKit

/-! ## Which blocks a step may have turned -/

/-- Of the blocks that were there, only those in S may have turned; nothing is gone. -/
structure Mod (S : Nat → Prop) (w w' : World) : Prop where
  os : w'.os = w.os
  tape : w'.tape = w.tape
  output : w'.output = w.output
  size : w.heap.size ≤ w'.heap.size
  block : ∀ k, k < w.heap.size → ¬ S k → w'.heap[k]? = w.heap[k]?

/-- Nothing that was there has turned. -/
abbrev Pure (w w' : World) : Prop := Mod (fun _ => False) w w'

theorem Mod.refl (S : Nat → Prop) (w : World) : Mod S w w := ⟨rfl, rfl, rfl, Nat.le_refl _, fun _ _ _ => rfl⟩
theorem Mod.mono {S S' : Nat → Prop} {w w' : World} (h : Mod S w w') (hs : ∀ k, k < w.heap.size → S k → S' k) : Mod S' w w' :=
  ⟨h.os, h.tape, h.output, h.size, fun k hk hn => h.block k hk (fun hx => hn (hs k hk hx))⟩
theorem Mod.trans' {S T U : Nat → Prop} {a b c : World} (h : Mod S a b) (k : Mod T b c) (hs : ∀ i, i < a.heap.size → S i → U i) (ht : ∀ i, i < a.heap.size → T i → U i) : Mod U a c :=
  ⟨k.os.trans h.os, k.tape.trans h.tape, k.output.trans h.output, Nat.le_trans h.size k.size, fun i hi hn =>
    (k.block i (Nat.lt_of_lt_of_le hi h.size) (fun hx => hn (ht i hi hx))).trans (h.block i hi (fun hx => hn (hs i hi hx)))⟩
theorem Mod.trans {S : Nat → Prop} {a b c : World} (h : Mod S a b) (k : Mod S b c) : Mod S a c := h.trans' k (fun _ _ h => h) (fun _ _ h => h)
theorem Mod.of_pure {S : Nat → Prop} {w w' : World} (h : Pure w w') : Mod S w w' := h.mono (fun _ _ h => h.elim)
theorem Mod.of_grown {S : Nat → Prop} {w w' : World} {row : Option Nat} (h : w.grownBy w' row) (hs : ∀ k, row = some k → k < w.heap.size → S k) : Mod S w w' :=
  ⟨h.os, h.tape, h.output, h.size, fun k hk hn => h.block k hk (fun e => hn (hs k e.symm hk))⟩
theorem Mod.of_below {S : Nat → Prop} {w w' : World} (h : Below w.heap.size w w') : Mod S w w' := ⟨h.os, h.tape, h.output, h.size, fun k hk _ => h.block k hk⟩
theorem Mod.below {S : Nat → Prop} {w w' : World} (h : Mod S w w') (hs : ∀ k, k < w.heap.size → ¬ S k) : Below w.heap.size w w' := ⟨h.os, h.tape, h.output, h.size, fun k hk => h.block k hk (hs k hk)⟩
theorem Mod.alloc {S : Nat → Prop} {a w : World} (h : Mod S a w) (o : Obj) : Mod S a (w.alloc o) :=
  ⟨h.os, h.tape, h.output, Nat.le_trans h.size (by simp), fun k hk hn => (Below.heap_alloc w o k (Nat.lt_of_lt_of_le hk h.size)).trans (h.block k hk hn)⟩
theorem Mod.drew {S : Nat → Prop} {a w : World} (h : Mod S a w) : Mod S a w.drew := ⟨h.os, h.tape, h.output, h.size, h.block⟩
theorem Mod.of_drew {S : Nat → Prop} {w w' : World} (h : Mod S w.drew w') : Mod S w w' := ⟨h.os, h.tape, h.output, h.size, h.block⟩
theorem Mod.drewN {S : Nat → Prop} {a w : World} (h : Mod S a w) (n : Nat) : Mod S a (w.drewN n) := ⟨h.os, h.tape, h.output, h.size, h.block⟩
theorem Mod.setCell {S : Nat → Prop} {a w : World} (h : Mod S a w) {p : Addr} (hp : p.block < a.heap.size → S p.block) (u : Value) : Mod S a (w.setCell p u) :=
  ⟨h.os, h.tape, h.output, by simpa [World.setCell] using h.size, fun k hk hn => (Below.heap_setCell w p u k (fun e => by subst e; exact hn (hp hk))).trans (h.block k hk hn)⟩

theorem Mod.then {S T : Nat → Prop} {a b c : World} (h : Mod S a b) (k : Mod T b c) (ht : ∀ i, i < a.heap.size → T i → S i) : Mod S a c := h.trans' k (fun _ _ h => h) ht
/-- Behind a call that turned nothing: all cells and marks read as before (two rules for the walk). -/
theorem Mod.cells {W w1 : World} (h : Pure W w1) : (∀ b o, b < W.heap.size → w1.cell? ⟨b, o, none⟩ = W.cell? ⟨b, o, none⟩) ∧ (∀ b o, b < W.heap.size → w1.frozen? ⟨b, o, none⟩ = W.frozen? ⟨b, o, none⟩) :=
  ⟨fun b o hb => World.cell?_of_block (w := W) (a := ⟨b, o, none⟩) (h.block b hb (fun h => h)), fun b o hb => World.frozen?_of_block (w := W) (a := ⟨b, o, none⟩) (h.block b hb (fun h => h))⟩
theorem Mod.cell {S : Nat → Prop} {w w' : World} (h : Mod S w w') {a : Addr} {v : Value} (hn : ¬ S a.block) (hc : w.cell? a = some v) : w'.cell? a = some v :=
  (World.cell?_of_block (w := w) (h.block a.block (World.block_lt_of_cell? w a hc) hn)).trans hc
theorem Mod.heap {S : Nat → Prop} {w w' : World} (h : Mod S w w') {k : Nat} {o : Obj} (hn : ¬ S k) (hc : w.heap[k]? = some o) : w'.heap[k]? = some o :=
  (h.block k (lt_of_block hc) hn).trans hc
theorem Mod.lt {S : Nat → Prop} {w w' : World} (h : Mod S w w') {k : Nat} (hk : k < w.heap.size) : k < w'.heap.size := Nat.lt_of_lt_of_le hk h.size

/-- The block that was just made, under whatever name of its number; an elder one. -/
theorem heap_new {w : World} {o : Obj} {n : Nat} (hn : n = w.heap.size) : (w.alloc o).heap[n]? = some o := by subst hn; exact heap_alloc_new w o
theorem heap_keep {w : World} {o x : Obj} {n : Nat} (h : w.heap[n]? = some x) : (w.alloc o).heap[n]? = some x := by
  rw [Below.heap_alloc w o n (lt_of_block h)]; exact h
theorem heap_set_other {w : World} {a : Addr} {v : Value} {x : Obj} {n : Nat} (h : w.heap[n]? = some x) (hn : n ≠ a.block) : (w.setCell a v).heap[n]? = some x := by
  rw [heap_setCell_other w a n v hn]; exact h

/-- A block of one's own behind a step that has not turned it. -/
theorem Mod.box {S : Nat → Prop} {W w1 : World} (h : Mod S W w1) {b : Nat} {cs : Array Value} {T : TypeId} (hb : W.heap[b]? = some (.cells cs T (0, 0))) (hn : ¬ S b) :
    (∀ i, w1.cell? ⟨b, i, none⟩ = cs[i]?) ∧ (∀ i, w1.frozen? ⟨b, i, none⟩ = false) := by
  have := h.heap hn hb
  exact ⟨fun i => cell_of_row w1 b i cs T (0, 0) this, fun i => frozen_of_row w1 b i cs T this⟩

theorem w64_nat (n : Nat) (h : n ≤ 9223372036854775807) : wrap64 (n : Int) = n := IntWalk.wrap64_in _ (by omega)
theorem u32_nat (n : Nat) (h : n ≤ 4294967295) : wrap64 (n : Int) % 4294967296 = n := by rw [w64_nat n (by omega)]; omega

/-! ## Slices that are read -/

/-- The slice value v reads, element by element (k cells each), as the cells xs. -/
def ReadAt (w : World) (v : Value) (k : Nat) (xs : List Value) : Prop :=
  ∃ (a : Option Addr) (n c : Nat), v = .slice a n c ∧ xs.length = n * k ∧ (∀ u ∈ xs, u.oneCell' = true) ∧ (a = none → n = 0) ∧ ∀ ad, a = some ad → ∀ j u, xs[j]? = some u → w.cell? (ad.add j) = some u

theorem ReadAt.nil (w : World) (k : Nat) : ReadAt w (.slice none 0 0) k [] := ⟨none, 0, 0, rfl, by simp, by simp, fun _ => rfl, fun _ h => by cases h⟩

/-- The block that a slice value reads from (none if it reads nothing). -/
def rdBlock : Value → Option Nat
  | .slice (some a) n _ => if n = 0 then none else some a.block
  | _ => none
theorem rdBlock_own {v : Value} {g : Nat} (h : rdBlock v = some g) : v.ownBlock = some g := by
  unfold rdBlock at h
  split at h
  · split at h
    · cases h
    · exact h
  · cases h
theorem addr_block (ad : Addr) (j : Nat) : (ad.add j).block = ad.block := by unfold Addr.add; split <;> rfl
theorem ReadAt.frame {w w' : World} {v : Value} {k : Nat} {xs : List Value} {S : Nat → Prop} (h : ReadAt w v k xs) (hm : Mod S w w') (hn : ∀ g, rdBlock v = some g → ¬ S g) : ReadAt w' v k xs := by
  obtain ⟨a, n, c, rfl, hl, h1, h0, hc⟩ := h
  refine ⟨a, n, c, rfl, hl, h1, h0, fun ad ha j u hu => ?_⟩
  refine hm.cell ?_ (hc ad ha j u hu)
  rw [addr_block]
  refine hn ad.block ?_
  subst ha
  have : n ≠ 0 := by
    rintro rfl
    have : xs = [] := List.eq_nil_of_length_eq_zero (by simpa using hl)
    subst this
    cases hu
  simp [rdBlock, this]
theorem ReadAt.lt {w : World} {v : Value} {k : Nat} {xs : List Value} (h : ReadAt w v k xs) (hk : 0 < k) {g : Nat} (hg : rdBlock v = some g) : g < w.heap.size := by
  obtain ⟨a, n, c, rfl, hl, h1, h0, hc⟩ := h
  cases a with
  | none => cases hg
  | some ad =>
    simp only [rdBlock] at hg
    split at hg
    · cases hg
    · cases hg
      have hp : 0 < xs.length := by rw [hl]; exact Nat.mul_pos (by omega) hk
      have := World.block_lt_of_cell? w _ (hc ad rfl 0 _ (List.getElem?_eq_getElem hp))
      rwa [addr_block] at this

theorem ReadAt.of_owns {w : World} {e : TypeId} {k : Nat} {v : Value} {n : Nat} {xs : List Value} (h : w.ownsRow 0 e k v n xs) (h1 : ∀ u ∈ xs, u.oneCell' = true) : ReadAt w v k xs := by
  obtain ⟨hl, hv⟩ := h
  rcases hv with ⟨rfl, rfl⟩ | ⟨g, cap, cur, rfl, hb, hg, hnc, hcm, hcs, ht⟩
  · have : xs = [] := List.eq_nil_of_length_eq_zero (by simpa using hl)
    subst this
    exact ReadAt.nil w k
  · have hown : w.ownsRow 0 e k (.slice (some ⟨g, 0, none⟩) n cap) n xs := ⟨hl, .inr ⟨g, cap, cur, rfl, hb, hg, hnc, hcm, hcs, ht⟩⟩
    exact ⟨some ⟨g, 0, none⟩, n, cap, rfl, hl, h1, (fun h => by cases h), fun ad ha j u hu => by cases ha; exact hown.cells rfl j u hu⟩

/-- The cells of a flat row. -/
theorem flat_get {α β : Type} (f : α → List β) (k : Nat) (hf : ∀ a, (f a).length = k) (j : Nat) (hj : j < k) : ∀ (M : List α) (i : Nat), (M.flatMap f)[i * k + j]? = (M[i]?).bind fun m => (f m)[j]?
  | [], i => by simp
  | a :: M, 0 => by
    simp only [List.flatMap_cons, Nat.zero_mul, Nat.zero_add, List.getElem?_cons_zero, Option.bind_some]
    rw [List.getElem?_append_left (by rw [hf]; exact hj)]
  | a :: M, i + 1 => by
    have e : (i + 1) * k + j = (f a).length + (i * k + j) := by rw [hf, Nat.add_mul]; omega
    simp only [List.flatMap_cons, List.getElem?_cons_succ]
    rw [e, List.getElem?_append_right (Nat.le_add_right _ _), Nat.add_sub_cancel_left]
    exact flat_get f k hf j hj M i
theorem flat_length {α β : Type} (f : α → List β) (k : Nat) (hf : ∀ a, (f a).length = k) : ∀ (M : List α), (M.flatMap f).length = M.length * k
  | [] => by simp
  | a :: M => by simp only [List.flatMap_cons, List.length_append, hf, flat_length f k hf M, List.length_cons, Nat.add_mul]; omega

/-- The address of an owned row, its cells. -/
theorem owns_form {w : World} {T k : Nat} {v : Value} {n : Nat} {xs : List Value} (h : w.ownsRow 0 T k v n xs) : ∃ a c, v = .slice a n c ∧ n ≤ c := by
  rcases h.2 with ⟨rfl, rfl⟩ | ⟨g, cap, cur, rfl, _, _, hnc, _⟩
  · exact ⟨none, 0, rfl, Nat.le_refl _⟩
  · exact ⟨_, _, rfl, hnc⟩
theorem owns_at {w : World} {T k : Nat} {v : Value} {n : Nat} {xs : List Value} (h : w.ownsRow 0 T k v n xs) (hn : 0 < n) :
    ∃ g c, v = .slice (some ⟨g, 0, none⟩) n c ∧ n ≤ c ∧ g < w.heap.size ∧ (∀ j u, xs[j]? = some u → w.cell? ⟨g, j, none⟩ = some u) ∧ (∀ j, w.frozen? ⟨g, j, none⟩ = false) ∧ ∃ cur, w.heap[g]? = some (.cells cur T (0, 0)) ∧ cur.size = c * k ∧ cur.toList.take (n * k) = xs ∧ c ≤ maxLen := by
  obtain ⟨hl, hv⟩ := h
  rcases hv with ⟨_, h0⟩ | ⟨g, cap, cur, rfl, hb, hg, hnc, hm, hcs, ht⟩
  · omega
  · refine ⟨g, cap, rfl, hnc, lt_of_block hg, fun j u hu => ?_, fun j => frozen_of_row w g j cur T hg, cur, hg, hcs, ht, hm⟩
    rw [cell_of_row w g j cur T (0, 0) hg]
    rw [← ht, List.getElem?_take] at hu
    split at hu
    · simpa using hu
    · cases hu

theorem owns_heap {w w' : World} {T k : Nat} {v : Value} {n : Nat} {xs : List Value} (h : w.ownsRow 0 T k v n xs) (hn : ∀ g, v.ownBlock = some g → g < w.heap.size → w'.heap[g]? = w.heap[g]?) : w'.ownsRow 0 T k v n xs := by
  refine ⟨h.1, ?_⟩
  rcases h.2 with h2 | ⟨g, cap, cur, rfl, hb, hg, rest⟩
  · exact .inl h2
  · exact .inr ⟨g, cap, cur, rfl, hb, (hn g rfl (lt_of_block hg)).trans hg, rest⟩
theorem owns_mod {w w' : World} {T k : Nat} {v : Value} {n : Nat} {xs : List Value} {S : Nat → Prop} (h : w.ownsRow 0 T k v n xs) (hm : Mod S w w') (hn : ∀ g, v.ownBlock = some g → ¬ S g) : w'.ownsRow 0 T k v n xs := by
  refine ⟨h.1, ?_⟩
  rcases h.2 with h2 | ⟨g, cap, cur, rfl, hb, hg, rest⟩
  · exact .inl h2
  · exact .inr ⟨g, cap, cur, rfl, hb, hm.heap (hn g rfl) hg, rest⟩
/-- The block of an owned row is a block of its elements' type. -/
theorem owns_type {w : World} {T k : Nat} {v : Value} {n : Nat} {xs : List Value} (h : w.ownsRow 0 T k v n xs) {g : Nat} (hg : v.ownBlock = some g) : ∃ cur, w.heap[g]? = some (.cells cur T (0, 0)) := by
  rcases h.2 with ⟨rfl, _⟩ | ⟨g', cap, cur, rfl, _, hb, _⟩
  · cases hg
  · cases hg; exact ⟨cur, hb⟩
theorem owns_lt {w : World} {T k : Nat} {v : Value} {n : Nat} {xs : List Value} (h : w.ownsRow 0 T k v n xs) {g : Nat} (hg : v.ownBlock = some g) : g < w.heap.size := (h.lt g hg).2
/-- Two owned rows of different types lie in different blocks. -/
theorem owns_apart {w : World} {T T' k k' : Nat} {v v' : Value} {n n' : Nat} {xs xs' : List Value} (h : w.ownsRow 0 T k v n xs) (h' : w.ownsRow 0 T' k' v' n' xs') (hT : T ≠ T') {g : Nat} (hg : v.ownBlock = some g) : v'.ownBlock ≠ some g := by
  intro hg'
  obtain ⟨c, e⟩ := owns_type h hg
  obtain ⟨c', e'⟩ := owns_type h' hg'
  rw [e] at e'
  cases e'
  exact hT rfl
theorem owns_len {w : World} {T k : Nat} {v : Value} {n m : Nat} {xs : List Value} (h : w.ownsRow 0 T k v n xs) (hk : 0 < k) (hm : xs.length = m * k) : n = m := Nat.eq_of_mul_eq_mul_right hk (h.1.symm.trans hm)
theorem ReadAt.of_block {w : World} {B : Nat} {cs : Array Value} {T : TypeId} {fr : Nat × Nat} (n c k : Nat) (hb : w.heap[B]? = some (.cells cs T fr)) (hl : cs.toList.length = n * k) (h1 : ∀ u ∈ cs.toList, u.oneCell' = true) :
    ReadAt w (.slice (some ⟨B, 0, none⟩) n c) k cs.toList :=
  ⟨some ⟨B, 0, none⟩, n, c, rfl, hl, h1, (fun h => by cases h), fun ad ha j u hu => by cases ha; exact World.news_of_block hb j u hu⟩

/-- A cell of an owned row is stored into. -/
theorem owns_setCell {w : World} {T k g n c : Nat} {xs : List Value} (h : w.ownsRow 0 T k (.slice (some ⟨g, 0, none⟩) n c) n xs) (j : Nat) (u : Value) (hj : j < n * k) :
    (w.setCell ⟨g, j, none⟩ u).ownsRow 0 T k (.slice (some ⟨g, 0, none⟩) n c) n (xs.set j u) := by
  obtain ⟨hl, hv⟩ := h
  refine ⟨by rw [List.length_set]; exact hl, .inr ?_⟩
  rcases hv with ⟨hv, _⟩ | ⟨g', cap, cur, hv, hb, hg, hnc, hm, hcs, ht⟩
  · cases hv
  · cases hv
    refine ⟨g, c, cur.setIfInBounds j u, rfl, hb, heap_setCell_same w g j cur T u hg, hnc, hm, by rw [Array.size_setIfInBounds]; exact hcs, ?_⟩
    rw [Array.toList_setIfInBounds, List.take_set, ht]

/-- Replacing one row of a flat list, cell by cell. -/
theorem flatten_set (k j : Nat) (hj : j < k) (u : Value) : ∀ (R : List (List Value)) (_ : ∀ r ∈ R, r.length = k) (i : Nat), R.flatten.set (i * k + j) u = (R.modify i (fun r => r.set j u)).flatten
  | [], _, i => by simp
  | r :: R, hR, 0 => by
    simp only [Nat.zero_mul, Nat.zero_add, List.flatten_cons, List.modify_zero_cons]
    rw [List.set_append_left _ _ (by rw [hR r (by simp)]; exact hj)]
  | r :: R, hR, i + 1 => by
    have hr : r.length = k := hR r (by simp)
    simp only [List.flatten_cons, List.modify_succ_cons]
    rw [List.set_append_right _ _ (by rw [hr, Nat.add_mul]; omega)]
    have e : (i + 1) * k + j - r.length = i * k + j := by rw [hr, Nat.add_mul]; omega
    rw [e, flatten_set k j hj u R (fun r h => hR r (by simp [h])) i]
theorem modify_length {R : List (List Value)} {k : Nat} (hR : ∀ r ∈ R, r.length = k) (i j : Nat) (u : Value) : ∀ r ∈ R.modify i (fun r => r.set j u), r.length = k := by
  intro r hr
  obtain ⟨n, hn⟩ := List.mem_iff_getElem?.1 hr
  rw [List.getElem?_modify] at hn
  cases h : R[n]? with
  | none => simp [h] at hn
  | some r0 =>
    have h0 := hR r0 (List.mem_of_getElem? h)
    simp only [h, Option.map_some] at hn
    split at hn <;> (cases hn; simp [h0])
theorem modify_map_set {α : Type} (f : α → List Value) (h : List Value → List Value) (m' : α) : ∀ (M : List α) (i : Nat) (m : α), M[i]? = some m → h (f m) = f m' → (M.map f).modify i h = (M.set i m').map f
  | [], i, m, hi, _ => by simp at hi
  | a :: M, 0, m, hi, hm => by simp at hi; subst hi; simp [hm]
  | a :: M, i + 1, m, hi, hm => by
    have := modify_map_set f h m' M i m (by simpa using hi) hm
    simp only [List.map_cons, List.modify_succ_cons, List.set_cons_succ, this]

/-! ## append -/

section
variable {P : Program} (w : World)

/-- append onto an owned row (nil, empty or not), of whatever is read. -/
theorem run_append_read (t ty e : TypeId) (i : TypeInfo) (z : Value) (k bytes : Nat) (ht : P.underlying t = some (.slice e)) (hi : P.info? e = some i) (hz : i.zero = some z)
    (hsize : i.size = k) (hby : i.bytes = bytes) (hzs : z.cells.size = k) (hsz : 0 < k)
    (v : Value) (n : Nat) (xs : List Value) (hown : w.ownsRow 0 e k v n xs) (x : Value) (ys : List Value) (m : Nat) (hx : ReadAt w x k ys) (hm : ys.length = m * k)
    (h63 : n + m ≤ maxLen) (hbytes : (n + m) * bytes ≤ 140737488355328) :
    ∃ a' c' w', (Builtin.append_ #[t, t] ty #[v, x]).run P w = .ok (.slice a' (n + m) c') w' ∧ w'.ownsRow 0 e k (.slice a' (n + m) c') (n + m) (xs ++ ys) ∧ w.grownBy w' v.ownBlock ∧ ((Value.slice a' (n + m) c').ownBlock = v.ownBlock ∨ (Value.slice a' (n + m) c').ownBlock = some w.heap.size) := by
  suffices hs : ∃ v' w', (Builtin.append_ #[t, t] ty #[v, x]).run P w = .ok v' w' ∧ w'.ownsRow 0 e k v' (n + m) (xs ++ ys) ∧ w.grownBy w' v.ownBlock ∧ (v'.ownBlock = v.ownBlock ∨ v'.ownBlock = some w.heap.size) by
    obtain ⟨v', w', r1, r2, r3, r4⟩ := hs
    obtain ⟨a', c', rfl, _⟩ := owns_form r2
    exact ⟨a', c', w', r1, r2, r3, r4⟩
  obtain ⟨a, m', c, rfl, hl, h1, h0, hc⟩ := hx
  have em : m' = m := Nat.eq_of_mul_eq_mul_right hsz (hl.symm.trans hm)
  subst em
  cases a with
  | some ad =>
    obtain ⟨v', w', r1, r2, r3, _, r5⟩ := run_append_own_at (P := P) w 0 t ty e i z k bytes ht hi hz hsize hby hzs hsz v n xs hown ad m' c ys hl (fun j u hu => hc ad rfl j u hu) h1 h63 hbytes (Nat.zero_le _)
    exact ⟨v', w', r1, r2, r3, r5⟩
  | none =>
    have hm0 := h0 rfl
    subst hm0
    have hy : ys = [] := List.eq_nil_of_length_eq_zero (by simpa using hl)
    subst hy
    refine ⟨v, w, ?_, by simpa using hown, ⟨rfl, rfl, rfl, Nat.le_refl _, fun _ _ _ => rfl⟩, .inl rfl⟩
    rcases hown.2 with ⟨rfl, rfl⟩ | ⟨g, cap, cur, rfl, _, hg, hnc, _⟩
    · simp [Builtin.append_, run_underlying ht, sizeOf, typeInfo, hi, Builtin.lenOf, Builtin.firstCells, loadCells, loadCellsFrom]
    · simp [Builtin.append_, run_underlying ht, sizeOf, typeInfo, hi, Builtin.lenOf, Builtin.firstCells, hnc, storeCells]

theorem wp_append_read {o : Oper} {a : Act} {K : Act → World → Prop} {Q : Exit → Act → World → Prop} (s x : Operand) (t : TypeId)
    (ho : o.op = .call { callee := .builtin .append, args := #[s, x], argTypes := #[t, t] })
    (e : TypeId) (i : TypeInfo) (z : Value) (k bytes : Nat) (ht : P.underlying t = some (.slice e)) (hi : P.info? e = some i) (hz : i.zero = some z)
    (hsize : i.size = k) (hby : i.bytes = bytes) (hzs : z.cells.size = k) (hsz : 0 < k)
    (v : Value) (n : Nat) (xs : List Value) (hs : a.eval s = v) (hown : w.ownsRow 0 e k v n xs) (xv : Value) (ys : List Value) (m : Nat) (hxv : a.eval x = xv) (hx : ReadAt w xv k ys) (hm : ys.length = m * k)
    (h63 : n + m ≤ maxLen) (hbytes : (n + m) * bytes ≤ 140737488355328)
    (h : ∀ a' c' w', w'.ownsRow 0 e k (.slice a' (n + m) c') (n + m) (xs ++ ys) → w.grownBy w' v.ownBlock → ((Value.slice a' (n + m) c').ownBlock = v.ownBlock ∨ (Value.slice a' (n + m) c').ownBlock = some w.heap.size) → K (a.put o.dst (.slice a' (n + m) c')) w') : o.wp P a w K Q := by
  obtain ⟨a', c', w', hr, h2, h3, h4⟩ := run_append_read (P := P) w t o.type e i z k bytes ht hi hz hsize hby hzs hsz v n xs hown xv ys m hx hm h63 hbytes
  unfold Oper.wp execOp
  simp only [ho, resolve, invoke, builtin, Sem.run_bind, Sem.run_pure, Result.andThen_ok, List.map_toArray, List.map_cons, List.map_nil, hs, hxv, hr]
  exact h a' c' w' h2 h3 h4

/-- At a plain region's list. -/
theorem wpList_append_read {ops : Array Oper} {rest : List Oper} {o : Oper} {a : Act} {Q : Exit → Act → World → Prop} (hgd : o.guard = none) (s x : Operand) (t : TypeId)
    (ho : o.op = .call { callee := .builtin .append, args := #[s, x], argTypes := #[t, t] })
    (e : TypeId) (i : TypeInfo) (z : Value) (k bytes : Nat) (ht : P.underlying t = some (.slice e)) (hi : P.info? e = some i) (hz : i.zero = some z)
    (hsize : i.size = k) (hby : i.bytes = bytes) (hzs : z.cells.size = k) (hsz : 0 < k)
    (v : Value) (n : Nat) (xs : List Value) (hs : a.eval s = v) (hown : w.ownsRow 0 e k v n xs) (xv : Value) (ys : List Value) (m : Nat) (hxv : a.eval x = xv) (hx : ReadAt w xv k ys) (hm : ys.length = m * k)
    (h63 : n + m ≤ maxLen) (hbytes : (n + m) * bytes ≤ 140737488355328)
    (h : ∀ a' c' w', w'.ownsRow 0 e k (.slice a' (n + m) c') (n + m) (xs ++ ys) → w.grownBy w' v.ownBlock → ((Value.slice a' (n + m) c').ownBlock = v.ownBlock ∨ (Value.slice a' (n + m) c').ownBlock = some w.heap.size) → wpList P ops Q rest (a.put o.dst (.slice a' (n + m) c')) w') : wpList P ops Q (o :: rest) a w :=
  wpList_plain hgd fun _ hK => wp_append_read w s x t ho e i z k bytes ht hi hz hsize hby hzs hsz v n xs hs hown xv ys m hxv hx hm h63 hbytes fun a' c' w' h2 h3 h4 => hK _ _ (h a' c' w' h2 h3 h4)

/-- At a step of a region that draws its order. -/
theorem step_append_read {ops : Array Oper} {o : Oper} {a : Act} {K : Act → World → Prop} {Q : Exit → Act → World → Prop} {E : Prop} (hgd : o.guard = none) (s x : Operand) (t : TypeId)
    (ho : o.op = .call { callee := .builtin .append, args := #[s, x], argTypes := #[t, t] })
    (e : TypeId) (i : TypeInfo) (z : Value) (k bytes : Nat) (ht : P.underlying t = some (.slice e)) (hi : P.info? e = some i) (hz : i.zero = some z)
    (hsize : i.size = k) (hby : i.bytes = bytes) (hzs : z.cells.size = k) (hsz : 0 < k)
    (v : Value) (n : Nat) (xs : List Value) (hs : a.eval s = v) (hown : w.ownsRow 0 e k v n xs) (xv : Value) (ys : List Value) (m : Nat) (hxv : a.eval x = xv) (hx : ReadAt w xv k ys) (hm : ys.length = m * k)
    (h63 : n + m ≤ maxLen) (hbytes : (n + m) * bytes ≤ 140737488355328)
    (h : ∀ a' c' w', w'.ownsRow 0 e k (.slice a' (n + m) c') (n + m) (xs ++ ys) → w.grownBy w' v.ownBlock → ((Value.slice a' (n + m) c').ownBlock = v.ownBlock ∨ (Value.slice a' (n + m) c').ownBlock = some w.heap.size) → K (a.put o.dst (.slice a' (n + m) c')) w') :
    if Region.wanted o (yielded ops a.tmps) = true then Oper.wp P o a w K Q else E := by
  have hw : Region.wanted o (yielded ops a.tmps) = true := by simp [Region.wanted, hgd]
  rw [if_pos hw]
  exact wp_append_read w s x t ho e i z k bytes ht hi hz hsize hby hzs hsz v n xs hs hown xv ys m hxv hx hm h63 hbytes h
end

end Go.Proofs.Ytapplindfijngaa

/- A row's last step behind a call that turned nothing that was there. -/
namespace Go.Proofs.Ytapplindfijngaa
open Go.ChangeShapes Go.WideShapes Go.ChangeAt Go.RowKit

/-- A row's last step behind a call that turned nothing that was there. -/
theorem post_of_pure {H : Type} {enc : TypeId × Value → H} {P : Program} {f : Func} {s : ChangeSpec} {apart fresh handsOn again : Bool} {W W' : World} {args : Array Value} {v : Value} {ds gs : List (DataW H)} {before pa pv : List MemPlace}
    (hW : DataW.Whole enc P f.params.toList s.vars apart W args.toList ds gs before)
    (hres : ∀ (b : Nat) (sp : Nat → Bool) (hd : Bool), DataW.TrodAll enc P W' b sp hd f.resultTypes.toList (v.resultList f.resultTypes.size) (s.fn H (ds ++ gs)).results [])
    (hargs : ∀ sp : Nat → Bool, (∀ p ∈ before, sp p.block = true) → DataW.TrodAll enc P W' 0 sp true f.params.toList args.toList (s.fn H (ds ++ gs)).args pa)
    (hvars : ∀ sp : Nat → Bool, (∀ p ∈ before, sp p.block = true) → DataW.TrodVars enc P W' sp s.vars (s.fn H (ds ++ gs)).vars pv)
    (hps : before = pa ++ pv) (hm : Pure W W')
    (hok : ∀ (j : Nat) (t : TypeId) (r : Value), f.resultTypes[j]? = some t → (v.resultList f.resultTypes.size)[j]? = some r → Value.okWide P W' .any 0 t r) :
    s.post enc P f apart fresh handsOn again W args v W' := by
  have hb : Below W.heap.size W W' := hm.below (fun _ _ h => h)
  subst hps
  have hlt : ∀ p ∈ pa ++ pv, p.block < W.heap.size := fun p hp => hW.lt p hp
  have hold : ∀ p ∈ pa ++ pv, (fun b => decide (b < W.heap.size)) p.block = true := fun p hp => decide_eq_true (hlt p hp)
  refine ⟨ds, gs, pa ++ pv, [], pa, pv, hW, hres _ _ _, hargs _ hold, hvars _ hold, World.keptBut_mono (fun p hp => ⟨hp, Or.inr (List.mem_append.1 hp)⟩) (hb.frame (· ∈ pa ++ pv)), fun _ => ?_⟩
  obtain ⟨_, _, _, _, _, hz, hn⟩ := hW
  refine ⟨hok, _, _, ([] ++ pa) ++ pv, ⟨[] ++ pa, pv, trodAll_append (hargs _ (fun _ _ => rfl)) (hres _ _ _), hvars _ (fun _ _ => rfl), rfl, fun b off hp => ?_, fun ha => by simpa using hn ha⟩, fun p hp _ => by simpa using hp⟩
  have hin : MemPlace.cell b off ∈ pa ++ pv := by simpa using hp
  rw [hb.frozen (hlt _ hin)]
  exact hz b off hin
theorem ownA : ownKnob Try.prog.godebug = none := by kernel_rfl
end Go.Proofs.Ytapplindfijngaa

/- A row's last step for a law: it answers true and has turned nothing that was there; slices of integers that came in, as cells that are read. -/
namespace Go.Proofs.Ytapplindfijngaa
open Go.ChangeShapes Go.WideShapes Go.ChangeAt Go.RowKit

theorem laidA : laidOutB Try.prog = true := by kernel_rfl
theorem trodAll_stays {H : Type} {enc : TypeId × Value → H} {P : Program} {W W' : World} {sp : Nat → Bool} (hl : laidOutB P = true) : ∀ (ts : List TypeId) (vs : List Value) (ds : List (DataW H)) (ps : List MemPlace),
    (ts.all fun t => P.readableRec t && decide (t < P.types.size)) = true → DataW.TrodAll enc P W 0 (fun _ => true) true ts vs ds ps → (∀ x ∈ ps, W.sameAt W' x) → (∀ x ∈ ps, sp x.block = true) → DataW.TrodAll enc P W' 0 sp true ts vs ds ps
  | [], [], [], ps, _, h, _, _ => h
  | t :: ts, v :: vs, d :: ds, ps, ht, h, hs, hp => by
    obtain ⟨p, q, h1, h2, rfl⟩ := h
    simp only [List.all_cons, Bool.and_eq_true, decide_eq_true_eq] at ht
    exact ⟨p, q, WideElems.Trod_stays hl ht.1.1 ht.1.2 h1 (fun x hx => hs x (List.mem_append_left _ hx)) (fun x hx => hp x (List.mem_append_left _ hx)),
      trodAll_stays hl ts vs ds q ht.2 h2 (fun x hx => hs x (List.mem_append_right _ hx)) (fun x hx => hp x (List.mem_append_right _ hx)), rfl⟩
  | [], _ :: _, _, _, _, h, _, _ => h.elim
  | [], [], _ :: _, _, _, h, _, _ => h.elim
  | _ :: _, [], _, _, _, h, _, _ => h.elim
  | _ :: _, _ :: _, [], _, _, h, _, _ => h.elim

/-- THE LAST STEP: the law has answered true, nothing that was there has turned. -/
theorem post_of_law {H : Type} {enc : TypeId × Value → H} {P : Program} {f : Func} {s : ChangeSpec} {fresh handsOn again : Bool} {W W' : World} {args : Array Value} {ds gs : List (DataW H)} {before : List MemPlace} {tb : TypeId}
    (hl : laidOutB P = true) (hts : (f.params.toList.all fun t => P.readableRec t && decide (t < P.types.size)) = true) (hv : s.vars = []) (hrt : f.resultTypes = #[tb]) (htb : P.underlying tb = some .bool)
    (hW : DataW.Whole enc P f.params.toList s.vars false W args.toList ds gs before) (hspec : s.fn H (ds ++ []) = { results := [.lit (.bool true)], args := ds }) (hm : Pure W W') :
    s.post enc P f false fresh handsOn again W args (.bool true) W' := by
  have hW' := hW
  obtain ⟨p, q, hA, hV, rfl, hfz, hnd⟩ := hW
  have hb : Below W.heap.size W W' := hm.below (fun _ _ h => h)
  rw [hv] at hV
  obtain ⟨rfl, rfl⟩ := trodVars_none hV
  have hlt : ∀ x ∈ p, x.block < W.heap.size := fun x hx => hW'.lt x (List.mem_append_left _ hx)
  refine post_of_pure (pa := p) (pv := []) hW' ?_ ?_ ?_ rfl hm ?_
  · intro b sp hd
    rw [hspec, hrt]
    exact trodAll_cons_mk (shut_bool htb _) trodAll_mk0
  · intro sp hsp
    rw [hspec]
    exact trodAll_stays hl _ _ _ _ hts hA (fun x hx => hb.same (hlt x hx)) (fun x hx => hsp x (List.mem_append_left _ hx))
  · intro sp _
    rw [hv, hspec]
    rfl
  · exact ok_one hrt rfl (okWide_bool_mk htb _)

/-- A slice of integers that came in. -/
theorem open_ints_read {H : Type} {enc : TypeId × Value → H} {P : Program} {W : World} {base : Nat} {sp : Nat → Bool} {held : Bool} {r : Reach} {b0 : Nat} {t e : TypeId} {k : IntKind} {v : Value} {d : DataW H} {p : List MemPlace}
    (ht : P.underlying t = some (.slice e)) (he : P.underlying e = some (.int k)) (hc : P.cellsOf e = 1) (hv : Value.okWide P W r b0 t v) (h : DataW.Trod enc P W base sp held t v d p) :
    ∃ (a : Option Addr) (n c : Nat) (zs : List Int), v = .slice a n c ∧ n ≤ c ∧ c ≤ maxLen ∧ zs.length = n ∧ ReadAt W (.slice a n c) 1 (zs.map (Value.int k)) ∧ (∀ z ∈ zs, (Lit.int k z).wf = true) := by
  obtain ⟨a0, n0, c0, rfl⟩ := okWide_slice ht hv
  obtain ⟨fuel, hf⟩ := h
  rcases open_ints ht he hc hf with ⟨hcs, _⟩ | ⟨a, n, c, zs, hcs, _, hl, hm, hz, _, hcell, hw⟩
  · simp [Value.cells] at hcs
    obtain ⟨rfl, rfl, rfl⟩ := hcs
    exact ⟨none, 0, 0, [], rfl, Nat.le_refl _, Nat.zero_le _, rfl, ReadAt.nil _ _, by simp⟩
  · simp [Value.cells] at hcs
    obtain ⟨rfl, rfl, rfl⟩ := hcs
    have hlz : n0 ≤ zs.length := by rw [hz]; split <;> omega
    refine ⟨some a, n0, c0, zs.take n0, rfl, hl, hm, by rw [List.length_take]; omega, ⟨some a, n0, c0, rfl, by simp; omega, ?_, (fun h => by cases h), ?_⟩, fun z hz => hw z (List.mem_of_mem_take hz)⟩
    · intro u hu
      obtain ⟨_, _, rfl⟩ := List.mem_map.1 hu
      rfl
    · intro ad ha j u hu
      cases ha
      rw [List.getElem?_map] at hu
      cases e : (zs.take n0)[j]? with
      | none => rw [e] at hu; cases hu
      | some z =>
        rw [e] at hu
        cases hu
        rw [List.getElem?_take] at e
        split at e
        · rename_i hj
          rw [hcell j (by omega)]
          simp [List.getD, e]
        · cases e
/-- .. of a kind without a sign, as natural numbers. -/
theorem open_u32s {H : Type} {enc : TypeId × Value → H} {P : Program} {W : World} {base : Nat} {sp : Nat → Bool} {held : Bool} {r : Reach} {b0 : Nat} {t e : TypeId} {v : Value} {d : DataW H} {p : List MemPlace}
    (ht : P.underlying t = some (.slice e)) (he : P.underlying e = some (.int .u32)) (hc : P.cellsOf e = 1) (hv : Value.okWide P W r b0 t v) (h : DataW.Trod enc P W base sp held t v d p) :
    ∃ (a : Option Addr) (c : Nat) (gs : List Nat), v = .slice a gs.length c ∧ gs.length ≤ 9223372036854775807 ∧ ReadAt W (.slice a gs.length c) 1 (gs.map (fun x : Nat => (.int .u32 x : Value))) ∧ (∀ z ∈ gs, z ≤ 4294967295) := by
  obtain ⟨a, n, c, zs, rfl, h1, h2, rfl, h3, h4⟩ := open_ints_read ht he hc hv h
  have hw : ∀ z ∈ zs, 0 ≤ z ∧ z ≤ 4294967295 := fun z hz => by
    have := h4 z hz
    simp [Lit.wf, IntKind.min, IntKind.max, IntKind.signed, IntKind.bits] at this
    omega
  have e : (zs.map Int.toNat).map (fun x : Nat => (.int .u32 x : Value)) = zs.map (Value.int .u32) := by
    rw [List.map_map]
    refine List.map_congr_left (fun z hz => ?_)
    have := hw z hz
    simp only [Function.comp]
    rw [Int.toNat_of_nonneg this.1]
  have hlen : (zs.map Int.toNat).length = zs.length := by simp
  refine ⟨a, c, zs.map Int.toNat, by rw [hlen], by rw [hlen]; unfold maxLen at h2; omega, by rw [e, hlen]; exact h3, fun z hz => ?_⟩
  obtain ⟨y, hy, rfl⟩ := List.mem_map.1 hz
  have := hw y hy
  omega
end Go.Proofs.Ytapplindfijngaa

/- An entry that came in. -/
namespace Go.Proofs.Ytapplindfijngaa
open Go.ChangeShapes Go.WideShapes Go.ChangeAt Go.RowKit Go.Deep Go.Joins

set_option maxRecDepth 100000
theorem entry_of {H : Type} {enc : TypeId × Value → H} {W : World} {base : Nat} {sp : Nat → Bool} {held : Bool} {r : Reach} {b0 : Nat} {v : Value} {d : DataW H} {p : List MemPlace} (hv : Value.okWide Try.prog W r b0 36 v) (h : DataW.Trod enc Try.prog W base sp held 36 v d p) :
    ∃ (key : ByteArray) (a : Option Addr) (n c : Nat) (dl b : Int), v = .agg #[.string key, .slice a n c, .int .u64 dl, .int .u64 b] ∧ key.size ≤ 9223372036854775807 ∧ n ≤ 9223372036854775807 := by
  obtain ⟨cs, rfl, hsz⟩ := okWide_struct Try.underlying36 hv
  obtain ⟨fuel, hf⟩ := h
  have e4 : (Try.prog).cellsOf 36 = 4 := by kernel_rfl
  rw [e4] at hsz
  obtain ⟨c0, c1, c2, c3, rfl⟩ := array4 hsz
  obtain ⟨y0, y1, y2, y3, n, _, _, t0, t1, t2, t3⟩ := trod_struct4 Try.underlying36 hf
  have k0 : (Try.prog).cellsOf 9 = 1 := by kernel_rfl
  have k1 : (Try.prog).cellsOf 33 = 1 := by kernel_rfl
  have k2 : (Try.prog).cellsOf 34 = 1 := by kernel_rfl
  have k3 : (Try.prog).cellsOf 22 = 1 := by kernel_rfl
  simp only [k0, k1, k2, k3, Value.cells, List.drop, List.take] at t0 t1 t2 t3
  obtain ⟨s, es, _, hs⟩ := DataW.trod_string Try.underlying9 t0
  cases es
  obtain ⟨z2, f2, _, _⟩ := DataW.trod_int Try.underlying34 t2
  obtain ⟨z3, f3, _, _⟩ := DataW.trod_int Try.underlying22 t3
  cases f2; cases f3
  have hm : maxLen ≤ 9223372036854775807 := by decide
  rcases open_slice Try.underlying33 t1 with ⟨h0, _⟩ | ⟨a, len, cap, m, n', D, Pl, h0, _, hl, hc, _⟩
  · cases h0
    exact ⟨s, none, 0, 0, z2, z3, rfl, Nat.le_trans hs hm, by omega⟩
  · cases h0
    exact ⟨s, some a, len, cap, z2, z3, rfl, Nat.le_trans hs hm, by omega⟩
end Go.Proofs.Ytapplindfijngaa

/- Slices of unsigned integers that came in, as natural numbers that are read. -/
namespace Go.Proofs.Ytapplindfijngaa
open Go.ChangeShapes Go.WideShapes Go.ChangeAt Go.RowKit

theorem open_nats {H : Type} {enc : TypeId × Value → H} {P : Program} {W : World} {base : Nat} {sp : Nat → Bool} {held : Bool} {r : Reach} {b0 : Nat} {t e : TypeId} {k : IntKind} {v : Value} {d : DataW H} {p : List MemPlace} (M : Nat)
    (hk : ∀ z : Int, (Lit.int k z).wf = true → 0 ≤ z ∧ z < M)
    (ht : P.underlying t = some (.slice e)) (he : P.underlying e = some (.int k)) (hc : P.cellsOf e = 1) (hv : Value.okWide P W r b0 t v) (h : DataW.Trod enc P W base sp held t v d p) :
    ∃ (a : Option Addr) (c : Nat) (gs : List Nat), v = .slice a gs.length c ∧ gs.length ≤ 9223372036854775807 ∧ ReadAt W (.slice a gs.length c) 1 (gs.map (fun x : Nat => (.int k x : Value))) ∧ (∀ z ∈ gs, z < M) := by
  obtain ⟨a, n, c, zs, rfl, h1, h2, rfl, h3, h4⟩ := open_ints_read ht he hc hv h
  have hw : ∀ z ∈ zs, 0 ≤ z ∧ z < M := fun z hz => hk z (h4 z hz)
  have e : (zs.map Int.toNat).map (fun x : Nat => (.int k x : Value)) = zs.map (Value.int k) := by
    rw [List.map_map]
    refine List.map_congr_left (fun z hz => ?_)
    have := hw z hz
    simp only [Function.comp]
    rw [Int.toNat_of_nonneg this.1]
  have hlen : (zs.map Int.toNat).length = zs.length := by simp
  refine ⟨a, c, zs.map Int.toNat, by rw [hlen], by rw [hlen]; unfold maxLen at h2; omega, by rw [e, hlen]; exact h3, fun z hz => ?_⟩
  obtain ⟨y, hy, rfl⟩ := List.mem_map.1 hz
  have := hw y hy
  omega
theorem wf_u64 (z : Int) (h : (Lit.int .u64 z).wf = true) : 0 ≤ z ∧ z < (18446744073709551616 : Nat) := by
  simp [Lit.wf, IntKind.min, IntKind.max, IntKind.signed, IntKind.bits] at h
  omega
theorem wf_u8 (z : Int) (h : (Lit.int .u8 z).wf = true) : 0 ≤ z ∧ z < (256 : Nat) := by
  simp [Lit.wf, IntKind.min, IntKind.max, IntKind.signed, IntKind.bits] at h
  omega
end Go.Proofs.Ytapplindfijngaa

/- entry.ValidKey, check, Copy, New and bytes.Clone. Conditions: the bytes are read as cells (ReadAt). -/
namespace Go.Proofs.Ytapplindfijngaa
open Go.RowKit
set_option maxRecDepth 100000

theorem info_u8 : (Try.prog.info? 5).map (fun i => (i.zero, i.size, i.bytes)) = some (some (.int .u8 0), 1, 1) := by kernel_rfl
@[go_sem] theorem eql_nil_bytes (w : World) (a : Option Addr) (n c : Nat) : (binOp .eql 33 (.slice a n c) (.slice none 0 0)).run Try.prog w = .ok (.bool a.isNone) w :=
  Lib.run_eql_slice_nil w _ _ a n c 0 0 Try.underlying33

/-- A post that the walk does not open. -/
def Fresh (w : World) (v : Value) : Prop := ∀ g, v.ownBlock = some g → w.heap.size ≤ g
/-- v is a slice of bytes of its own. -/
def BytesAt (w : World) (v : Value) (xs : List Value) : Prop := w.ownsRow 0 5 1 v xs.length xs

/-! ### bytes.Clone -/
theorem bytesAt_of {w : World} {v : Value} {n : Nat} {xs : List Value} (h : w.ownsRow 0 5 1 v n xs) : BytesAt w v xs := by
  have := h.1
  rw [Nat.mul_one] at this
  unfold BytesAt
  rw [this]
  exact h
theorem BytesAt.read {w : World} {v : Value} {xs : List Value} (h : BytesAt w v xs) (h1 : ∀ u ∈ xs, u.oneCell' = true) : ReadAt w v 1 xs := ReadAt.of_owns h h1
def clonePost (T k : Nat) (xs : List Value) (w : World) (e : Ending) (w' : World) : Prop :=
  ∃ a n c, e = .returned (.slice a n c) ∧ w'.ownsRow 0 T k (.slice a n c) n xs ∧ Fresh w (.slice a n c) ∧ Pure w w'

theorem clone_none (k : Nat) (xs : List Value) (w : World) (n c : Nat) (h : ReadAt w (.slice none n c) k xs) : xs = [] := by
  obtain ⟨a', n', c', he, hl, _, h0, _⟩ := h
  cases he
  exact List.eq_nil_of_length_eq_zero (by rw [hl, h0 rfl, Nat.zero_mul])

theorem owns_empty (w : World) (T k : Nat) : (w.alloc (.cells #[] T)).ownsRow 0 T k (.slice (some ⟨w.heap.size, 0, none⟩) 0 0) 0 [] :=
  ⟨by simp, .inr ⟨_, _, #[], rfl, Nat.zero_le _, heap_alloc_new w _, Nat.le_refl _, by simp [maxLen], by simp, by simp⟩⟩

theorem clone_end (T k : Nat) (xs : List Value) (w w' : World) (a : Option Addr) (m c : Nat)
    (ho : w'.ownsRow 0 T k (.slice a m c) m xs) (hg : (w.alloc (.cells #[] T)).grownBy w' (some w.heap.size)) (hb : (Value.slice a m c).ownBlock = some w.heap.size ∨ (Value.slice a m c).ownBlock = some (w.heap.size + 1)) :
    clonePost T k xs w (.returned (.slice a m c)) w' := by
  exact ⟨a, m, c, rfl, ho, fun g e => by rcases hb with hb | hb <;> (rw [hb] at e; cases e; omega),
    ((Mod.refl _ w).alloc _).trans' (Mod.of_grown (S := fun k => w.heap.size ≤ k) hg (fun k e _ => by cases e; exact Nat.le_refl _)) (fun _ _ h => h) (fun i hi h => by omega)⟩

set_option maxHeartbeats 400000 in
theorem bytes_Clone (a : Option Addr) (n c : Nat) (xs : List Value) (w : World) (hx : ReadAt w (.slice a n c) 1 xs) (hn : n ≤ 140737488355328) :
    Calls Try.prog 52 #[.slice a n c] w (clonePost 5 1 xs w) := by
  obtain ⟨i0, hi, hz0, hz1, hz2⟩ := info_parts info_u8
  have hlen : xs.length = n * 1 := by obtain ⟨a', n', c', he, hl, _⟩ := hx; cases he; exact hl
  cases a with
  | none =>
    have h0 := clone_none _ _ _ _ _ hx
    have H := Lib.hid hx; clear hx
    go_enter Try.func52, Try.ntmps52
    go_wp2
    go_ret
    exact ⟨none, 0, 0, rfl, by rw [h0]; exact World.ownsRow_nil _ _ _ _, (fun g e => by cases e), Mod.refl _ _⟩
  | some ad =>
    have H := Lib.hid (hx.frame ((Mod.refl (fun _ => False) w).alloc (.cells #[] 5)) (fun _ _ h => h)); clear hx
    have HO := Lib.hid (owns_empty w 5 1)
    go_enter Try.func52, Try.ntmps52
    go_wp2_with (at_builtin; refine wpList_append_read _ rfl _ _ 33 rfl 5 i0 _ 1 1 Try.underlying33 hi hz0 hz1 hz2 rfl (by decide) _ 0 [] rfl HO.out _ xs n rfl H.out hlen (by unfold maxLen; omega) (by omega) ?_; intro a' c' w1 ho hg hb)
    go_ret
    simp only [List.nil_append, Nat.zero_add, World.size_alloc] at ho hb
    exact clone_end _ _ _ _ _ _ _ _ ho hg hb

/-! ### entries -/
structure Ent where
  key : ByteArray
  val : List UInt8
  dl : Int
  birth : Int

def bytesOf (l : List UInt8) : List Value := l.map fun b => .int .u8 b.toNat
theorem bytesOf_one (l : List UInt8) : ∀ u ∈ bytesOf l, u.oneCell' = true := by
  intro u hu
  obtain ⟨_, _, rfl⟩ := List.mem_map.1 hu
  rfl
theorem bytesOf_length (l : List UInt8) : (bytesOf l).length = l.length := by simp [bytesOf]

/-- The cells of an entry whose value is the slice v. -/
def entCells (e : Ent) (v : Value) : List Value := [.string e.key, v, .int .u64 e.dl, .int .u64 e.birth]

def keyB (n : Nat) : Bool := decide (0 < n) && decide (n ≤ 250)
/-- What check says. -/
def errOf (ks : Nat) (n : Nat) (birth : Int) : Int := if !(keyB ks) || birth == 0 then 2 else if decide (65536 < (n : Int)) then 5 else 0

theorem entry_ValidKey (s : ByteArray) (w : World) (hs : s.size ≤ 140737488355328) : Calls Try.prog 67 #[.string s] w fun e w' => e = .returned (.bool (keyB s.size)) ∧ w = w' := by
  have H : Hid (∀ x : Bool, x = (decide ((0 : Int) < s.size) && decide ((s.size : Int) ≤ 250)) → x = keyB s.size) := by
    rintro x rfl
    simp only [keyB, Int.natCast_pos]
    congr 2
    exact propext ⟨fun h => by omega, fun h => by omega⟩
  by_cases h : 0 < s.size
  all_goals
    go_enter Try.func67, Try.ntmps67
    go_wp2
    go_ret
    exact ⟨congrArg (fun b => Ending.returned (.bool b)) (H.out _ (by simp [h])), rfl⟩

def firstOf (b1 b2 : Bool) (e1 e2 : Int) : Int := if b1 then e1 else if b2 then e2 else 0
def firstPost (b1 b2 : Bool) (e1 e2 : Int) (w : World) (e : Ending) (w' : World) : Prop :=
  e = .returned (.int .i64 (firstOf b1 b2 e1 e2)) ∧ Pure w w'

set_option maxHeartbeats 400000 in
theorem entry_first (b1 b2 : Bool) (e1 e2 : Int) (g : Nat) (w : World) (h0 : w.cell? ⟨g, 0, none⟩ = some (.bool b1)) (h1 : w.cell? ⟨g, 1, none⟩ = some (.int .i64 e1))
    (h2 : w.cell? ⟨g, 2, none⟩ = some (.bool b2)) (h3 : w.cell? ⟨g, 3, none⟩ = some (.int .i64 e2)) (hg : g < w.heap.size) :
    Calls Try.prog 66 #[.slice (some ⟨g, 0, none⟩) 2 2] w (firstPost b1 b2 e1 e2 w) := by
  have hg1 : g < w.heap.size + 1 := by omega
  cases b1
  · cases b2
    all_goals
      go_enter Try.func66, Try.ntmps66
      go_wp2
      go_rounds 3
      go_ret
      exact ⟨rfl, ((Mod.refl _ w).alloc _).alloc _⟩
  · go_enter Try.func66, Try.ntmps66
    go_wp2
    go_rounds 3
    go_ret
    exact ⟨rfl, (Mod.refl _ w).alloc _⟩

def checkPost (ks n : Nat) (birth : Int) (w : World) (e : Ending) (w' : World) : Prop := e = .returned (.int .i64 (errOf ks n birth)) ∧ Pure w w'

set_option maxHeartbeats 400000 in
theorem entry_check (s : ByteArray) (a : Option Addr) (n c : Nat) (b : Int) (w : World) (hs : s.size ≤ 140737488355328) (hn : n ≤ 140737488355328) :
    Calls Try.prog 46 #[.string s, .slice a n c, .int .u64 b] w (checkPost s.size n b w) := by
  cases hk : keyB s.size
  all_goals
    have E := Lib.hid (show errOf s.size n b = firstOf (!(keyB s.size) || b == 0) (decide (65536 < (n : Int))) 2 5 from rfl)
    go_enter Try.func46, Try.ntmps46
    go_wp2_with (first | (go_at_call 67; refine Calls.mono (entry_ValidKey s w hs) ?_; rintro e w' ⟨rfl, rfl⟩) | (go_at_call 66; refine Calls.mono (entry_first _ _ _ _ w.heap.size _ (World.cell?_alloc_new w _ _ 0) (World.cell?_alloc_new w _ _ 1) (World.cell?_alloc_new w _ _ 2) (World.cell?_alloc_new w _ _ 3) (by simp)) ?_; intro e w1 hp; obtain ⟨rfl, hp⟩ := hp))
    go_ret
    exact ⟨by rw [E.out, hk]; rfl, ((Mod.refl _ _).alloc _).trans hp⟩

/-! ### entry.Copy, entry.New -/
def copyPost (k : ByteArray) (xs : List Value) (d b : Int) (w : World) (e : Ending) (w' : World) : Prop :=
  ∃ a n c, e = .returned (.agg #[.string k, .slice a n c, .int .u64 d, .int .u64 b]) ∧ w'.ownsRow 0 5 1 (.slice a n c) n xs ∧ Fresh w (.slice a n c) ∧ Pure w w'

set_option maxHeartbeats 400000 in
theorem entry_Copy (k : ByteArray) (a : Option Addr) (n c : Nat) (d b : Int) (xs : List Value) (w : World) (hx : ReadAt w (.slice a n c) 1 xs) (hn : n ≤ 140737488355328) :
    Calls Try.prog 47 #[.agg #[.string k, .slice a n c, .int .u64 d, .int .u64 b]] w (copyPost k xs d b w) := by
  have H := Lib.hid (hx.frame (((Mod.refl (fun _ => False) w).alloc (.cells #[.string k, .slice a n c, .int .u64 d, .int .u64 b] 36)).alloc (.cells #[.string ByteArray.empty, .slice none 0 0, .int .u64 0, .int .u64 0] 36)) (fun _ _ h => h)); clear hx
  go_enter Try.func47, Try.ntmps47
  go_wp2_with (go_at_call 52; refine Calls.mono (bytes_Clone a n c xs _ H.out hn) ?_; rintro e w1 ⟨a', n', c', rfl, hr, hf, hp⟩; have h1 := hp.box (b := w.heap.size) (heap_keep (heap_new rfl)) (fun h => h); have h2 := hp.box (b := w.heap.size + 1) (heap_new (by simp)) (fun h => h); obtain ⟨h1c, h1f⟩ := h1; obtain ⟨h2c, h2f⟩ := h2)
  have hm := ((((((Mod.refl (fun k => k = w.heap.size ∨ k = w.heap.size + 1) w1).setCell (p := ⟨w.heap.size, 1, none⟩) (fun _ => .inl rfl) (.slice a' n' c')).setCell (p := ⟨w.heap.size + 1, 0, none⟩) (fun _ => .inr rfl) (.string k)).setCell (p := ⟨w.heap.size + 1, 1, none⟩) (fun _ => .inr rfl) (.slice a' n' c')).setCell (p := ⟨w.heap.size + 1, 2, none⟩) (fun _ => .inr rfl) (.int .u64 d)).setCell (p := ⟨w.heap.size + 1, 3, none⟩) (fun _ => .inr rfl) (.int .u64 b))
  refine bodyPost_ret (v := .agg #[.string k, .slice a' n' c', .int .u64 d, .int .u64 b]) (by simp [results, Try.results47, go_sem, h1c, h2c]) rfl ⟨a', n', c', rfl, owns_mod hr hm ?_, ?_, ?_⟩
  · intro g e h
    have := hf g e
    simp at this
    omega
  · intro g e
    have := hf g e
    simp at this
    omega
  · exact (((Mod.refl (fun k => w.heap.size ≤ k) w).alloc _).alloc _).trans' (hp.trans' hm (fun _ _ h => h.elim) (fun i _ h => show w.heap.size ≤ i by omega)) (fun i h h' => by omega) (fun i h h' => by omega)

def entNewPost (k : ByteArray) (xs : List Value) (d b : Int) (w : World) (e : Ending) (w' : World) : Prop :=
  ∃ a n c, e = .returned (.tuple #[.agg #[.string k, .slice a n c, .int .u64 d, .int .u64 b], .int .i64 0]) ∧ w'.ownsRow 0 5 1 (.slice a n c) n xs ∧ Fresh w (.slice a n c) ∧ Pure w w'

theorem read_length {w : World} {a : Option Addr} {n c k : Nat} {xs : List Value} (h : ReadAt w (.slice a n c) k xs) : xs.length = n * k := by
  obtain ⟨a', n', c', he, hl, _⟩ := h
  cases he
  exact hl

set_option maxHeartbeats 400000 in
theorem entry_New_ok (k : ByteArray) (a : Option Addr) (n c : Nat) (d b : Int) (xs : List Value) (w : World) (hx : ReadAt w (.slice a n c) 1 xs) (hn : n ≤ 65536) (hk0 : 0 < k.size) (hk : k.size ≤ 250) (hb : (b == 0) = false) :
    Calls Try.prog 22 #[.string k, .slice a n c, .int .u64 d, .int .u64 b] w (entNewPost k xs d b w) := by
  have E : errOf k.size n b = 0 := by
    have : keyB k.size = true := by simp [keyB, hk0, hk]
    have h2 : ¬ ((65536 : Int) < n) := by omega
    simp [errOf, this, hb, h2]
  go_enter Try.func22, Try.ntmps22
  go_wp2_with (first
    | (go_at_call 46; refine Calls.mono (entry_check k a n c b _ (by omega) (by omega)) ?_; rintro e w1 ⟨he, hp⟩; rw [E] at he; subst he; obtain ⟨hpc, hpf⟩ := hp.cells; have hz : w.heap.size < w1.heap.size := by have := hp.size; simp at this; omega)
    | (go_at_call 47; refine Calls.mono (entry_Copy k a n c d b xs _ (hx.frame (S := fun _ => False) (by (repeat' (first | (with_reducible exact Mod.refl _ _) | (with_reducible refine Mod.alloc ?_ _) | (with_reducible refine Mod.drew ?_) | (with_reducible refine Mod.drewN ?_ _) | (with_reducible refine Mod.setCell ?_ ?_ _) | (refine Mod.then ?_ (by with_reducible assumption) ?_))) <;> (all_goals (intros; first | (exfalso; assumption) | omega | (simp at *; done) | (simp at *; omega)))) (fun _ _ h => h)) (by omega)) ?_; rintro e w2 ⟨a', n', c', rfl, hr, hf, hp2⟩; obtain ⟨hqc, hqf⟩ := hp2.cells))
  refine bodyPost_ret (v := .tuple #[.agg #[.string k, .slice a' n' c', .int .u64 d, .int .u64 b], .int .i64 0]) (by simp [results, Try.results22, go_sem, hqc, hqf, hpc, hpf, hz]) rfl ⟨a', n', c', rfl, ?_, ?_, ?_⟩
  · refine owns_mod hr (S := fun k => k = w.heap.size) ?_ (fun g e h => by have := hf g e; omega)
    (repeat' (first | (with_reducible exact Mod.refl _ _) | (with_reducible refine Mod.alloc ?_ _) | (with_reducible refine Mod.drew ?_) | (with_reducible refine Mod.drewN ?_ _) | (with_reducible refine Mod.setCell ?_ ?_ _) | (refine Mod.then ?_ (by with_reducible assumption) ?_)))
    (all_goals (intros; first | (exfalso; assumption) | omega | (simp at *; done) | (simp at *; omega)))
  · intro g e
    have := hf g e
    omega
  · (repeat' (first | (with_reducible exact Mod.refl _ _) | (with_reducible refine Mod.alloc ?_ _) | (with_reducible refine Mod.drew ?_) | (with_reducible refine Mod.drewN ?_ _) | (with_reducible refine Mod.setCell ?_ ?_ _) | (refine Mod.then ?_ (by with_reducible assumption) ?_)))
    (all_goals (intros; first | (exfalso; assumption) | omega | (simp at *; done) | (simp at *; omega)))

def newErr (er : Int) (w : World) (e : Ending) (w' : World) : Prop :=
  e = .returned (.tuple #[.agg #[.string ⟨#[]⟩, .slice none 0 0, .int .u64 0, .int .u64 0], .int .i64 er]) ∧ Pure w w'

set_option maxHeartbeats 400000 in
theorem entry_New_err (k : ByteArray) (a : Option Addr) (n c : Nat) (d b : Int) (w : World) (hk : k.size ≤ 140737488355328) (hn : n ≤ 140737488355328) (er : Int) (E : errOf k.size n b = er) (he0 : (er == 0) = false) :
    Calls Try.prog 22 #[.string k, .slice a n c, .int .u64 d, .int .u64 b] w (newErr er w) := by
  go_enter Try.func22, Try.ntmps22
  go_wp2_with (go_at_call 46; refine Calls.mono (entry_check k a n c b _ hk hn) ?_; rintro e w1 ⟨he, hp⟩; rw [E] at he; subst he; obtain ⟨hpc, hpf⟩ := hp.cells; have hz : w.heap.size < w1.heap.size := by have := hp.size; simp at this; omega)
  refine bodyPost_ret (v := .tuple #[.agg #[.string ⟨#[]⟩, .slice none 0 0, .int .u64 0, .int .u64 0], .int .i64 er]) (by simp [results, Try.results22, go_sem, hpc, hpf, hz]) rfl ⟨rfl, ?_⟩
  (repeat' (first | (with_reducible exact Mod.refl _ _) | (with_reducible refine Mod.alloc ?_ _) | (with_reducible refine Mod.drew ?_) | (with_reducible refine Mod.drewN ?_ _) | (with_reducible refine Mod.setCell ?_ ?_ _) | (refine Mod.then ?_ (by with_reducible assumption) ?_)))
  (all_goals (intros; first | (exfalso; assumption) | omega | (simp at *; done) | (simp at *; omega)))
end Go.Proofs.Ytapplindfijngaa
