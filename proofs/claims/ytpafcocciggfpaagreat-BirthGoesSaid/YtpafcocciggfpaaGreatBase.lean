/- Which blocks a step may have turned (Mod), slices that are read (ReadAt), owned rows, the append law for what is read. -/
import Derived.WalkKit
import Derived.WalkSpells
import Derived.WalkLawsBesides
import Derived.Outline
import Derived.Lib.Hide
import Derived.Deep.AppendLies
import Derived.Deep.AppendSrc
import Derived.Deep.RegionHeld3
import Derived.BigQuiet
import Derived.Deep.DeepCutAuto
import Derived.Deep.RegionLaw
import Derived.Deep.QuietTactic
namespace Go.Proofs.YtpafcocciggfpaaGreat
open Go.RowKit

/-! ## Which blocks a step may have turned -/

/-- Of the blocks that were there, only those in S may have turned; nothing is gone. -/
structure Mod (S : Nat → Prop) (w w' : World) : Prop where
  os : w'.os = w.os
  tape : w'.tape = w.tape
  output : w'.output = w.output
  size : w.heap.size ≤ w'.heap.size
  block : ∀ k, k < w.heap.size → ¬ S k → w'.heap[k]? = w.heap[k]?

/-- Nothing that was there has turned. -/
abbrev Pure (w w' : World) : Prop := Mod (fun _ => False) w w'

theorem Mod.refl (S : Nat → Prop) (w : World) : Mod S w w := ⟨rfl, rfl, rfl, Nat.le_refl _, fun _ _ _ => rfl⟩
theorem Mod.mono {S S' : Nat → Prop} {w w' : World} (h : Mod S w w') (hs : ∀ k, k < w.heap.size → S k → S' k) : Mod S' w w' :=
  ⟨h.os, h.tape, h.output, h.size, fun k hk hn => h.block k hk (fun hx => hn (hs k hk hx))⟩
theorem Mod.trans' {S T U : Nat → Prop} {a b c : World} (h : Mod S a b) (k : Mod T b c) (hs : ∀ i, i < a.heap.size → S i → U i) (ht : ∀ i, i < a.heap.size → T i → U i) : Mod U a c :=
  ⟨k.os.trans h.os, k.tape.trans h.tape, k.output.trans h.output, Nat.le_trans h.size k.size, fun i hi hn =>
    (k.block i (Nat.lt_of_lt_of_le hi h.size) (fun hx => hn (ht i hi hx))).trans (h.block i hi (fun hx => hn (hs i hi hx)))⟩
theorem Mod.trans {S : Nat → Prop} {a b c : World} (h : Mod S a b) (k : Mod S b c) : Mod S a c := h.trans' k (fun _ _ h => h) (fun _ _ h => h)
theorem Mod.of_pure {S : Nat → Prop} {w w' : World} (h : Pure w w') : Mod S w w' := h.mono (fun _ _ h => h.elim)
theorem Mod.of_grown {S : Nat → Prop} {w w' : World} {row : Option Nat} (h : w.grownBy w' row) (hs : ∀ k, row = some k → k < w.heap.size → S k) : Mod S w w' :=
  ⟨h.os, h.tape, h.output, h.size, fun k hk hn => h.block k hk (fun e => hn (hs k e.symm hk))⟩
theorem Mod.of_below {S : Nat → Prop} {w w' : World} (h : Below w.heap.size w w') : Mod S w w' := ⟨h.os, h.tape, h.output, h.size, fun k hk _ => h.block k hk⟩
theorem Mod.below {S : Nat → Prop} {w w' : World} (h : Mod S w w') (hs : ∀ k, k < w.heap.size → ¬ S k) : Below w.heap.size w w' := ⟨h.os, h.tape, h.output, h.size, fun k hk => h.block k hk (hs k hk)⟩
theorem Mod.alloc {S : Nat → Prop} {a w : World} (h : Mod S a w) (o : Obj) : Mod S a (w.alloc o) :=
  ⟨h.os, h.tape, h.output, Nat.le_trans h.size (by simp), fun k hk hn => (Below.heap_alloc w o k (Nat.lt_of_lt_of_le hk h.size)).trans (h.block k hk hn)⟩
theorem Mod.drew {S : Nat → Prop} {a w : World} (h : Mod S a w) : Mod S a w.drew := ⟨h.os, h.tape, h.output, h.size, h.block⟩
theorem Mod.of_drew {S : Nat → Prop} {w w' : World} (h : Mod S w.drew w') : Mod S w w' := ⟨h.os, h.tape, h.output, h.size, h.block⟩
theorem Mod.drewN {S : Nat → Prop} {a w : World} (h : Mod S a w) (n : Nat) : Mod S a (w.drewN n) := ⟨h.os, h.tape, h.output, h.size, h.block⟩
theorem Mod.setCell {S : Nat → Prop} {a w : World} (h : Mod S a w) {p : Addr} (hp : p.block < a.heap.size → S p.block) (u : Value) : Mod S a (w.setCell p u) :=
  ⟨h.os, h.tape, h.output, by simpa [World.setCell] using h.size, fun k hk hn => (Below.heap_setCell w p u k (fun e => by subst e; exact hn (hp hk))).trans (h.block k hk hn)⟩

theorem Mod.then {S T : Nat → Prop} {a b c : World} (h : Mod S a b) (k : Mod T b c) (ht : ∀ i, i < a.heap.size → T i → S i) : Mod S a c := h.trans' k (fun _ _ h => h) ht
/-- Behind a call that turned nothing: all cells and marks read as before (two rules for the walk). -/
theorem Mod.cells {W w1 : World} (h : Pure W w1) : (∀ b o, b < W.heap.size → w1.cell? ⟨b, o, none⟩ = W.cell? ⟨b, o, none⟩) ∧ (∀ b o, b < W.heap.size → w1.frozen? ⟨b, o, none⟩ = W.frozen? ⟨b, o, none⟩) :=
  ⟨fun b o hb => World.cell?_of_block (w := W) (a := ⟨b, o, none⟩) (h.block b hb (fun h => h)), fun b o hb => World.frozen?_of_block (w := W) (a := ⟨b, o, none⟩) (h.block b hb (fun h => h))⟩
theorem Mod.cell {S : Nat → Prop} {w w' : World} (h : Mod S w w') {a : Addr} {v : Value} (hn : ¬ S a.block) (hc : w.cell? a = some v) : w'.cell? a = some v :=
  (World.cell?_of_block (w := w) (h.block a.block (World.block_lt_of_cell? w a hc) hn)).trans hc
theorem Mod.heap {S : Nat → Prop} {w w' : World} (h : Mod S w w') {k : Nat} {o : Obj} (hn : ¬ S k) (hc : w.heap[k]? = some o) : w'.heap[k]? = some o :=
  (h.block k (lt_of_block hc) hn).trans hc
theorem Mod.lt {S : Nat → Prop} {w w' : World} (h : Mod S w w') {k : Nat} (hk : k < w.heap.size) : k < w'.heap.size := Nat.lt_of_lt_of_le hk h.size

/-- The block that was just made, under whatever name of its number; an elder one. -/
theorem heap_new {w : World} {o : Obj} {n : Nat} (hn : n = w.heap.size) : (w.alloc o).heap[n]? = some o := by subst hn; exact heap_alloc_new w o
theorem heap_keep {w : World} {o x : Obj} {n : Nat} (h : w.heap[n]? = some x) : (w.alloc o).heap[n]? = some x := by
  rw [Below.heap_alloc w o n (lt_of_block h)]; exact h
theorem heap_set_other {w : World} {a : Addr} {v : Value} {x : Obj} {n : Nat} (h : w.heap[n]? = some x) (hn : n ≠ a.block) : (w.setCell a v).heap[n]? = some x := by
  rw [heap_setCell_other w a n v hn]; exact h

/-- A block of one's own behind a step that has not turned it. -/
theorem Mod.box {S : Nat → Prop} {W w1 : World} (h : Mod S W w1) {b : Nat} {cs : Array Value} {T : TypeId} (hb : W.heap[b]? = some (.cells cs T (0, 0))) (hn : ¬ S b) :
    (∀ i, w1.cell? ⟨b, i, none⟩ = cs[i]?) ∧ (∀ i, w1.frozen? ⟨b, i, none⟩ = false) := by
  have := h.heap hn hb
  exact ⟨fun i => cell_of_row w1 b i cs T (0, 0) this, fun i => frozen_of_row w1 b i cs T this⟩

theorem w64_nat (n : Nat) (h : n ≤ 9223372036854775807) : wrap64 (n : Int) = n := IntWalk.wrap64_in _ (by omega)
theorem u32_nat (n : Nat) (h : n ≤ 4294967295) : wrap64 (n : Int) % 4294967296 = n := by rw [w64_nat n (by omega)]; omega

/-! ## Slices that are read -/

/-- The slice value v reads, element by element (k cells each), as the cells xs. -/
def ReadAt (w : World) (v : Value) (k : Nat) (xs : List Value) : Prop :=
  ∃ (a : Option Addr) (n c : Nat), v = .slice a n c ∧ xs.length = n * k ∧ (∀ u ∈ xs, u.oneCell' = true) ∧ (a = none → n = 0) ∧ ∀ ad, a = some ad → ∀ j u, xs[j]? = some u → w.cell? (ad.add j) = some u

theorem ReadAt.nil (w : World) (k : Nat) : ReadAt w (.slice none 0 0) k [] := ⟨none, 0, 0, rfl, by simp, by simp, fun _ => rfl, fun _ h => by cases h⟩

/-- The block that a slice value reads from (none if it reads nothing). -/
def rdBlock : Value → Option Nat
  | .slice (some a) n _ => if n = 0 then none else some a.block
  | _ => none
theorem rdBlock_own {v : Value} {g : Nat} (h : rdBlock v = some g) : v.ownBlock = some g := by
  unfold rdBlock at h
  split at h
  · split at h
    · cases h
    · exact h
  · cases h
theorem addr_block (ad : Addr) (j : Nat) : (ad.add j).block = ad.block := by unfold Addr.add; split <;> rfl
theorem ReadAt.frame {w w' : World} {v : Value} {k : Nat} {xs : List Value} {S : Nat → Prop} (h : ReadAt w v k xs) (hm : Mod S w w') (hn : ∀ g, rdBlock v = some g → ¬ S g) : ReadAt w' v k xs := by
  obtain ⟨a, n, c, rfl, hl, h1, h0, hc⟩ := h
  refine ⟨a, n, c, rfl, hl, h1, h0, fun ad ha j u hu => ?_⟩
  refine hm.cell ?_ (hc ad ha j u hu)
  rw [addr_block]
  refine hn ad.block ?_
  subst ha
  have : n ≠ 0 := by
    rintro rfl
    have : xs = [] := List.eq_nil_of_length_eq_zero (by simpa using hl)
    subst this
    cases hu
  simp [rdBlock, this]
theorem ReadAt.lt {w : World} {v : Value} {k : Nat} {xs : List Value} (h : ReadAt w v k xs) (hk : 0 < k) {g : Nat} (hg : rdBlock v = some g) : g < w.heap.size := by
  obtain ⟨a, n, c, rfl, hl, h1, h0, hc⟩ := h
  cases a with
  | none => cases hg
  | some ad =>
    simp only [rdBlock] at hg
    split at hg
    · cases hg
    · cases hg
      have hp : 0 < xs.length := by rw [hl]; exact Nat.mul_pos (by omega) hk
      have := World.block_lt_of_cell? w _ (hc ad rfl 0 _ (List.getElem?_eq_getElem hp))
      rwa [addr_block] at this

theorem ReadAt.of_owns {w : World} {e : TypeId} {k : Nat} {v : Value} {n : Nat} {xs : List Value} (h : w.ownsRow 0 e k v n xs) (h1 : ∀ u ∈ xs, u.oneCell' = true) : ReadAt w v k xs := by
  obtain ⟨hl, hv⟩ := h
  rcases hv with ⟨rfl, rfl⟩ | ⟨g, cap, cur, rfl, hb, hg, hnc, hcm, hcs, ht⟩
  · have : xs = [] := List.eq_nil_of_length_eq_zero (by simpa using hl)
    subst this
    exact ReadAt.nil w k
  · have hown : w.ownsRow 0 e k (.slice (some ⟨g, 0, none⟩) n cap) n xs := ⟨hl, .inr ⟨g, cap, cur, rfl, hb, hg, hnc, hcm, hcs, ht⟩⟩
    exact ⟨some ⟨g, 0, none⟩, n, cap, rfl, hl, h1, (fun h => by cases h), fun ad ha j u hu => by cases ha; exact hown.cells rfl j u hu⟩

/-- The cells of a flat row. -/
theorem flat_get {α β : Type} (f : α → List β) (k : Nat) (hf : ∀ a, (f a).length = k) (j : Nat) (hj : j < k) : ∀ (M : List α) (i : Nat), (M.flatMap f)[i * k + j]? = (M[i]?).bind fun m => (f m)[j]?
  | [], i => by simp
  | a :: M, 0 => by
    simp only [List.flatMap_cons, Nat.zero_mul, Nat.zero_add, List.getElem?_cons_zero, Option.bind_some]
    rw [List.getElem?_append_left (by rw [hf]; exact hj)]
  | a :: M, i + 1 => by
    have e : (i + 1) * k + j = (f a).length + (i * k + j) := by rw [hf, Nat.add_mul]; omega
    simp only [List.flatMap_cons, List.getElem?_cons_succ]
    rw [e, List.getElem?_append_right (Nat.le_add_right _ _), Nat.add_sub_cancel_left]
    exact flat_get f k hf j hj M i
theorem flat_length {α β : Type} (f : α → List β) (k : Nat) (hf : ∀ a, (f a).length = k) : ∀ (M : List α), (M.flatMap f).length = M.length * k
  | [] => by simp
  | a :: M => by simp only [List.flatMap_cons, List.length_append, hf, flat_length f k hf M, List.length_cons, Nat.add_mul]; omega

/-- The address of an owned row, its cells. -/
theorem owns_form {w : World} {T k : Nat} {v : Value} {n : Nat} {xs : List Value} (h : w.ownsRow 0 T k v n xs) : ∃ a c, v = .slice a n c ∧ n ≤ c := by
  rcases h.2 with ⟨rfl, rfl⟩ | ⟨g, cap, cur, rfl, _, _, hnc, _⟩
  · exact ⟨none, 0, rfl, Nat.le_refl _⟩
  · exact ⟨_, _, rfl, hnc⟩
theorem owns_at {w : World} {T k : Nat} {v : Value} {n : Nat} {xs : List Value} (h : w.ownsRow 0 T k v n xs) (hn : 0 < n) :
    ∃ g c, v = .slice (some ⟨g, 0, none⟩) n c ∧ n ≤ c ∧ g < w.heap.size ∧ (∀ j u, xs[j]? = some u → w.cell? ⟨g, j, none⟩ = some u) ∧ (∀ j, w.frozen? ⟨g, j, none⟩ = false) ∧ ∃ cur, w.heap[g]? = some (.cells cur T (0, 0)) ∧ cur.size = c * k ∧ cur.toList.take (n * k) = xs ∧ c ≤ maxLen := by
  obtain ⟨hl, hv⟩ := h
  rcases hv with ⟨_, h0⟩ | ⟨g, cap, cur, rfl, hb, hg, hnc, hm, hcs, ht⟩
  · omega
  · refine ⟨g, cap, rfl, hnc, lt_of_block hg, fun j u hu => ?_, fun j => frozen_of_row w g j cur T hg, cur, hg, hcs, ht, hm⟩
    rw [cell_of_row w g j cur T (0, 0) hg]
    rw [← ht, List.getElem?_take] at hu
    split at hu
    · simpa using hu
    · cases hu

theorem owns_heap {w w' : World} {T k : Nat} {v : Value} {n : Nat} {xs : List Value} (h : w.ownsRow 0 T k v n xs) (hn : ∀ g, v.ownBlock = some g → g < w.heap.size → w'.heap[g]? = w.heap[g]?) : w'.ownsRow 0 T k v n xs := by
  refine ⟨h.1, ?_⟩
  rcases h.2 with h2 | ⟨g, cap, cur, rfl, hb, hg, rest⟩
  · exact .inl h2
  · exact .inr ⟨g, cap, cur, rfl, hb, (hn g rfl (lt_of_block hg)).trans hg, rest⟩
theorem owns_mod {w w' : World} {T k : Nat} {v : Value} {n : Nat} {xs : List Value} {S : Nat → Prop} (h : w.ownsRow 0 T k v n xs) (hm : Mod S w w') (hn : ∀ g, v.ownBlock = some g → ¬ S g) : w'.ownsRow 0 T k v n xs := by
  refine ⟨h.1, ?_⟩
  rcases h.2 with h2 | ⟨g, cap, cur, rfl, hb, hg, rest⟩
  · exact .inl h2
  · exact .inr ⟨g, cap, cur, rfl, hb, hm.heap (hn g rfl) hg, rest⟩
/-- The block of an owned row is a block of its elements' type. -/
theorem owns_type {w : World} {T k : Nat} {v : Value} {n : Nat} {xs : List Value} (h : w.ownsRow 0 T k v n xs) {g : Nat} (hg : v.ownBlock = some g) : ∃ cur, w.heap[g]? = some (.cells cur T (0, 0)) := by
  rcases h.2 with ⟨rfl, _⟩ | ⟨g', cap, cur, rfl, _, hb, _⟩
  · cases hg
  · cases hg; exact ⟨cur, hb⟩
theorem owns_lt {w : World} {T k : Nat} {v : Value} {n : Nat} {xs : List Value} (h : w.ownsRow 0 T k v n xs) {g : Nat} (hg : v.ownBlock = some g) : g < w.heap.size := (h.lt g hg).2
/-- Two owned rows of different types lie in different blocks. -/
theorem owns_apart {w : World} {T T' k k' : Nat} {v v' : Value} {n n' : Nat} {xs xs' : List Value} (h : w.ownsRow 0 T k v n xs) (h' : w.ownsRow 0 T' k' v' n' xs') (hT : T ≠ T') {g : Nat} (hg : v.ownBlock = some g) : v'.ownBlock ≠ some g := by
  intro hg'
  obtain ⟨c, e⟩ := owns_type h hg
  obtain ⟨c', e'⟩ := owns_type h' hg'
  rw [e] at e'
  cases e'
  exact hT rfl
theorem owns_len {w : World} {T k : Nat} {v : Value} {n m : Nat} {xs : List Value} (h : w.ownsRow 0 T k v n xs) (hk : 0 < k) (hm : xs.length = m * k) : n = m := Nat.eq_of_mul_eq_mul_right hk (h.1.symm.trans hm)
theorem ReadAt.of_block {w : World} {B : Nat} {cs : Array Value} {T : TypeId} {fr : Nat × Nat} (n c k : Nat) (hb : w.heap[B]? = some (.cells cs T fr)) (hl : cs.toList.length = n * k) (h1 : ∀ u ∈ cs.toList, u.oneCell' = true) :
    ReadAt w (.slice (some ⟨B, 0, none⟩) n c) k cs.toList :=
  ⟨some ⟨B, 0, none⟩, n, c, rfl, hl, h1, (fun h => by cases h), fun ad ha j u hu => by cases ha; exact World.news_of_block hb j u hu⟩

/-- A cell of an owned row is stored into. -/
theorem owns_setCell {w : World} {T k g n c : Nat} {xs : List Value} (h : w.ownsRow 0 T k (.slice (some ⟨g, 0, none⟩) n c) n xs) (j : Nat) (u : Value) (hj : j < n * k) :
    (w.setCell ⟨g, j, none⟩ u).ownsRow 0 T k (.slice (some ⟨g, 0, none⟩) n c) n (xs.set j u) := by
  obtain ⟨hl, hv⟩ := h
  refine ⟨by rw [List.length_set]; exact hl, .inr ?_⟩
  rcases hv with ⟨hv, _⟩ | ⟨g', cap, cur, hv, hb, hg, hnc, hm, hcs, ht⟩
  · cases hv
  · cases hv
    refine ⟨g, c, cur.setIfInBounds j u, rfl, hb, heap_setCell_same w g j cur T u hg, hnc, hm, by rw [Array.size_setIfInBounds]; exact hcs, ?_⟩
    rw [Array.toList_setIfInBounds, List.take_set, ht]

/-- Replacing one row of a flat list, cell by cell. -/
theorem flatten_set (k j : Nat) (hj : j < k) (u : Value) : ∀ (R : List (List Value)) (_ : ∀ r ∈ R, r.length = k) (i : Nat), R.flatten.set (i * k + j) u = (R.modify i (fun r => r.set j u)).flatten
  | [], _, i => by simp
  | r :: R, hR, 0 => by
    simp only [Nat.zero_mul, Nat.zero_add, List.flatten_cons, List.modify_zero_cons]
    rw [List.set_append_left _ _ (by rw [hR r (by simp)]; exact hj)]
  | r :: R, hR, i + 1 => by
    have hr : r.length = k := hR r (by simp)
    simp only [List.flatten_cons, List.modify_succ_cons]
    rw [List.set_append_right _ _ (by rw [hr, Nat.add_mul]; omega)]
    have e : (i + 1) * k + j - r.length = i * k + j := by rw [hr, Nat.add_mul]; omega
    rw [e, flatten_set k j hj u R (fun r h => hR r (by simp [h])) i]
theorem modify_length {R : List (List Value)} {k : Nat} (hR : ∀ r ∈ R, r.length = k) (i j : Nat) (u : Value) : ∀ r ∈ R.modify i (fun r => r.set j u), r.length = k := by
  intro r hr
  obtain ⟨n, hn⟩ := List.mem_iff_getElem?.1 hr
  rw [List.getElem?_modify] at hn
  cases h : R[n]? with
  | none => simp [h] at hn
  | some r0 =>
    have h0 := hR r0 (List.mem_of_getElem? h)
    simp only [h, Option.map_some] at hn
    split at hn <;> (cases hn; simp [h0])
theorem modify_map_set {α : Type} (f : α → List Value) (h : List Value → List Value) (m' : α) : ∀ (M : List α) (i : Nat) (m : α), M[i]? = some m → h (f m) = f m' → (M.map f).modify i h = (M.set i m').map f
  | [], i, m, hi, _ => by simp at hi
  | a :: M, 0, m, hi, hm => by simp at hi; subst hi; simp [hm]
  | a :: M, i + 1, m, hi, hm => by
    have := modify_map_set f h m' M i m (by simpa using hi) hm
    simp only [List.map_cons, List.modify_succ_cons, List.set_cons_succ, this]

/-! ## append -/

section
variable {P : Program} (w : World)

/-- append onto an owned row (nil, empty or not), of whatever is read. -/
theorem run_append_read (t ty e : TypeId) (i : TypeInfo) (z : Value) (k bytes : Nat) (ht : P.underlying t = some (.slice e)) (hi : P.info? e = some i) (hz : i.zero = some z)
    (hsize : i.size = k) (hby : i.bytes = bytes) (hzs : z.cells.size = k) (hsz : 0 < k)
    (v : Value) (n : Nat) (xs : List Value) (hown : w.ownsRow 0 e k v n xs) (x : Value) (ys : List Value) (m : Nat) (hx : ReadAt w x k ys) (hm : ys.length = m * k)
    (h63 : n + m ≤ maxLen) (hbytes : (n + m) * bytes ≤ 140737488355328) :
    ∃ a' c' w', (Builtin.append_ #[t, t] ty #[v, x]).run P w = .ok (.slice a' (n + m) c') w' ∧ w'.ownsRow 0 e k (.slice a' (n + m) c') (n + m) (xs ++ ys) ∧ w.grownBy w' v.ownBlock ∧ ((Value.slice a' (n + m) c').ownBlock = v.ownBlock ∨ (Value.slice a' (n + m) c').ownBlock = some w.heap.size) := by
  suffices hs : ∃ v' w', (Builtin.append_ #[t, t] ty #[v, x]).run P w = .ok v' w' ∧ w'.ownsRow 0 e k v' (n + m) (xs ++ ys) ∧ w.grownBy w' v.ownBlock ∧ (v'.ownBlock = v.ownBlock ∨ v'.ownBlock = some w.heap.size) by
    obtain ⟨v', w', r1, r2, r3, r4⟩ := hs
    obtain ⟨a', c', rfl, _⟩ := owns_form r2
    exact ⟨a', c', w', r1, r2, r3, r4⟩
  obtain ⟨a, m', c, rfl, hl, h1, h0, hc⟩ := hx
  have em : m' = m := Nat.eq_of_mul_eq_mul_right hsz (hl.symm.trans hm)
  subst em
  cases a with
  | some ad =>
    obtain ⟨v', w', r1, r2, r3, _, r5⟩ := run_append_own_at (P := P) w 0 t ty e i z k bytes ht hi hz hsize hby hzs hsz v n xs hown ad m' c ys hl (fun j u hu => hc ad rfl j u hu) h1 h63 hbytes (Nat.zero_le _)
    exact ⟨v', w', r1, r2, r3, r5⟩
  | none =>
    have hm0 := h0 rfl
    subst hm0
    have hy : ys = [] := List.eq_nil_of_length_eq_zero (by simpa using hl)
    subst hy
    refine ⟨v, w, ?_, by simpa using hown, ⟨rfl, rfl, rfl, Nat.le_refl _, fun _ _ _ => rfl⟩, .inl rfl⟩
    rcases hown.2 with ⟨rfl, rfl⟩ | ⟨g, cap, cur, rfl, _, hg, hnc, _⟩
    · simp [Builtin.append_, run_underlying ht, sizeOf, typeInfo, hi, Builtin.lenOf, Builtin.firstCells, loadCells, loadCellsFrom]
    · simp [Builtin.append_, run_underlying ht, sizeOf, typeInfo, hi, Builtin.lenOf, Builtin.firstCells, hnc, storeCells]

theorem wp_append_read {o : Oper} {a : Act} {K : Act → World → Prop} {Q : Exit → Act → World → Prop} (s x : Operand) (t : TypeId)
    (ho : o.op = .call { callee := .builtin .append, args := #[s, x], argTypes := #[t, t] })
    (e : TypeId) (i : TypeInfo) (z : Value) (k bytes : Nat) (ht : P.underlying t = some (.slice e)) (hi : P.info? e = some i) (hz : i.zero = some z)
    (hsize : i.size = k) (hby : i.bytes = bytes) (hzs : z.cells.size = k) (hsz : 0 < k)
    (v : Value) (n : Nat) (xs : List Value) (hs : a.eval s = v) (hown : w.ownsRow 0 e k v n xs) (xv : Value) (ys : List Value) (m : Nat) (hxv : a.eval x = xv) (hx : ReadAt w xv k ys) (hm : ys.length = m * k)
    (h63 : n + m ≤ maxLen) (hbytes : (n + m) * bytes ≤ 140737488355328)
    (h : ∀ a' c' w', w'.ownsRow 0 e k (.slice a' (n + m) c') (n + m) (xs ++ ys) → w.grownBy w' v.ownBlock → ((Value.slice a' (n + m) c').ownBlock = v.ownBlock ∨ (Value.slice a' (n + m) c').ownBlock = some w.heap.size) → K (a.put o.dst (.slice a' (n + m) c')) w') : o.wp P a w K Q := by
  obtain ⟨a', c', w', hr, h2, h3, h4⟩ := run_append_read (P := P) w t o.type e i z k bytes ht hi hz hsize hby hzs hsz v n xs hown xv ys m hx hm h63 hbytes
  unfold Oper.wp execOp
  simp only [ho, resolve, invoke, builtin, Sem.run_bind, Sem.run_pure, Result.andThen_ok, List.map_toArray, List.map_cons, List.map_nil, hs, hxv, hr]
  exact h a' c' w' h2 h3 h4

/-- At a plain region's list. -/
theorem wpList_append_read {ops : Array Oper} {rest : List Oper} {o : Oper} {a : Act} {Q : Exit → Act → World → Prop} (hgd : o.guard = none) (s x : Operand) (t : TypeId)
    (ho : o.op = .call { callee := .builtin .append, args := #[s, x], argTypes := #[t, t] })
    (e : TypeId) (i : TypeInfo) (z : Value) (k bytes : Nat) (ht : P.underlying t = some (.slice e)) (hi : P.info? e = some i) (hz : i.zero = some z)
    (hsize : i.size = k) (hby : i.bytes = bytes) (hzs : z.cells.size = k) (hsz : 0 < k)
    (v : Value) (n : Nat) (xs : List Value) (hs : a.eval s = v) (hown : w.ownsRow 0 e k v n xs) (xv : Value) (ys : List Value) (m : Nat) (hxv : a.eval x = xv) (hx : ReadAt w xv k ys) (hm : ys.length = m * k)
    (h63 : n + m ≤ maxLen) (hbytes : (n + m) * bytes ≤ 140737488355328)
    (h : ∀ a' c' w', w'.ownsRow 0 e k (.slice a' (n + m) c') (n + m) (xs ++ ys) → w.grownBy w' v.ownBlock → ((Value.slice a' (n + m) c').ownBlock = v.ownBlock ∨ (Value.slice a' (n + m) c').ownBlock = some w.heap.size) → wpList P ops Q rest (a.put o.dst (.slice a' (n + m) c')) w') : wpList P ops Q (o :: rest) a w :=
  wpList_plain hgd fun _ hK => wp_append_read w s x t ho e i z k bytes ht hi hz hsize hby hzs hsz v n xs hs hown xv ys m hxv hx hm h63 hbytes fun a' c' w' h2 h3 h4 => hK _ _ (h a' c' w' h2 h3 h4)

/-- At a step of a region that draws its order. -/
theorem step_append_read {ops : Array Oper} {o : Oper} {a : Act} {K : Act → World → Prop} {Q : Exit → Act → World → Prop} {E : Prop} (hgd : o.guard = none) (s x : Operand) (t : TypeId)
    (ho : o.op = .call { callee := .builtin .append, args := #[s, x], argTypes := #[t, t] })
    (e : TypeId) (i : TypeInfo) (z : Value) (k bytes : Nat) (ht : P.underlying t = some (.slice e)) (hi : P.info? e = some i) (hz : i.zero = some z)
    (hsize : i.size = k) (hby : i.bytes = bytes) (hzs : z.cells.size = k) (hsz : 0 < k)
    (v : Value) (n : Nat) (xs : List Value) (hs : a.eval s = v) (hown : w.ownsRow 0 e k v n xs) (xv : Value) (ys : List Value) (m : Nat) (hxv : a.eval x = xv) (hx : ReadAt w xv k ys) (hm : ys.length = m * k)
    (h63 : n + m ≤ maxLen) (hbytes : (n + m) * bytes ≤ 140737488355328)
    (h : ∀ a' c' w', w'.ownsRow 0 e k (.slice a' (n + m) c') (n + m) (xs ++ ys) → w.grownBy w' v.ownBlock → ((Value.slice a' (n + m) c').ownBlock = v.ownBlock ∨ (Value.slice a' (n + m) c').ownBlock = some w.heap.size) → K (a.put o.dst (.slice a' (n + m) c')) w') :
    if Region.wanted o (yielded ops a.tmps) = true then Oper.wp P o a w K Q else E := by
  have hw : Region.wanted o (yielded ops a.tmps) = true := by simp [Region.wanted, hgd]
  rw [if_pos hw]
  exact wp_append_read w s x t ho e i z k bytes ht hi hz hsize hby hzs hsz v n xs hs hown xv ys m hxv hx hm h63 hbytes h
end

end Go.Proofs.YtpafcocciggfpaaGreat
