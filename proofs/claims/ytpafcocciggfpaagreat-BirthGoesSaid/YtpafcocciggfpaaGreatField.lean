/- A slice in a field of a struct that lies in a block: what an append to it leaves; rows of other types behind a change. -/
import Derived.Test.YtpafcocciggfpaaGreatBase
namespace Go.Proofs.YtpafcocciggfpaaGreat
open Go.RowKit

/-- A row keeps, if what has turned are blocks of other types. -/
theorem owns_modT {w w' : World} {S : Nat → Prop} {T k n : Nat} {v : Value} {xs : List Value} (ho : w.ownsRow 0 T k v n xs) (hm : Mod S w w')
    (hS : ∀ i, S i → i < w.heap.size → ∃ cs T' fz, w.heap[i]? = some (.cells cs T' fz) ∧ T' ≠ T) : w'.ownsRow 0 T k v n xs :=
  owns_mod ho hm (fun g hg hs => by
    obtain ⟨c, e⟩ := owns_type ho hg
    obtain ⟨cs, T', fz, e', hne⟩ := hS g hs (owns_lt ho hg)
    rw [e] at e'; cases e'; exact hne rfl)
theorem heap_modT {w w' : World} {S : Nat → Prop} {T k : Nat} {cs : Array Value} {fz : Nat × Nat} (hb : w.heap[k]? = some (.cells cs T fz)) (hm : Mod S w w')
    (hS : ∀ i, S i → i < w.heap.size → ∃ cs T' fz, w.heap[i]? = some (.cells cs T' fz) ∧ T' ≠ T) : w'.heap[k]? = some (.cells cs T fz) :=
  hm.heap (fun hs => by
    obtain ⟨cs', T', fz', e', hne⟩ := hS k hs (lt_of_block hb)
    rw [hb] at e'; cases e'; exact hne rfl) hb

/-- x.f = append(x.f, ..), x in block b, f its cell j. -/
theorem field_append {w wg w5 : World} {b j : Nat} {cs : Array Value} {T E k n n' : Nat} {v v' : Value} {xs xs' : List Value}
    (hb : w.heap[b]? = some (.cells cs T (0, 0))) (ho : w.ownsRow 0 E k v n xs) (hTE : T ≠ E) (hp : Pure w wg)
    (ho5 : w5.ownsRow 0 E k v' n' xs') (hg : wg.grownBy w5 v.ownBlock) (hat : v'.ownBlock = v.ownBlock ∨ v'.ownBlock = some wg.heap.size) :
    (w5.setCell ⟨b, j, none⟩ v').heap[b]? = some (.cells (cs.setIfInBounds j v') T (0, 0)) ∧ (w5.setCell ⟨b, j, none⟩ v').ownsRow 0 E k v' n' xs' ∧
      Mod (fun i => i = b ∨ v.ownBlock = some i) w (w5.setCell ⟨b, j, none⟩ v') ∧ (∀ g, v'.ownBlock = some g → v.ownBlock = some g ∨ w.heap.size ≤ g) := by
  have hlb : b < w.heap.size := lt_of_block hb
  have hnb : v.ownBlock ≠ some b := fun e => by
    obtain ⟨c, e'⟩ := owns_type ho e
    rw [hb] at e'; cases e'; exact hTE rfl
  have hnb' : v'.ownBlock ≠ some b := fun e => by
    rcases hat with h | h
    · exact hnb (h ▸ e)
    · rw [h] at e; cases e; have := hp.size; omega
  have m5 : w5.heap[b]? = some (.cells cs T (0, 0)) :=
    Mod.heap (Mod.of_grown (S := fun i => v.ownBlock = some i) hg (fun k e _ => e)) hnb (hp.heap (fun h => h) hb)
  refine ⟨heap_setCell_same w5 b j cs T v' m5, owns_mod ho5 ((Mod.refl (fun i => i = b) w5).setCell (p := ⟨b, j, none⟩) (fun _ => rfl) _) (fun g hg h => hnb' (h ▸ hg)), ?_, ?_⟩
  · exact ((Mod.of_pure hp).then (Mod.of_grown (S := fun i => i = b ∨ v.ownBlock = some i) hg (fun k e _ => .inr e)) (fun _ _ h => h)).setCell (fun _ => .inl rfl) _
  · intro g e
    rcases hat with h | h
    · exact .inl (h ▸ e)
    · rw [h] at e; cases e; exact .inr hp.size

/-- A local slice (in a slot): append. -/
theorem slot_append {w wg w5 : World} {E k n n' : Nat} {v v' : Value} {xs' : List Value}
    (hp : Pure w wg) (_ho5 : w5.ownsRow 0 E k v' n' xs') (hg : wg.grownBy w5 v.ownBlock) (hat : v'.ownBlock = v.ownBlock ∨ v'.ownBlock = some wg.heap.size) :
    Mod (fun i => v.ownBlock = some i) w w5 ∧ (∀ g, v'.ownBlock = some g → v.ownBlock = some g ∨ w.heap.size ≤ g) := by
  refine ⟨(Mod.of_pure hp).then (Mod.of_grown (S := fun i => v.ownBlock = some i) hg (fun k e _ => e)) (fun _ _ h => h), ?_⟩
  intro g e
  rcases hat with h | h
  · exact .inl (h ▸ e)
  · rw [h] at e; cases e; exact .inr hp.size

/-- The block of a struct behind stores into its cells. -/
theorem heap_set1 {w : World} {b j : Nat} {cs : Array Value} {T : TypeId} {v : Value} (h : w.heap[b]? = some (.cells cs T (0, 0))) : (w.setCell ⟨b, j, none⟩ v).heap[b]? = some (.cells (cs.setIfInBounds j v) T (0, 0)) := heap_setCell_same w b j cs T v h
theorem heap_set12 {w : World} {b : Nat} {u0 u1 v0 v1 : Value} {T : TypeId} (h : w.heap[b]? = some (.cells #[u0, u1] T (0, 0))) : ((w.setCell ⟨b, 0, none⟩ v0).setCell ⟨b, 1, none⟩ v1).heap[b]? = some (.cells #[v0, v1] T (0, 0)) :=
  heap_set1 (j := 1) (heap_set1 (j := 0) h)
theorem Mod.set1 {w : World} (b j : Nat) (v : Value) : Mod (fun i => i = b) w (w.setCell ⟨b, j, none⟩ v) := (Mod.refl (fun i => i = b) w).setCell (p := ⟨b, j, none⟩) (fun _ => rfl) v
theorem Mod.set2 {w : World} (b j k : Nat) (u v : Value) : Mod (fun i => i = b) w ((w.setCell ⟨b, j, none⟩ u).setCell ⟨b, k, none⟩ v) := (Mod.set1 b j u).trans (Mod.set1 b k v)
/-- What is only of new blocks is Pure. -/
theorem Mod.fresh {S : Nat → Prop} {a b c : World} (h : Pure a b) (hm : Mod S b c) (hS : ∀ i, S i → a.heap.size ≤ i) : Pure a c := h.then hm (fun i hi hs => by have := hS i hs; omega)
end Go.Proofs.YtpafcocciggfpaaGreat
