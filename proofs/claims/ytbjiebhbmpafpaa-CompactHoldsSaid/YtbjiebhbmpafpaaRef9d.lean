/- The reference's Remove of layer 9; Equal of layer 4. Condition: the log's rows are its own (RefRow); the bytes are read. -/
import Derived.Test.YtbjiebhbmpafpaaRef9c
namespace Go.Proofs.Ytbjiebhbmpafpaa
open Go.RowKit Go.Shelf
set_option maxRecDepth 100000

abbrev zEnt : Value := .agg #[.string ⟨#[]⟩, .slice none 0 0, .int .u64 0, .int .u64 0]
def refRemMiss (w : World) (v : Value) (e : Ending) (w' : World) : Prop := e = .returned (.tuple #[v, .agg #[.string ⟨#[]⟩, .slice none 0 0, .int .u64 0, .int .u64 0], .int .i64 9]) ∧ Pure w w'

set_option maxHeartbeats 1000000 in
theorem ref_Remove_miss {w : World} {aL : Option Addr} {cL : Nat} {aG : Option Addr} {cG : Nat} {Q : List RQ} (h : RefRow w aL cL aG cG Q) (s : Nat) (hs : s ≤ 4294967295) (hh : hasQ Q s = false) :
    Calls Try.prog 21 #[refV aL cL aG cG Q.length, .int .u32 s] w (refRemMiss w (refV aL cL aG cG Q.length)) := by
  have H := Lib.hid h
  have HH := Lib.hid hh
  clear h hh
  go_enter Try.func21, Try.ntmps21
  go_wp2_with (go_at_call 64; refine Calls.mono (ref_Has (H.out.pure (by (repeat' (first | (with_reducible exact Mod.refl _ _) | (with_reducible refine Mod.alloc ?_ _) | (with_reducible refine Mod.drew ?_) | (with_reducible refine Mod.drewN ?_ _) | (with_reducible refine Mod.setCell ?_ ?_ _) | (refine Mod.then ?_ (by with_reducible assumption) ?_))) <;> (all_goals (intros; first | (exfalso; assumption) | omega | (simp at *; done) | (simp at *; omega))))) s hs) ?_; rintro e w1 ⟨rfl, hp⟩; rw [HH.out]; have hp' : Pure w w1 := (by (repeat' (first | (with_reducible exact Mod.refl _ _) | (with_reducible refine Mod.alloc ?_ _) | (with_reducible refine Mod.drew ?_) | (with_reducible refine Mod.drewN ?_ _) | (with_reducible refine Mod.setCell ?_ ?_ _) | (refine Mod.then ?_ (by with_reducible assumption) ?_))) <;> (all_goals (intros; first | (exfalso; assumption) | omega | (simp at *; done) | (simp at *; omega)))); have HP := Lib.hid hp'; have z4 := hp.heap (fun h => h) (heap_keep (o := .cells #[.string ⟨#[]⟩, .slice none 0 0, .int .u64 0, .int .u64 0] 48 (0, 0)) (heap_new (w := w.alloc (.cells #[.slice aL Q.length cL, .slice aG Q.length cG] 30)) (o := .cells #[.slice none 0 0, .slice none 0 0] 30 (0, 0)) (n := w.heap.size + 1) (by simp))); have z5 := hp.heap (fun h => h) (heap_new (o := .cells #[.string ⟨#[]⟩, .slice none 0 0, .int .u64 0, .int .u64 0] 48 (0, 0)) (n := w.heap.size + 1 + 1) (by simp)); have z2 := hp.heap (fun h => h) (heap_keep (o := .cells #[.string ⟨#[]⟩, .slice none 0 0, .int .u64 0, .int .u64 0] 48 (0, 0)) (heap_keep (o := .cells #[.slice none 0 0, .slice none 0 0] 30 (0, 0)) (heap_new (w := w) (o := .cells #[.slice aL Q.length cL, .slice aG Q.length cG] 30 (0, 0)) rfl))); have z4_0 := cell_of_row _ _ 0 _ _ _ z4; have z4_1 := cell_of_row _ _ 1 _ _ _ z4; have z4_f := (fun j => frozen_of_row _ _ j _ _ z4); have z4_l := lt_of_block z4; simp at z4_0 z4_1; have H_z4 := Lib.hid z4; clear z4; have z5_0 := cell_of_row _ _ 0 _ _ _ z5; have z5_1 := cell_of_row _ _ 1 _ _ _ z5; have z5_2 := cell_of_row _ _ 2 _ _ _ z5; have z5_3 := cell_of_row _ _ 3 _ _ _ z5; have z5_f := (fun j => frozen_of_row _ _ j _ _ z5); have z5_l := lt_of_block z5; simp at z5_0 z5_1 z5_2 z5_3; have H_z5 := Lib.hid z5; clear z5; have z2_0 := cell_of_row _ _ 0 _ _ _ z2; have z2_1 := cell_of_row _ _ 1 _ _ _ z2; have z2_f := (fun j => frozen_of_row _ _ j _ _ z2); have z2_l := lt_of_block z2; simp at z2_0 z2_1; have H_z2 := Lib.hid z2; clear z2; clear hp hp')
  refine bodyPost_ret (v := .tuple #[refV aL cL aG cG Q.length, .agg #[.string ⟨#[]⟩, .slice none 0 0, .int .u64 0, .int .u64 0], .int .i64 9]) (by simp [results, Try.results21, go_sem, z4_0, z4_1, z5_0, z5_1, z5_2, z5_3]) rfl ⟨rfl, ?_⟩
  have hpp := HP.out
  (repeat' (first | (with_reducible exact Mod.refl _ _) | (with_reducible refine Mod.alloc ?_ _) | (with_reducible refine Mod.drew ?_) | (with_reducible refine Mod.drewN ?_ _) | (with_reducible refine Mod.setCell ?_ ?_ _) | (refine Mod.then ?_ (by with_reducible assumption) ?_)))
  (all_goals (intros; first | (exfalso; assumption) | omega | (simp at *; done) | (simp at *; omega)))

def refRemHit (w : World) (Q : List RQ) (s : Nat) (x : Ent) (v : Value) (e : Ending) (w' : World) : Prop :=
  ∃ aL cL aG cG Q', e = .returned (.tuple #[refV aL cL aG cG Q'.length, entV x v, .int .i64 0]) ∧ Q'.map absQ = (Q.map absQ).set s (x, true) ∧ RefRow w' aL cL aG cG Q' ∧ Fresh w (.slice aL Q'.length cL) ∧ Fresh w (.slice aG Q'.length cG) ∧ Pure w w'

/-- Behind the store of the mark. -/
structure RmFin (w : World) (b7 : Nat) (aL : Option Addr) (cL : Nat) (aG : Option Addr) (cG : Nat) (n : Nat) (aL' : Option Addr) (cL' : Nat) (aG' : Option Addr) (cG' : Nat) (Q2 : List RQ) (wr : World) : Prop where
  pu : Pure w wr
  r2 : wr.heap[w.heap.size]? = some (.cells #[.slice aL n cL, .slice aG n cG] 30 (0, 0))
  r4 : wr.heap[w.heap.size + 1]? = some (.cells #[.slice none 0 0, .slice none 0 0] 30 (0, 0))
  r5 : wr.heap[w.heap.size + 1 + 1]? = some (.cells #[.string ⟨#[]⟩, .slice none 0 0, .int .u64 0, .int .u64 0] 48 (0, 0))
  r7 : wr.heap[b7]? = some (.cells #[.slice aL' Q2.length cL', .slice aG' Q2.length cG'] 30 (0, 0))
  R : RefRow wr aL' cL' aG' cG' Q2
  fL : ∀ g, (Value.slice aL' Q2.length cL').ownBlock = some g → w.heap.size + 1 + 1 < g
  fG : ∀ g, (Value.slice aG' Q2.length cG').ownBlock = some g → w.heap.size + 1 + 1 < g
theorem list_set_self {α : Type} {l : List α} {i : Nat} {a : α} (h : l[i]? = some a) : l.set i a = l := by
  apply List.ext_getElem?
  intro j
  rw [List.getElem?_set]
  split
  · rename_i e
    subst e
    rw [if_pos (List.getElem?_eq_some_iff.1 h).1, h]
  · rfl
theorem set_abs (Q Q' : List RQ) (s : Nat) (q : RQ) (x : Ent) (v : Value) (g : Bool) (hQ : Q'.map absQ = Q.map absQ) (hq : Q'[s]? = some q) (hx : Q[s]? = some (x, v, g)) : (Q'.set s (q.1, q.2.1, true)).map absQ = (Q.map absQ).set s (x, true) := by
  have : absQ q = (x, g) := by
    have h1 : (Q'.map absQ)[s]? = some (absQ q) := by rw [List.getElem?_map, hq]; rfl
    have h2 : (Q.map absQ)[s]? = some (x, g) := by rw [List.getElem?_map, hx]; rfl
    rw [hQ, h2] at h1
    exact (Option.some.inj h1).symm
  rw [List.map_set, hQ]
  simp only [absQ] at this ⊢
  rw [(Prod.mk.inj this).1]
theorem rm_fin {w w2 : World} {b7 g : Nat} {aL : Option Addr} {cL : Nat} {aG : Option Addr} {cG n s : Nat} {aL' : Option Addr} {cL' cG' : Nat} {Q' : List RQ} {q : RQ}
    (pu : Pure w w2) (r2 : w2.heap[w.heap.size]? = some (.cells #[.slice aL n cL, .slice aG n cG] 30 (0, 0)))
    (r4 : w2.heap[w.heap.size + 1]? = some (.cells #[.slice none 0 0, .slice none 0 0] 30 (0, 0)))
    (r5 : w2.heap[w.heap.size + 1 + 1]? = some (.cells #[.string ⟨#[]⟩, .slice none 0 0, .int .u64 0, .int .u64 0] 48 (0, 0)))
    (r7 : w2.heap[b7]? = some (.cells #[.slice aL' Q'.length cL', .slice (some ⟨g, 0, none⟩) Q'.length cG'] 30 (0, 0)))
    (R : RefRow w2 aL' cL' (some ⟨g, 0, none⟩) cG' Q') (hq : Q'[s]? = some q)
    (fL : ∀ k, (Value.slice aL' Q'.length cL').ownBlock = some k → w.heap.size + 1 + 1 < k) (fG : w.heap.size + 1 + 1 < g) :
    RmFin w b7 aL cL aG cG n aL' cL' (some ⟨g, 0, none⟩) cG' (Q'.set s (q.1, q.2.1, true)) (w2.setCell ⟨g, s, none⟩ (.bool true)) := by
  have hlt : s < Q'.length := (List.getElem?_eq_some_iff.1 hq).1
  have hM : Mod (fun i => i = g) w2 (w2.setCell ⟨g, s, none⟩ (.bool true)) := Mod.set1 g s _
  obtain ⟨c, hg⟩ := owns_type R.G (g := g) rfl
  have hT : ∀ (T : Nat), 4 ≠ T → ∀ i, i = g → i < w2.heap.size → ∃ cs T' fz, w2.heap[i]? = some (.cells cs T' fz) ∧ T' ≠ T := fun T hT i hi _ => by subst hi; exact ⟨_, _, _, hg, hT⟩
  have hl : (Q'.set s (q.1, q.2.1, true)).length = Q'.length := by simp
  have h1 : ∀ q', q' ∈ Q'.set s (q.1, q.2.1, true) → ∃ q0 ∈ Q', q0.1 = q'.1 ∧ q0.2.1 = q'.2.1 := by
    intro q' h
    rcases List.mem_or_eq_of_mem_set h with h | h
    · exact ⟨q', h, rfl, rfl⟩
    · subst h; exact ⟨q, List.mem_of_getElem? hq, rfl, rfl⟩
  refine ⟨pu.then hM (fun i hi h => by omega), heap_modT r2 hM (hT _ (by decide)), heap_modT r4 hM (hT _ (by decide)), heap_modT r5 hM (hT _ (by decide)), by rw [hl]; exact heap_modT r7 hM (hT _ (by decide)), ⟨?_, ?_, ?_, ?_, by rw [hl]; exact R.len⟩, by rw [hl]; exact fL, fun k e => by cases e; exact fG⟩
  · rw [hl]
    have e : (Q'.set s (q.1, q.2.1, true)).flatMap cellsQ = Q'.flatMap cellsQ := by
      have : Q'.flatMap cellsQ = (Q'.map (fun q : RQ => (q.1, q.2.1))).flatMap (fun p => entCells p.1 p.2) := by rw [List.flatMap_map]; rfl
      rw [this]
      have : (Q'.set s (q.1, q.2.1, true)).flatMap cellsQ = ((Q'.set s (q.1, q.2.1, true)).map (fun q : RQ => (q.1, q.2.1))).flatMap (fun p => entCells p.1 p.2) := by rw [List.flatMap_map]; rfl
      rw [this, List.map_set]
      congr 1
      exact list_set_self (by rw [List.getElem?_map, hq]; rfl)
    rw [e]
    exact owns_modT R.L hM (hT _ (by decide))
  · rw [hl]
    have := owns_setCell R.G s (.bool true) (by omega)
    rw [List.map_set]
    exact this
  · intro q' h
    obtain ⟨q0, hm, e1, e2⟩ := h1 q' h
    rw [← e1, ← e2]
    exact owns_modT (R.vals q0 hm) hM (hT _ (by decide))
  · intro q' h
    obtain ⟨q0, hm, e1, e2⟩ := h1 q' h
    rw [← e1]
    exact R.ok q0 hm
end Go.Proofs.Ytbjiebhbmpafpaa
