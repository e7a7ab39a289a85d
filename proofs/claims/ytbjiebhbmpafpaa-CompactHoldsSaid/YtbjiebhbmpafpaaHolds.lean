/- law11.CompactHolds, parts: what is known before and between the rounds. -/
import Derived.Test.YtbjiebhbmpafpaaLogs
import Derived.Test.YtbjiebhbmpafpaaRange2
import Derived.Sort.CutIn
import Derived.Sort.BigQuietIn
namespace Go.Proofs.Ytbjiebhbmpafpaa
open Go.RowKit Go.Shelf
set_option maxRecDepth 100000
attribute [local go_sem] Oper.semAt_some

/-! ### plain -/
theorem packed_live_length (L : List (Option Ent)) : (packed L).length = (live L).length := by simp [packed]
theorem liveFrom_somes (xs : List (Nat × Ent)) : ∀ i, liveFrom i (xs.map (fun g : Nat × Ent => some g.2)) = ((xs.map Prod.snd).zipIdx i).map (fun p => (p.2, p.1)) := by
  induction xs with
  | nil => intro i; rfl
  | cons a xs ih => intro i; simp [liveFrom, ih, List.zipIdx_cons]
theorem live_packed (L : List (Option Ent)) : live (packed L) = (((live L).map Prod.snd).zipIdx 0).map (fun p => (p.2, p.1)) := liveFrom_somes _ 0
theorem packed_packed (L : List (Option Ent)) : packed (packed L) = packed L := by
  have e := live_packed L
  show (live (packed L)).map (fun g : Nat × Ent => some g.2) = (live L).map (fun g : Nat × Ent => some g.2)
  rw [e, List.map_map]
  have : ∀ (ys : List Ent) (i : Nat), (ys.zipIdx i).map ((fun g : Nat × Ent => some g.2) ∘ fun p => (p.2, p.1)) = ys.map some := by
    intro ys
    induction ys with
    | nil => intro i; rfl
    | cons a ys ih => intro i; simp [List.zipIdx_cons, ih]
  rw [this, List.map_map]
  rfl
theorem olds_packed (L : List (Option Ent)) : olds (packed L) = List.range (live L).length := by
  unfold olds
  rw [live_packed, List.map_map]
  have : ∀ (ys : List Ent) (i : Nat), (ys.zipIdx i).map (Prod.fst ∘ fun p : Ent × Nat => (p.2, p.1)) = List.range' i ys.length := by
    intro ys
    induction ys with
    | nil => intro i; rfl
    | cons a ys ih => intro i; simp [List.zipIdx_cons, List.range'_succ]; exact ih (i + 1)
  rw [this, List.length_map, List.range_eq_range']
theorem liveOf_live (L : List (Option Ent)) : liveOf L = (live L).length := by
  have : ∀ (L : List (Option Ent)) i, (liveFrom i L).length = L.countP Option.isSome := by
    intro L
    induction L with
    | nil => intro i; rfl
    | cons o L ih => intro i; cases o <;> simp [liveFrom, ih]
  exact (this L 0).symm
theorem liveOf_packed (L : List (Option Ent)) : liveOf (packed L) = (live L).length := by
  rw [liveOf_live, live_packed]; simp
theorem toM_range {k i : Nat} (h : i < k) : toM (List.range k) i = (i, 0) := by
  have hp : (List.range k).Pairwise (· < ·) := List.pairwise_lt_range
  have : below (List.range k) i = i := below_at hp (by simp [h])
  simp [toM, h, this]
/-- At the place of the entry g in the list of the entries. -/
theorem live_at {L : List (Option Ent)} {pre post : List (Nat × Ent)} {g : Nat × Ent} (h : live L = pre ++ g :: post) :
    (packed L)[pre.length]? = some (some g.2) ∧ (olds L)[pre.length]? = some g.1 ∧ pre.length < (live L).length := by
  refine ⟨?_, ?_, by rw [h]; simp⟩
  · unfold packed; rw [h]; simp
  · unfold olds; rw [h]; simp
theorem LogAt.quiet {N : Nat} {A B : World} {D : Nat → Prop} {p : Nat} {L : List (Option Ent)} (h : LogAt A D p L) (hq : Quiet N A B) : LogAt B D p L := by
  obtain ⟨sv, M, e, h⟩ := h
  exact ⟨sv, M, e, h.quiet hq⟩

/-- What is known of the memory between two rounds (b: the next slot number). -/
structure HInv (w : World) (p q y : Nat) (D D2 D3 : Nat → Prop) (L : List (Option Ent)) (b8 b9 b11 b12 b13 : Nat) (a a' : Option Addr) (c c' k n : Nat) (b : Nat) (W : World) : Prop where
  pu : Pure w W
  r4 : W.heap[w.heap.size]? = some (.cells #[.bool false] 4 (0, 0))
  lp : LogAt W D p L
  lq : LogAt W D2 q (packed L)
  ly : LogAt W D3 y (packed L)
  r8 : W.heap[b8]? = some (.cells #[logPtr q] 26 (0, 0))
  r9 : W.heap[b9]? = some (.cells #[.slice a k c, .int .i64 n] 34 (0, 0))
  r11 : W.heap[b11]? = some (.cells #[logPtr y] 26 (0, 0))
  r12 : W.heap[b12]? = some (.cells #[.slice a' k c', .int .i64 k] 34 (0, 0))
  row : W.ownsRow 0 43 1 (.slice a k c) k (u32s (olds L))
  row2 : W.ownsRow 0 43 1 (.slice a' k c') k (u32s (List.range k))
  r13 : W.heap[b13]? = some (.cells #[.int .u32 b] 43 (0, 0))
  n13 : ∀ g, (Value.slice a k c).ownBlock = some g → g ≠ b13
  m13 : ∀ g, (Value.slice a' k c').ownBlock = some g → g ≠ b13
  w13 : w.heap.size ≤ b13
theorem HInv.quiet {w : World} {p q y : Nat} {D D2 D3 : Nat → Prop} {L : List (Option Ent)} {b8 b9 b11 b12 b13 : Nat} {a a' : Option Addr} {c c' k n : Nat} {b : Nat} {A B : World} (h : HInv w p q y D D2 D3 L b8 b9 b11 b12 b13 a a' c c' k n b A) {N : Nat} (hN : w.heap.size ≤ N) (hq : Quiet N A B) :
    HInv w p q y D D2 D3 L b8 b9 b11 b12 b13 a a' c c' k n b B :=
  ⟨hq.mod h.pu hN, hq.cells h.r4, h.lp.quiet hq, h.lq.quiet hq, h.ly.quiet hq, hq.cells h.r8, hq.cells h.r9, hq.cells h.r11, hq.cells h.r12, hq.owns h.row, hq.owns h.row2, hq.cells h.r13, h.n13, h.m13, h.w13⟩
theorem HInv.pure {w : World} {p q y : Nat} {D D2 D3 : Nat → Prop} {L : List (Option Ent)} {b8 b9 b11 b12 b13 : Nat} {a a' : Option Addr} {c c' k n : Nat} {b : Nat} {A B : World} (h : HInv w p q y D D2 D3 L b8 b9 b11 b12 b13 a a' c c' k n b A) (hq : Pure A B) :
    HInv w p q y D D2 D3 L b8 b9 b11 b12 b13 a a' c c' k n b B := by
  have h1 := h.quiet (N := w.heap.size) (Nat.le_refl _) (Quiet.of_pure hq)
  exact h1
/-- The next slot number. -/
theorem HInv.next {w : World} {p q y : Nat} {D D2 D3 : Nat → Prop} {L : List (Option Ent)} {b8 b9 b11 b12 b13 : Nat} {a a' : Option Addr} {c c' k n : Nat} {b : Nat} {A : World} (h : HInv w p q y D D2 D3 L b8 b9 b11 b12 b13 a a' c c' k n b A) :
    HInv w p q y D D2 D3 L b8 b9 b11 b12 b13 a a' c c' k n (b + 1) (A.setCell ⟨b13, 0, none⟩ (.int .u32 ((b : Int) + 1))) := by
  have hm : Mod (fun i => i = b13) A (A.setCell ⟨b13, 0, none⟩ (.int .u32 ((b : Int) + 1))) := Mod.set1 _ _ _
  have hS : ∀ (T : Nat), 43 ≠ T → ∀ i, i = b13 → i < A.heap.size → ∃ cs T' fz, A.heap[i]? = some (.cells cs T' fz) ∧ T' ≠ T := fun T hT i hi _ => by subst hi; exact ⟨_, _, _, h.r13, hT⟩
  have hl : ∀ {D : Nat → Prop} {p : Nat} {L : List (Option Ent)}, LogAt A D p L → LogAt (A.setCell ⟨b13, 0, none⟩ (.int .u32 ((b : Int) + 1))) D p L := fun hl =>
    hl.frame hm (fun i hi e => hl.notin h.r13 (by decide) (by decide) (e ▸ hi)) (fun i _ e cs fz e2 => by subst e; rw [h.r13] at e2; cases e2)
  have z := heap_set1 (j := 0) (v := .int .u32 ((b : Int) + 1)) h.r13
  refine ⟨h.pu.then hm (fun i hi e => by have := h.w13; omega), heap_modT h.r4 hm (hS _ (by decide)), hl h.lp, hl h.lq, hl h.ly, heap_modT h.r8 hm (hS _ (by decide)), heap_modT h.r9 hm (hS _ (by decide)), heap_modT h.r11 hm (hS _ (by decide)), heap_modT h.r12 hm (hS _ (by decide)),
    owns_mod h.row hm (fun g hg e => h.n13 g hg e), owns_mod h.row2 hm (fun g hg e => h.m13 g hg e), by simpa using z, h.n13, h.m13, h.w13⟩
theorem lenE {w : World} {D : Nat → Prop} {p : Nat} {L : List (Option Ent)} (h : LogAt w D p L) (n : Nat) (hn : L.length = n) : Calls Try.prog 25 #[logPtr p] w fun e w' => e = .returned (.int .i64 n) ∧ w' = w := by
  subst hn
  exact (lenA h).mono (fun e w' ⟨h1, h2⟩ => ⟨h1, h2.symm⟩)
theorem liveE {w : World} {D : Nat → Prop} {p : Nat} {L : List (Option Ent)} (h : LogAt w D p L) (n : Nat) (hn : liveOf L = n) : Calls Try.prog 26 #[logPtr p] w fun e w' => e = .returned (.int .i64 n) ∧ w' = w := by
  subst hn
  exact (liveA h).mono (fun e w' ⟨h1, h2⟩ => ⟨h1, h2.symm⟩)
theorem dueE (w : World) (n : Nat) (hn : n ≤ 4194304) : Calls Try.prog 13 #[.int .i64 n, .int .i64 n] w fun e w' => e = .returned (.bool false) ∧ w' = w := by
  refine (dueZ w n n false (by omega) (by unfold dueM; simp; omega)).mono (fun e w' ⟨h1, h2⟩ => ⟨h1, h2.symm⟩)
theorem compactR {w : World} {D : Nat → Prop} {p : Nat} {L : List (Option Ent)} (h : LogAt w D p L) (n k : Nat) (hn : L.length = n) (hk : (live L).length = k) :
    Calls Try.prog 18 #[logPtr p] w fun e w' => ∃ q a c D, e = .returned (.tuple #[logPtr q, .agg #[.slice a k c, .int .i64 n], .int .i64 0]) ∧ LogAt w' D q (packed L) ∧ w'.ownsRow 0 43 1 (.slice a k c) k (u32s (olds L)) ∧ Pure w w' := by
  subst hn hk
  refine Calls.mono (compactA_ok h) ?_
  rintro e w' ⟨q, a, c, D, rfl, h1, h2, h3, h4, _⟩
  rw [olds_length]
  unfold U32Row at h2
  rw [olds_length] at h2
  exact ⟨q, a, c, D, rfl, h1, h2, h3⟩
theorem law_toK {w : World} {a : Option Addr} {c j : Nat} {xs : List Nat} (h : w.ownsRow 0 43 1 (.slice a j c) j (u32s xs)) (hj : xs.length = j) (hr : Rising xs) (n o t1 t2 : Nat) (ho : o ≤ 4294967295) (ht : toM xs o = (t1, t2)) :
    Calls Try.prog 30 #[.agg #[.slice a j c, .int .i64 n], .int .u32 o, .int .u32 t1, .int .i64 t2] w fun e w' => e = .returned (.bool true) ∧ Pure w w' := by
  subst hj
  exact law_toE h hr n o t1 t2 ho ht
theorem law_fromK {w : World} {a : Option Addr} {c j : Nat} {xs : List Nat} (h : w.ownsRow 0 43 1 (.slice a j c) j (u32s xs)) (hj : xs.length = j) (hr : Rising xs) (n o t1 t2 : Nat) (ho : o ≤ 4294967295) (ht : fromM xs o = (t1, t2)) :
    Calls Try.prog 31 #[.agg #[.slice a j c, .int .i64 n], .int .u32 o, .int .u32 t1, .int .i64 t2] w fun e w' => e = .returned (.bool true) ∧ Pure w w' := by
  subst hj
  exact law_fromE h hr n o t1 t2 ho ht
end Go.Proofs.Ytbjiebhbmpafpaa
