/- The contracts of the log of layer 9 and of compact.Log on lists of entries. Conditions: the log is made (LogAt), the bounds that each theorem names. -/
import Derived.Test.YtbjiebhbmpafpaaDue
namespace Go.Proofs.Ytbjiebhbmpafpaa
open Go.RowKit Go.Shelf
set_option maxRecDepth 100000

/-! ## The log's contracts in words of its entries alone -/
abbrev logPtr (p : Nat) : Value := .pointer (some ⟨p, 0, none⟩)
abbrev entV (x : Ent) (v : Value) : Value := .agg #[.string x.key, v, .int .u64 x.dl, .int .u64 x.birth]
theorem LogRow.toAt {w : World} {D : Nat → Prop} {p : Nat} {sv : Value} {M : List (Option Ent × Value)} (h : LogRow w D p sv M) : LogAt w D p (M.map Prod.fst) := ⟨sv, M, rfl, h⟩
theorem LogAt.pure {w w' : World} {D : Nat → Prop} {p : Nat} {L : List (Option Ent)} (h : LogAt w D p L) (hm : Pure w w') : LogAt w' D p L := by
  obtain ⟨sv, M, rfl, h⟩ := h
  exact (h.pure hm).toAt
theorem LogAt.lt {w : World} {D : Nat → Prop} {p : Nat} {L : List (Option Ent)} (h : LogAt w D p L) {k : Nat} (hk : D k) : k < w.heap.size := by
  obtain ⟨sv, M, rfl, h⟩ := h
  exact h.lt hk
theorem LogAt.ok {w : World} {D : Nat → Prop} {p : Nat} {L : List (Option Ent)} (h : LogAt w D p L) : LogOk L := by
  obtain ⟨sv, M, rfl, h⟩ := h
  exact h.ok
/-- A log's blocks are of two types. -/
theorem LogAt.types {w : World} {D : Nat → Prop} {p : Nat} {L : List (Option Ent)} (h : LogAt w D p L) {k : Nat} (hk : D k) {cs : Array Value} {T : TypeId} {fz : Nat × Nat} (e : w.heap[k]? = some (.cells cs T fz)) : T = 107 ∨ T = 48 := by
  obtain ⟨sv, M, rfl, h⟩ := h
  rcases (h.dd k).1 hk with rfl | e'
  · rw [h.box] at e; cases e; exact .inl rfl
  · obtain ⟨c, e2⟩ := owns_type h.row e'; rw [e2] at e; cases e; exact .inr rfl
theorem LogAt.frame {w w' : World} {D S : Nat → Prop} {p : Nat} {L : List (Option Ent)} (h : LogAt w D p L) (hm : Mod S w w') (hD : ∀ k, D k → ¬ S k) (hS : ∀ k, k < w.heap.size → S k → ∀ cs fz, w.heap[k]? ≠ some (.cells cs 5 fz)) : LogAt w' D p L := by
  obtain ⟨sv, M, rfl, h⟩ := h
  exact (h.frame hm hD hS).toAt
/-- A log behind a change of another one. -/
theorem LogAt.beside {w w' : World} {D S : Nat → Prop} {p q : Nat} {L K : List (Option Ent)} (h : LogAt w D p L) (k : LogAt w S q K) (hm : Mod S w w') (hD : ∀ k, D k → ¬ S k) : LogAt w' D p L :=
  h.frame hm hD (fun i _ hi cs fz e => by rcases k.types hi e with e | e <;> cases e)
/-- A row of another type behind a change of a log. -/
theorem LogAt.owns {w w' : World} {S : Nat → Prop} {q : Nat} {K : List (Option Ent)} (h : LogAt w S q K) (hm : Mod S w w') {T k n : Nat} {v : Value} {xs : List Value} (ho : w.ownsRow 0 T k v n xs) (h1 : T ≠ 107) (h2 : T ≠ 48) : w'.ownsRow 0 T k v n xs :=
  owns_mod ho hm (fun g hg hs => by
    obtain ⟨c, e⟩ := owns_type ho hg
    rcases h.types hs e with e | e
    · exact h1 e
    · exact h2 e)
theorem LogAt.box {w w' : World} {S : Nat → Prop} {q : Nat} {K : List (Option Ent)} (h : LogAt w S q K) (hm : Mod S w w') {b : Nat} {cs : Array Value} {T : TypeId} {fz : Nat × Nat} (hb : w.heap[b]? = some (.cells cs T fz)) (h1 : T ≠ 107) (h2 : T ≠ 48) : w'.heap[b]? = some (.cells cs T fz) :=
  hm.heap (fun hs => by rcases h.types hs hb with e | e; exact h1 e; exact h2 e) hb

def newA (w : World) (e : Ending) (w' : World) : Prop := e = .returned (logPtr w.heap.size) ∧ LogAt w' (fun k => k = w.heap.size) w.heap.size [] ∧ Pure w w' ∧ w.heap.size < w'.heap.size
theorem newA_ok (w : World) : Calls Try.prog 57 #[] w (newA w) := by
  refine Calls.mono (entrylog_New w) ?_
  rintro e w' ⟨rfl, rfl⟩
  exact ⟨rfl, (logNew_row (heap_new rfl)).toAt, (Mod.refl _ _).alloc _, by simp⟩

def appendA (w : World) (D : Nat → Prop) (p : Nat) (L : List (Option Ent)) (x : Ent) (e : Ending) (w' : World) : Prop :=
  e = .returned (.tuple #[.int .u32 L.length, .int .i64 0]) ∧ ∃ D', LogAt w' D' p (L ++ [some x]) ∧ Mod D w w' ∧ Grew D D' w
theorem appendA_ok {w : World} {D : Nat → Prop} {p : Nat} {L : List (Option Ent)} (h : LogAt w D p L) (hL : L.length < 4194304) (x : Ent) (hok : x.Ok) (a : Option Addr) (n c : Nat) (hx : ReadAt w (.slice a n c) 1 (bytesOf x.val)) :
    Calls Try.prog 58 #[logPtr p, entV x (.slice a n c)] w (appendA w D p L x) := by
  obtain ⟨sv, M, rfl, h⟩ := h
  rw [List.length_map] at hL
  refine Calls.mono (Append_ok h hL x hok a n c hx) ?_
  rintro e w' ⟨rfl, D', sv', v', h1, h2, h3⟩
  refine ⟨by rw [List.length_map], D', ?_, h2, h3⟩
  have := h1.toAt
  rw [List.map_append] at this
  exact this

def removeA (w : World) (D : Nat → Prop) (p i : Nat) (L : List (Option Ent)) (x : Ent) (e : Ending) (w' : World) : Prop :=
  ∃ a n c, e = .returned (.tuple #[entV x (.slice a n c), .int .i64 0]) ∧ BytesAt w' (.slice a n c) (bytesOf x.val) ∧ Fresh w (.slice a n c) ∧ LogAt w' D p (L.set i none) ∧ Mod D w w'
theorem removeA_ok {w : World} {D : Nat → Prop} {p : Nat} {L : List (Option Ent)} (h : LogAt w D p L) (i : Nat) (x : Ent) (hi : L[i]? = some (some x)) :
    Calls Try.prog 20 #[logPtr p, .int .u32 i] w (removeA w D p i L x) := by
  obtain ⟨sv, M, rfl, h⟩ := h
  rw [List.getElem?_map] at hi
  cases hm : M[i]? with
  | none => rw [hm] at hi; cases hi
  | some m =>
    obtain ⟨o, v⟩ := m
    rw [hm] at hi
    cases hi
    refine Calls.mono (Remove_hit h hm) ?_
    rintro e w' ⟨a, n, c, rfl, h1, h2, h3, h4⟩
    refine ⟨a, n, c, rfl, h1, h2, ?_, h4⟩
    have := h3.toAt
    rw [List.map_set] at this
    exact this

theorem lenA {w : World} {D : Nat → Prop} {p : Nat} {L : List (Option Ent)} (h : LogAt w D p L) : Calls Try.prog 25 #[logPtr p] w fun e w' => e = .returned (.int .i64 L.length) ∧ w = w' := by
  obtain ⟨sv, M, rfl, h⟩ := h
  rw [List.length_map]
  exact Len_any h
theorem liveA {w : World} {D : Nat → Prop} {p : Nat} {L : List (Option Ent)} (h : LogAt w D p L) : Calls Try.prog 26 #[logPtr p] w fun e w' => e = .returned (.int .i64 (liveOf L)) ∧ w = w' := by
  obtain ⟨sv, M, rfl, h⟩ := h
  exact Live_any h

/-- What compact.Log returns: the log of the entries, and their old slot numbers. -/
def packed (L : List (Option Ent)) : List (Option Ent) := (live L).map (fun g => some g.2)
def olds (L : List (Option Ent)) : List Nat := (live L).map Prod.fst
def compactA (w : World) (L : List (Option Ent)) (e : Ending) (w' : World) : Prop :=
  ∃ q a c D, e = .returned (.tuple #[logPtr q, .agg #[.slice a (olds L).length c, .int .i64 L.length], .int .i64 0]) ∧ LogAt w' D q (packed L) ∧ U32Row w' a c (olds L) ∧ Pure w w' ∧ (∀ k, D k → w.heap.size ≤ k) ∧ Fresh w (.slice a (olds L).length c)
theorem olds_length (L : List (Option Ent)) : (olds L).length = (live L).length := by simp [olds]
theorem compactA_ok {w : World} {D : Nat → Prop} {p : Nat} {L : List (Option Ent)} (h : LogAt w D p L) : Calls Try.prog 18 #[logPtr p] w (compactA w L) := by
  obtain ⟨sv, M, rfl, h⟩ := h
  refine Calls.mono (compact_Log h) ?_
  rintro e w' ⟨q, a, c, D', sv', M', rfl, h1, h2, h3, h4, h5, h6⟩
  refine ⟨q, a, c, D', by rw [olds_length], ?_, ?_, h4, h5, by rw [olds_length]; exact h6⟩
  · have := h1.toAt
    rw [h2] at this
    exact this
  · unfold U32Row
    rw [olds_length, olds, u32s, List.map_map]
    exact h3
theorem liveFrom_up (L : List (Option Ent)) : ∀ i, ((liveFrom i L).map Prod.fst).Pairwise (· < ·) := by
  induction L with
  | nil => intro i; simp [liveFrom]
  | cons o L ih =>
    intro i
    cases o with
    | none => exact ih (i + 1)
    | some e =>
      simp only [liveFrom, List.map_cons, List.pairwise_cons]
      refine ⟨fun y hy => ?_, ih (i + 1)⟩
      obtain ⟨g, hg, rfl⟩ := List.mem_map.1 hy
      have := (liveFrom_mem hg).1
      omega
theorem olds_rising {L : List (Option Ent)} (h : L.length ≤ 4194304) : Rising (olds L) := by
  refine ⟨liveFrom_up L 0, ?_, by rw [olds_length]; exact Nat.le_trans (live_length L) h⟩
  intro x hx
  obtain ⟨g, hg, rfl⟩ := List.mem_map.1 hx
  have := (List.getElem?_eq_some_iff.1 (live_mem hg)).1
  omega
theorem olds_lt {L : List (Option Ent)} : ∀ x ∈ olds L, x < L.length := by
  intro x hx
  obtain ⟨g, hg, rfl⟩ := List.mem_map.1 hx
  exact (List.getElem?_eq_some_iff.1 (live_mem hg)).1
theorem keysA {w : World} {D : Nat → Prop} {p : Nat} {L : List (Option Ent)} (h : LogAt w D p L) : Calls Try.prog 59 #[logPtr p] w fun e w' => e = .returned (.string (keysOf (live L))) ∧ Pure w w' := by
  obtain ⟨sv, M, rfl, h⟩ := h
  exact keys_any h

/-! ### to, from, with numerals -/
theorem toZ {w : World} {a : Option Addr} {c : Nat} {xs : List Nat} (h : U32Row w a c xs) (hr : Rising xs) (k : Nat) (hk : xs.length = k) (n o want no : Int) (r : Bool) (ho : 0 ≤ o ∧ o ≤ 4294967295 ∧ 0 ≤ want ∧ 0 ≤ no) (hd : decide (toM xs o.toNat = (want.toNat, no.toNat)) = r) :
    Calls Try.prog 30 #[.agg #[.slice a k c, .int .i64 n], .int .u32 o, .int .u32 want, .int .i64 no] w fun e w' => e = .returned (.bool r) ∧ Pure w w' := by
  subst hk hd
  obtain ⟨o, rfl⟩ := Int.eq_ofNat_of_zero_le ho.1
  obtain ⟨want, rfl⟩ := Int.eq_ofNat_of_zero_le ho.2.2.1
  obtain ⟨no, rfl⟩ := Int.eq_ofNat_of_zero_le ho.2.2.2
  exact law_to h hr n o want no (by omega)
theorem fromZ {w : World} {a : Option Addr} {c : Nat} {xs : List Nat} (h : U32Row w a c xs) (hr : xs.length ≤ 4194304) (k : Nat) (hk : xs.length = k) (n o want no : Int) (r : Bool) (ho : 0 ≤ o ∧ o ≤ 4294967295 ∧ 0 ≤ want ∧ 0 ≤ no) (hd : decide (fromM xs o.toNat = (want.toNat, no.toNat)) = r) :
    Calls Try.prog 31 #[.agg #[.slice a k c, .int .i64 n], .int .u32 o, .int .u32 want, .int .i64 no] w fun e w' => e = .returned (.bool r) ∧ Pure w w' := by
  subst hk hd
  obtain ⟨o, rfl⟩ := Int.eq_ofNat_of_zero_le ho.1
  obtain ⟨want, rfl⟩ := Int.eq_ofNat_of_zero_le ho.2.2.1
  obtain ⟨no, rfl⟩ := Int.eq_ofNat_of_zero_le ho.2.2.2
  exact law_from h hr n o want no (by omega)
theorem lensZ {w : World} (a : Option Addr) (c : Nat) (k : Nat) (n x y : Int) (r : Bool) (hr : (decide ((k : Int) = x) && decide (n = y)) = r) :
    Calls Try.prog 32 #[.agg #[.slice a k c, .int .i64 n], .int .i64 x, .int .i64 y] w fun e w' => e = .returned (.bool r) ∧ Pure w w' := by
  subst hr
  exact law_lens a c k n x y
theorem dueZ (w : World) (a b : Int) (r : Bool) (h : -9223372036854775808 ≤ a ∧ a ≤ 9223372036854775807) (hr : dueM a b = r) : Calls Try.prog 13 #[.int .i64 a, .int .i64 b] w fun e w' => e = .returned (.bool r) ∧ w = w' := by
  subst hr
  exact Due_any w a b h.1 h.2
end Go.Proofs.Ytbjiebhbmpafpaa
