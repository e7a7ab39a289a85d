/- The contracts of the log of layer 9 on lists of entries. Conditions: the log is made (LogAt), the bounds that each theorem names. -/
import Derived.Test.YtpafcocciggfpaaGreatLogAll
namespace Go.Proofs.YtpafcocciggfpaaGreat
open Go.RowKit Go.Shelf
set_option maxRecDepth 100000

/-! ## The log's contracts in words of its entries alone -/
abbrev logPtr (p : Nat) : Value := .pointer (some ⟨p, 0, none⟩)
abbrev entV (x : Ent) (v : Value) : Value := .agg #[.string x.key, v, .int .u64 x.dl, .int .u64 x.birth]
theorem LogRow.toAt {w : World} {D : Nat → Prop} {p : Nat} {sv : Value} {M : List (Option Ent × Value)} (h : LogRow w D p sv M) : LogAt w D p (M.map Prod.fst) := ⟨sv, M, rfl, h⟩
theorem LogAt.pure {w w' : World} {D : Nat → Prop} {p : Nat} {L : List (Option Ent)} (h : LogAt w D p L) (hm : Pure w w') : LogAt w' D p L := by
  obtain ⟨sv, M, rfl, h⟩ := h
  exact (h.pure hm).toAt
theorem LogAt.lt {w : World} {D : Nat → Prop} {p : Nat} {L : List (Option Ent)} (h : LogAt w D p L) {k : Nat} (hk : D k) : k < w.heap.size := by
  obtain ⟨sv, M, rfl, h⟩ := h
  exact h.lt hk
theorem LogAt.ok {w : World} {D : Nat → Prop} {p : Nat} {L : List (Option Ent)} (h : LogAt w D p L) : LogOk L := by
  obtain ⟨sv, M, rfl, h⟩ := h
  exact h.ok
/-- A log's blocks are of two types. -/
theorem LogAt.types {w : World} {D : Nat → Prop} {p : Nat} {L : List (Option Ent)} (h : LogAt w D p L) {k : Nat} (hk : D k) {cs : Array Value} {T : TypeId} {fz : Nat × Nat} (e : w.heap[k]? = some (.cells cs T fz)) : T = 92 ∨ T = 42 := by
  obtain ⟨sv, M, rfl, h⟩ := h
  rcases (h.dd k).1 hk with rfl | e'
  · rw [h.box] at e; cases e; exact .inl rfl
  · obtain ⟨c, e2⟩ := owns_type h.row e'; rw [e2] at e; cases e; exact .inr rfl
theorem LogAt.frame {w w' : World} {D S : Nat → Prop} {p : Nat} {L : List (Option Ent)} (h : LogAt w D p L) (hm : Mod S w w') (hD : ∀ k, D k → ¬ S k) (hS : ∀ k, k < w.heap.size → S k → ∀ cs fz, w.heap[k]? ≠ some (.cells cs 5 fz)) : LogAt w' D p L := by
  obtain ⟨sv, M, rfl, h⟩ := h
  exact (h.frame hm hD hS).toAt
/-- A log behind a change of another one. -/
theorem LogAt.beside {w w' : World} {D S : Nat → Prop} {p q : Nat} {L K : List (Option Ent)} (h : LogAt w D p L) (k : LogAt w S q K) (hm : Mod S w w') (hD : ∀ k, D k → ¬ S k) : LogAt w' D p L :=
  h.frame hm hD (fun i _ hi cs fz e => by rcases k.types hi e with e | e <;> cases e)
/-- A row of another type behind a change of a log. -/
theorem LogAt.owns {w w' : World} {S : Nat → Prop} {q : Nat} {K : List (Option Ent)} (h : LogAt w S q K) (hm : Mod S w w') {T k n : Nat} {v : Value} {xs : List Value} (ho : w.ownsRow 0 T k v n xs) (h1 : T ≠ 92) (h2 : T ≠ 42) : w'.ownsRow 0 T k v n xs :=
  owns_mod ho hm (fun g hg hs => by
    obtain ⟨c, e⟩ := owns_type ho hg
    rcases h.types hs e with e | e
    · exact h1 e
    · exact h2 e)
theorem LogAt.box {w w' : World} {S : Nat → Prop} {q : Nat} {K : List (Option Ent)} (h : LogAt w S q K) (hm : Mod S w w') {b : Nat} {cs : Array Value} {T : TypeId} {fz : Nat × Nat} (hb : w.heap[b]? = some (.cells cs T fz)) (h1 : T ≠ 92) (h2 : T ≠ 42) : w'.heap[b]? = some (.cells cs T fz) :=
  hm.heap (fun hs => by rcases h.types hs hb with e | e; exact h1 e; exact h2 e) hb

def newA (w : World) (e : Ending) (w' : World) : Prop := e = .returned (logPtr w.heap.size) ∧ LogAt w' (fun k => k = w.heap.size) w.heap.size [] ∧ Pure w w' ∧ w.heap.size < w'.heap.size
theorem newA_ok (w : World) : Calls Tryz.prog 24 #[] w (newA w) := by
  refine Calls.mono (entrylog_New w) ?_
  rintro e w' ⟨rfl, rfl⟩
  exact ⟨rfl, (logNew_row (heap_new rfl)).toAt, (Mod.refl _ _).alloc _, by simp⟩

def appendA (w : World) (D : Nat → Prop) (p : Nat) (L : List (Option Ent)) (x : Ent) (e : Ending) (w' : World) : Prop :=
  e = .returned (.tuple #[.int .u32 L.length, .int .i64 0]) ∧ ∃ D', LogAt w' D' p (L ++ [some x]) ∧ Mod D w w' ∧ Grew D D' w
theorem appendA_ok {w : World} {D : Nat → Prop} {p : Nat} {L : List (Option Ent)} (h : LogAt w D p L) (hL : L.length < 4194304) (x : Ent) (hok : x.Ok) (a : Option Addr) (n c : Nat) (hx : ReadAt w (.slice a n c) 1 (bytesOf x.val)) :
    Calls Tryz.prog 25 #[logPtr p, entV x (.slice a n c)] w (appendA w D p L x) := by
  obtain ⟨sv, M, rfl, h⟩ := h
  rw [List.length_map] at hL
  refine Calls.mono (Append_ok h hL x hok a n c hx) ?_
  rintro e w' ⟨rfl, D', sv', v', h1, h2, h3⟩
  refine ⟨by rw [List.length_map], D', ?_, h2, h3⟩
  have := h1.toAt
  rw [List.map_append] at this
  exact this

def removeA (w : World) (D : Nat → Prop) (p i : Nat) (L : List (Option Ent)) (x : Ent) (e : Ending) (w' : World) : Prop :=
  ∃ a n c, e = .returned (.tuple #[entV x (.slice a n c), .int .i64 0]) ∧ BytesAt w' (.slice a n c) (bytesOf x.val) ∧ Fresh w (.slice a n c) ∧ LogAt w' D p (L.set i none) ∧ Mod D w w'
theorem removeA_ok {w : World} {D : Nat → Prop} {p : Nat} {L : List (Option Ent)} (h : LogAt w D p L) (i : Nat) (x : Ent) (hi : L[i]? = some (some x)) :
    Calls Tryz.prog 27 #[logPtr p, .int .u32 i] w (removeA w D p i L x) := by
  obtain ⟨sv, M, rfl, h⟩ := h
  rw [List.getElem?_map] at hi
  cases hm : M[i]? with
  | none => rw [hm] at hi; cases hi
  | some m =>
    obtain ⟨o, v⟩ := m
    rw [hm] at hi
    cases hi
    refine Calls.mono (Remove_hit h hm) ?_
    rintro e w' ⟨a, n, c, rfl, h1, h2, h3, h4⟩
    refine ⟨a, n, c, rfl, h1, h2, ?_, h4⟩
    have := h3.toAt
    rw [List.map_set] at this
    exact this

theorem lenA {w : World} {D : Nat → Prop} {p : Nat} {L : List (Option Ent)} (h : LogAt w D p L) : Calls Tryz.prog 31 #[logPtr p] w fun e w' => e = .returned (.int .i64 L.length) ∧ w = w' := by
  obtain ⟨sv, M, rfl, h⟩ := h
  rw [List.length_map]
  exact Len_any h
theorem liveA {w : World} {D : Nat → Prop} {p : Nat} {L : List (Option Ent)} (h : LogAt w D p L) : Calls Tryz.prog 85 #[logPtr p] w fun e w' => e = .returned (.int .i64 (liveOf L)) ∧ w = w' := by
  obtain ⟨sv, M, rfl, h⟩ := h
  exact Live_any h

/-! ### the key of a slot -/
def keyL (L : List (Option Ent)) (s : Nat) : ByteArray := match L[s]? with
  | some (some e) => e.key
  | _ => ⟨#[]⟩
def hasL (L : List (Option Ent)) (s : Nat) : Bool := match L[s]? with
  | some (some _) => true
  | _ => false
def noL (L : List (Option Ent)) (s : Nat) : Int := if hasL L s then 0 else 9
theorem Key_any {w : World} {D : Nat → Prop} {p : Nat} {L : List (Option Ent)} (h : LogAt w D p L) (i : Nat) (hu : i ≤ 4294967295) :
    Calls Tryz.prog 72 #[logPtr p, .int .u32 i] w fun e w' => e = .returned (.tuple #[.string (keyL L i), .int .i64 (noL L i)]) ∧ w = w' := by
  obtain ⟨sv, M, rfl, h⟩ := h
  cases hi : slotOf M i with
  | none =>
    have HA := Lib.hid (h.miss hu hi)
    have e1 : keyL (M.map Prod.fst) i = ⟨#[]⟩ ∧ noL (M.map Prod.fst) i = 9 := by
      unfold noL hasL keyL
      unfold slotOf at hi
      rw [List.getElem?_map]
      cases hm : M[i]? with
      | none => simp
      | some m =>
        obtain ⟨o, v⟩ := m
        rw [hm] at hi
        have : o = none := by simpa using hi
        subst this
        simp
    rw [e1.1, e1.2]
    clear e1 hi h
    go_enter Tryz.func72, Tryz.ntmps72
    go_wp2_with (go_at_call 89; refine Calls.mono (HA.out _ (Mod.refl _ _)) ?_; rintro e w' ⟨rfl, rfl⟩)
    go_ret2
    exact ⟨rfl, rfl⟩
  | some x =>
    obtain ⟨v, hm⟩ : ∃ v, M[i]? = some (some x, v) := by
      unfold slotOf at hi
      cases hm : M[i]? with
      | none => rw [hm] at hi; cases hi
      | some m =>
        obtain ⟨o, v⟩ := m
        rw [hm] at hi
        have : o = some x := by simpa using hi
        subst this
        exact ⟨v, rfl⟩
    have e1 : keyL (M.map Prod.fst) i = x.key ∧ noL (M.map Prod.fst) i = 0 := by
      unfold noL hasL keyL
      rw [List.getElem?_map, hm]
      simp
    rw [e1.1, e1.2]
    clear e1 hi
    obtain ⟨g, c, rfl, hg, ng, hlt, hn, hc, hf⟩ := h.slot hm
    obtain ⟨c0, c1, c2, cf⟩ := h.cells
    have hok := h.ok.ent x (List.mem_map.2 ⟨_, List.mem_of_getElem? hm, rfl⟩)
    have hb : (x.birth == 0) = false := by have := hok.b0; simp; omega
    have s0 : w.cell? ⟨g, i * 4, none⟩ = _ := hc 0 _ rfl; have s3 := hc 3 _ rfl
    clear h hc hok
    go_enter Tryz.func72, Tryz.ntmps72
    go_wp2_with (go_at_call 89; refine Calls.mono (at_hit p g _ c i x.birth _ c0 c1 hlt hn s3 hb) ?_; rintro e w' ⟨rfl, rfl⟩)
    go_ret2
    exact ⟨rfl, rfl⟩

def getA (w : World) (L : List (Option Ent)) (i : Nat) (e : Ending) (w' : World) : Prop :=
  match L[i]? with
  | some (some x) => ∃ a n c, e = .returned (.tuple #[.agg #[.string x.key, .slice a n c, .int .u64 x.dl, .int .u64 x.birth], .int .i64 0]) ∧ BytesAt w' (.slice a n c) (bytesOf x.val) ∧ Fresh w (.slice a n c) ∧ Pure w w'
  | _ => e = .returned (.tuple #[.agg #[.string ⟨#[]⟩, .slice none 0 0, .int .u64 0, .int .u64 0], .int .i64 9]) ∧ Pure w w'
theorem Get_any {w : World} {D : Nat → Prop} {p : Nat} {L : List (Option Ent)} (h : LogAt w D p L) (i : Nat) (hu : i ≤ 4294967295) :
    Calls Tryz.prog 99 #[logPtr p, .int .u32 i] w (getA w L i) := by
  obtain ⟨sv, M, rfl, h⟩ := h
  unfold getA
  rw [List.getElem?_map]
  cases hm : M[i]? with
  | none =>
    refine Calls.mono (Get_miss h hu (by unfold slotOf; rw [hm]; rfl)) ?_
    intro e w' he
    exact he
  | some m =>
    obtain ⟨o, v⟩ := m
    cases o with
    | none =>
      refine Calls.mono (Get_miss h hu (by unfold slotOf; rw [hm]; rfl)) ?_
      intro e w' he
      exact he
    | some x => exact Get_hit h hm
def copyA (w : World) (L : List (Option Ent)) (e : Ending) (w' : World) : Prop :=
  ∃ q D', e = .returned (logPtr q) ∧ LogAt w' D' q L ∧ Pure w w' ∧ ∀ k, D' k → w.heap.size ≤ k
theorem copyA_ok {w : World} {D : Nat → Prop} {p : Nat} {L : List (Option Ent)} (h : LogAt w D p L) : Calls Tryz.prog 91 #[logPtr p] w (copyA w L) := by
  obtain ⟨sv, M, rfl, h⟩ := h
  refine Calls.mono (Copy_any h) ?_
  rintro e w' ⟨q, sv', D', rfl, h1, h2, h3⟩
  exact ⟨q, D', rfl, h1.toAt, h2, h3⟩
def allA (w : World) (L : List (Option Ent)) (e : Ending) (w' : World) : Prop :=
  ∃ M B a c, M.map Prod.fst = L ∧ e = .returned (.func (.func 149) #[] #[.pointer (some ⟨B, 0, none⟩)]) ∧ IterAt w' B (.slice a M.length c) M ∧ Pure w w' ∧ w.heap.size ≤ B ∧ Fresh w (.slice a M.length c)
theorem allA_ok {w : World} {D : Nat → Prop} {p : Nat} {L : List (Option Ent)} (h : LogAt w D p L) : Calls Tryz.prog 92 #[logPtr p] w (allA w L) := by
  obtain ⟨sv, M, rfl, h⟩ := h
  refine Calls.mono (All_any h) ?_
  rintro e w' ⟨B, a, c, h1, h2, h3, h4, h5⟩
  exact ⟨M, B, a, c, rfl, h1, h2, h3, h4, h5⟩
end Go.Proofs.YtpafcocciggfpaaGreat
