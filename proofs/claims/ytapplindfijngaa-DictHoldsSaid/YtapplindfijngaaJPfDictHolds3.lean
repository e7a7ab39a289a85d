/- Lemmas and contracts of functions, strung together out of 20 texts. No condition. -/
import Derived.Test.YtapplindfijngaaJPfDictHolds2
import Derived.Test.YtapplindfijngaaJPfDictHolds1
import Derived.Deep.Fields
import Derived.ChangeSame
import Derived.Deep.Strs
/- Moves.Then: the composed moves, or the error. Conditions: owned rows, slot numbers in bounds. -/
namespace Go.Proofs.Ytapplindfijngaa
open Go.RowKit Go.Shelf
set_option maxRecDepth 100000

/-! ### Moves.Then -/
def thenXs (xs ys : List Nat) : List Nat := ys.map (fun y => xs.getD y 0)

end Go.Proofs.Ytapplindfijngaa

/- law11.keys answers the keys in order. Condition: the log is made (LogRow). -/
namespace Go.Proofs.Ytapplindfijngaa
open Go.RowKit Go.Shelf
set_option maxRecDepth 100000
attribute [local go_sem] Oper.semAt_some

/-! ### keys -/
theorem run_equalIn_func {P : Program} (w : World) (d : Nat) (t : TypeId) {ps rs : Array TypeId} {v : Bool} (fn : Fn) (fi ca : Array Value) (h : P.underlying t = some (.func ps rs v)) : (Op.equalIn (d + 1) t (.func fn fi ca) .nilFunc).run P w = .ok false w := by
  simp [Op.equalIn, run_underlying h]
@[go_sem] theorem neq_seq (w : World) (fn : Fn) (fi ca : Array Value) : (binOp .neq 55 (.func fn fi ca) .nilFunc).run Try.prog w = .ok (.bool true) w := by
  simp only [binOp]
  simp [Op.equal, Op.maxDepth, run_equalIn_func w 9999 _ fn fi ca Try.underlying55]
@[go_sem] theorem eql_seq (w : World) (fn : Fn) (fi ca : Array Value) : (binOp .eql 55 (.func fn fi ca) .nilFunc).run Try.prog w = .ok (.bool false) w := by
  simp only [binOp]
  simp [Op.equal, Op.maxDepth, run_equalIn_func w 9999 _ fn fi ca Try.underlying55]
def keysOf (L : List (Nat × Ent)) : ByteArray := L.foldl (fun s g => s ++ g.2.key) ⟨#[]⟩
structure KInv (w : World) (b : Nat) (pre : List Given) (W : World) : Prop where
  r : W.heap[b]? = some (.cells #[.string (keysOf (pre.map keyG))] 9 (0, 0))
  pu : Pure w W
  sz : (keysOf (pre.map keyG)).size ≤ 250 * pre.length
theorem KInv.quiet {w : World} {b : Nat} {pre : List Given} {A B : World} (h : KInv w b pre A) {N : Nat} (hN : w.heap.size ≤ N) (hq : Quiet N A B) : KInv w b pre B := ⟨hq.cells h.r, hq.mod h.pu hN, h.sz⟩

def KAx (w : World) (p B : Nat) (It : Nat → Prop) (N : Nat) (pre : List Given) (x : Given) (a' : Act) (W : World) : Prop :=
  ∃ b8 va vn vc, x.2.2 = .slice va vn vc ∧ KInv w w.heap.size pre W ∧ W.heap[b8]? = some (.cells #[.string x.2.1.key, x.2.2, .int .u64 x.2.1.dl, .int .u64 x.2.1.birth] 36 (0, 0)) ∧ N ≤ b8 ∧ N ≤ W.heap.size ∧ x.2.1.key.size ≤ 250 ∧ pre.length ≤ 4194304 ∧
    a' = { tmps := #[.pointer (some ⟨p, 0, none⟩), undef, .string ⟨#[]⟩, .pointer (some ⟨w.heap.size, 0, none⟩), .func (.func 64) #[] #[.pointer (some ⟨B, 0, none⟩)], undef, .pointer (some ⟨b8, 0, none⟩), .pointer (some ⟨p, 0, none⟩),
      .func (.func 64) #[] #[.pointer (some ⟨B, 0, none⟩)], .func (.func 64) #[] #[.pointer (some ⟨B, 0, none⟩)], .bool true, .func (.func 64) #[] #[.pointer (some ⟨B, 0, none⟩)],
      .int .u32 x.1, .agg #[.string x.2.1.key, x.2.2, .int .u64 x.2.1.dl, .int .u64 x.2.1.birth], undef, undef, undef, undef, undef], defers := [] }
theorem KAx.quiet {w : World} {p B : Nat} {It : Nat → Prop} {N : Nat} {pre : List Given} {x : Given} {a' : Act} {A W : World} (h : KAx w p B It N pre x a' A) (hN : w.heap.size ≤ N) (hq : Quiet N A W) : KAx w p B It N pre x a' W := by
  obtain ⟨b8, va, vn, vc, h1, h2, h3, h4, h5, h6⟩ := h
  exact ⟨b8, va, vn, vc, h1, h2.quiet hN hq, hq.cells h3, h4, Nat.le_trans h5 (Mod.size hq), h6⟩

end Go.Proofs.Ytapplindfijngaa

/- compact.Due and its reference answer dueM. Condition: the numbers are ints. -/
namespace Go.Proofs.Ytapplindfijngaa
open Go.RowKit Go.Shelf
set_option maxRecDepth 100000

/-! ### Due -/
def dueM (a b : Int) : Bool := decide (0 ≤ b) && decide (16 < a) && decide (2 * b ≤ a - 17)
end Go.Proofs.Ytapplindfijngaa

/- The contracts of the log of layer 9 and of compact.Log on lists of entries. Conditions: the log is made (LogAt), the bounds that each theorem names. -/
namespace Go.Proofs.Ytapplindfijngaa
open Go.RowKit Go.Shelf
set_option maxRecDepth 100000

/-- What compact.Log returns: the log of the entries, and their old slot numbers. -/
def packed (L : List (Option Ent)) : List (Option Ent) := (live L).map (fun g => some g.2)
def olds (L : List (Option Ent)) : List Nat := (live L).map Prod.fst
def compactA (w : World) (L : List (Option Ent)) (e : Ending) (w' : World) : Prop :=
  ∃ q a c D, e = .returned (.tuple #[logPtr q, .agg #[.slice a (olds L).length c, .int .i64 L.length], .int .i64 0]) ∧ LogAt w' D q (packed L) ∧ U32Row w' a c (olds L) ∧ Pure w w' ∧ (∀ k, D k → w.heap.size ≤ k) ∧ Fresh w (.slice a (olds L).length c)
theorem olds_length (L : List (Option Ent)) : (olds L).length = (live L).length := by simp [olds]
theorem liveFrom_up (L : List (Option Ent)) : ∀ i, ((liveFrom i L).map Prod.fst).Pairwise (· < ·) := by
  induction L with
  | nil => intro i; simp [liveFrom]
  | cons o L ih =>
    intro i
    cases o with
    | none => exact ih (i + 1)
    | some e =>
      simp only [liveFrom, List.map_cons, List.pairwise_cons]
      refine ⟨fun y hy => ?_, ih (i + 1)⟩
      obtain ⟨g, hg, rfl⟩ := List.mem_map.1 hy
      have := (liveFrom_mem hg).1
      omega
theorem olds_rising {L : List (Option Ent)} (h : L.length ≤ 4194304) : Rising (olds L) := by
  refine ⟨liveFrom_up L 0, ?_, by rw [olds_length]; exact Nat.le_trans (live_length L) h⟩
  intro x hx
  obtain ⟨g, hg, rfl⟩ := List.mem_map.1 hx
  have := (List.getElem?_eq_some_iff.1 (live_mem hg)).1
  omega
theorem olds_lt {L : List (Option Ent)} : ∀ x ∈ olds L, x < L.length := by
  intro x hx
  obtain ⟨g, hg, rfl⟩ := List.mem_map.1 hx
  exact (List.getElem?_eq_some_iff.1 (live_mem hg)).1
/-! ### to, from, with numerals -/
end Go.Proofs.Ytapplindfijngaa

/- The reference of layer 9: Copy, Has, Live, Get, Append, Remove of its log. Condition: the log's rows are its own (RefAt). -/
namespace Go.Proofs.Ytapplindfijngaa
open Go.RowKit Go.Shelf
set_option maxRecDepth 100000

theorem info_bool : (Try.prog.info? 4).map (fun i => (i.zero, i.size, i.bytes)) = some (some (.bool false), 1, 1) := by kernel_rfl

/-! ## The reference's log -/
abbrev RQ := Ent × Value × Bool
def cellsQ (q : RQ) : List Value := entCells q.1 q.2.1
theorem cellsQ_length (q : RQ) : (cellsQ q).length = 4 := rfl
def goneQ (q : RQ) : Value := .bool q.2.2
def absQ (q : RQ) : Ent × Bool := (q.1, q.2.2)
structure RefRow (w : World) (aL : Option Addr) (cL : Nat) (aG : Option Addr) (cG : Nat) (Q : List RQ) : Prop where
  L : w.ownsRow 0 36 4 (.slice aL Q.length cL) Q.length (Q.flatMap cellsQ)
  G : w.ownsRow 0 4 1 (.slice aG Q.length cG) Q.length (Q.map goneQ)
  vals : ∀ q ∈ Q, BytesAt w q.2.1 (bytesOf q.1.val)
  ok : ∀ q ∈ Q, q.1.Ok
  len : Q.length ≤ 4194304
theorem RefRow.pure {w w' : World} {aL : Option Addr} {cL : Nat} {aG : Option Addr} {cG : Nat} {Q : List RQ} (h : RefRow w aL cL aG cG Q) (hm : Pure w w') : RefRow w' aL cL aG cG Q :=
  ⟨owns_mod h.L hm (fun _ _ h => h), owns_mod h.G hm (fun _ _ h => h), fun q hq => owns_mod (h.vals q hq) hm (fun _ _ h => h), h.ok, h.len⟩
theorem RefRow.nil (w : World) : RefRow w none 0 none 0 [] := ⟨World.ownsRow_nil _ _ _ _, World.ownsRow_nil _ _ _ _, (fun _ h => (by cases h)), (fun _ h => (by cases h)), by decide⟩

def refCopyPost (w : World) (Q : List RQ) (e : Ending) (w' : World) : Prop :=
  ∃ aL cL aG cG Q', e = .returned (.agg #[.slice aL Q'.length cL, .slice aG Q'.length cG]) ∧ Q'.map absQ = Q.map absQ ∧ RefRow w' aL cL aG cG Q' ∧ Fresh w (.slice aL Q'.length cL) ∧ Fresh w (.slice aG Q'.length cG) ∧ Pure w w'

end Go.Proofs.Ytapplindfijngaa

/- The reference of layer 9: Has, Live, Get, Append, Remove of its log. Condition: the log's rows are its own (RefRow). -/
namespace Go.Proofs.Ytapplindfijngaa
open Go.RowKit Go.Shelf
set_option maxRecDepth 100000

theorem box4 {w1 : World} {b : Nat} {a0 a1 a2 a3 : Value} {T : TypeId} (hB : w1.heap[b]? = some (.cells #[a0, a1, a2, a3] T (0, 0))) (c0 c1 c2 c3 : Value) :
    (((((w1.setCell ⟨b, 0, none⟩ c0).setCell ⟨b, 1, none⟩ c1).setCell ⟨b, 2, none⟩ c2).setCell ⟨b, 3, none⟩ c3).heap[b]? = some (.cells #[c0, c1, c2, c3] T (0, 0))) ∧
    Mod (fun k => k = b) w1 ((((w1.setCell ⟨b, 0, none⟩ c0).setCell ⟨b, 1, none⟩ c1).setCell ⟨b, 2, none⟩ c2).setCell ⟨b, 3, none⟩ c3) := by
  refine ⟨?_, ((((Mod.refl (fun k => k = b) w1).setCell (p := ⟨b, 0, none⟩) (fun _ => rfl) _).setCell (p := ⟨b, 1, none⟩) (fun _ => rfl) _).setCell (p := ⟨b, 2, none⟩) (fun _ => rfl) _).setCell (p := ⟨b, 3, none⟩) (fun _ => rfl) _⟩
  simpa using heap_setCell_same _ _ 3 _ _ c3 (heap_setCell_same _ _ 2 _ _ c2 (heap_setCell_same _ _ 1 _ _ c1 (heap_setCell_same w1 _ 0 _ _ c0 hB)))

abbrev refV (aL : Option Addr) (cL : Nat) (aG : Option Addr) (cG : Nat) (n : Nat) : Value := .agg #[.slice aL n cL, .slice aG n cG]
def hasQ (Q : List RQ) (s : Nat) : Bool := match Q[s]? with | some q => !q.2.2 | none => false

def refGetPost (w : World) (Q : List RQ) (s : Nat) (e : Ending) (w' : World) : Prop :=
  Pure w w' ∧ match Q[s]? with
    | some (x, v, false) => e = .returned (.tuple #[entV x v, .int .i64 0])
    | _ => e = .returned (.tuple #[.agg #[.string ⟨#[]⟩, .slice none 0 0, .int .u64 0, .int .u64 0], .int .i64 9])

/-! ### Live -/
def liveQ (Q : List RQ) : Nat := Q.countP (fun q => !q.2.2)
end Go.Proofs.Ytapplindfijngaa

/- A slice in a field of a struct that lies in a block: what an append to it leaves; rows of other types behind a change. -/
namespace Go.Proofs.Ytapplindfijngaa
open Go.RowKit

/-- A row keeps, if what has turned are blocks of other types. -/
theorem owns_modT {w w' : World} {S : Nat → Prop} {T k n : Nat} {v : Value} {xs : List Value} (ho : w.ownsRow 0 T k v n xs) (hm : Mod S w w')
    (hS : ∀ i, S i → i < w.heap.size → ∃ cs T' fz, w.heap[i]? = some (.cells cs T' fz) ∧ T' ≠ T) : w'.ownsRow 0 T k v n xs :=
  owns_mod ho hm (fun g hg hs => by
    obtain ⟨c, e⟩ := owns_type ho hg
    obtain ⟨cs, T', fz, e', hne⟩ := hS g hs (owns_lt ho hg)
    rw [e] at e'; cases e'; exact hne rfl)
theorem heap_modT {w w' : World} {S : Nat → Prop} {T k : Nat} {cs : Array Value} {fz : Nat × Nat} (hb : w.heap[k]? = some (.cells cs T fz)) (hm : Mod S w w')
    (hS : ∀ i, S i → i < w.heap.size → ∃ cs T' fz, w.heap[i]? = some (.cells cs T' fz) ∧ T' ≠ T) : w'.heap[k]? = some (.cells cs T fz) :=
  hm.heap (fun hs => by
    obtain ⟨cs', T', fz', e', hne⟩ := hS k hs (lt_of_block hb)
    rw [hb] at e'; cases e'; exact hne rfl) hb

/-- x.f = append(x.f, ..), x in block b, f its cell j. -/
theorem field_append {w wg w5 : World} {b j : Nat} {cs : Array Value} {T E k n n' : Nat} {v v' : Value} {xs xs' : List Value}
    (hb : w.heap[b]? = some (.cells cs T (0, 0))) (ho : w.ownsRow 0 E k v n xs) (hTE : T ≠ E) (hp : Pure w wg)
    (ho5 : w5.ownsRow 0 E k v' n' xs') (hg : wg.grownBy w5 v.ownBlock) (hat : v'.ownBlock = v.ownBlock ∨ v'.ownBlock = some wg.heap.size) :
    (w5.setCell ⟨b, j, none⟩ v').heap[b]? = some (.cells (cs.setIfInBounds j v') T (0, 0)) ∧ (w5.setCell ⟨b, j, none⟩ v').ownsRow 0 E k v' n' xs' ∧
      Mod (fun i => i = b ∨ v.ownBlock = some i) w (w5.setCell ⟨b, j, none⟩ v') ∧ (∀ g, v'.ownBlock = some g → v.ownBlock = some g ∨ w.heap.size ≤ g) := by
  have hlb : b < w.heap.size := lt_of_block hb
  have hnb : v.ownBlock ≠ some b := fun e => by
    obtain ⟨c, e'⟩ := owns_type ho e
    rw [hb] at e'; cases e'; exact hTE rfl
  have hnb' : v'.ownBlock ≠ some b := fun e => by
    rcases hat with h | h
    · exact hnb (h ▸ e)
    · rw [h] at e; cases e; have := hp.size; omega
  have m5 : w5.heap[b]? = some (.cells cs T (0, 0)) :=
    Mod.heap (Mod.of_grown (S := fun i => v.ownBlock = some i) hg (fun k e _ => e)) hnb (hp.heap (fun h => h) hb)
  refine ⟨heap_setCell_same w5 b j cs T v' m5, owns_mod ho5 ((Mod.refl (fun i => i = b) w5).setCell (p := ⟨b, j, none⟩) (fun _ => rfl) _) (fun g hg h => hnb' (h ▸ hg)), ?_, ?_⟩
  · exact ((Mod.of_pure hp).then (Mod.of_grown (S := fun i => i = b ∨ v.ownBlock = some i) hg (fun k e _ => .inr e)) (fun _ _ h => h)).setCell (fun _ => .inl rfl) _
  · intro g e
    rcases hat with h | h
    · exact .inl (h ▸ e)
    · rw [h] at e; cases e; exact .inr hp.size

/-- A local slice (in a slot): append. -/
theorem slot_append {w wg w5 : World} {E k n n' : Nat} {v v' : Value} {xs' : List Value}
    (hp : Pure w wg) (_ho5 : w5.ownsRow 0 E k v' n' xs') (hg : wg.grownBy w5 v.ownBlock) (hat : v'.ownBlock = v.ownBlock ∨ v'.ownBlock = some wg.heap.size) :
    Mod (fun i => v.ownBlock = some i) w w5 ∧ (∀ g, v'.ownBlock = some g → v.ownBlock = some g ∨ w.heap.size ≤ g) := by
  refine ⟨(Mod.of_pure hp).then (Mod.of_grown (S := fun i => v.ownBlock = some i) hg (fun k e _ => e)) (fun _ _ h => h), ?_⟩
  intro g e
  rcases hat with h | h
  · exact .inl (h ▸ e)
  · rw [h] at e; cases e; exact .inr hp.size

/-- The block of a struct behind stores into its cells. -/
theorem heap_set1 {w : World} {b j : Nat} {cs : Array Value} {T : TypeId} {v : Value} (h : w.heap[b]? = some (.cells cs T (0, 0))) : (w.setCell ⟨b, j, none⟩ v).heap[b]? = some (.cells (cs.setIfInBounds j v) T (0, 0)) := heap_setCell_same w b j cs T v h
theorem heap_set12 {w : World} {b : Nat} {u0 u1 v0 v1 : Value} {T : TypeId} (h : w.heap[b]? = some (.cells #[u0, u1] T (0, 0))) : ((w.setCell ⟨b, 0, none⟩ v0).setCell ⟨b, 1, none⟩ v1).heap[b]? = some (.cells #[v0, v1] T (0, 0)) :=
  heap_set1 (j := 1) (heap_set1 (j := 0) h)
theorem Mod.set1 {w : World} (b j : Nat) (v : Value) : Mod (fun i => i = b) w (w.setCell ⟨b, j, none⟩ v) := (Mod.refl (fun i => i = b) w).setCell (p := ⟨b, j, none⟩) (fun _ => rfl) v
theorem Mod.set2 {w : World} (b j k : Nat) (u v : Value) : Mod (fun i => i = b) w ((w.setCell ⟨b, j, none⟩ u).setCell ⟨b, k, none⟩ v) := (Mod.set1 b j u).trans (Mod.set1 b k v)
/-- What is only of new blocks is Pure. -/
theorem Mod.fresh {S : Nat → Prop} {a b c : World} (h : Pure a b) (hm : Mod S b c) (hS : ∀ i, S i → a.heap.size ≤ i) : Pure a c := h.then hm (fun i hi hs => by have := hS i hs; omega)
end Go.Proofs.Ytapplindfijngaa

/- The reference of layer 9: Append of its log. Conditions: the log's rows are its own (RefRow), the entry is valid, its value is read. -/
namespace Go.Proofs.Ytapplindfijngaa
open Go.RowKit Go.Shelf
set_option maxRecDepth 100000

def refAppPost (w : World) (Q : List RQ) (x : Ent) (e : Ending) (w' : World) : Prop :=
  ∃ aL cL aG cG Q', e = .returned (.tuple #[refV aL cL aG cG Q'.length, .int .u32 Q.length, .int .i64 0]) ∧ Q'.map absQ = Q.map absQ ++ [(x, false)] ∧ RefRow w' aL cL aG cG Q' ∧ Fresh w (.slice aL Q'.length cL) ∧ Fresh w (.slice aG Q'.length cG) ∧ Pure w w'

end Go.Proofs.Ytapplindfijngaa

/- The reference's Remove of layer 9; Equal of layer 4. Condition: the log's rows are its own (RefRow); the bytes are read. -/
namespace Go.Proofs.Ytapplindfijngaa
open Go.RowKit Go.Shelf
set_option maxRecDepth 100000

abbrev zEnt : Value := .agg #[.string ⟨#[]⟩, .slice none 0 0, .int .u64 0, .int .u64 0]
def refRemMiss (w : World) (v : Value) (e : Ending) (w' : World) : Prop := e = .returned (.tuple #[v, .agg #[.string ⟨#[]⟩, .slice none 0 0, .int .u64 0, .int .u64 0], .int .i64 9]) ∧ Pure w w'

def refRemHit (w : World) (Q : List RQ) (s : Nat) (x : Ent) (v : Value) (e : Ending) (w' : World) : Prop :=
  ∃ aL cL aG cG Q', e = .returned (.tuple #[refV aL cL aG cG Q'.length, entV x v, .int .i64 0]) ∧ Q'.map absQ = (Q.map absQ).set s (x, true) ∧ RefRow w' aL cL aG cG Q' ∧ Fresh w (.slice aL Q'.length cL) ∧ Fresh w (.slice aG Q'.length cG) ∧ Pure w w'

theorem list_set_self {α : Type} {l : List α} {i : Nat} {a : α} (h : l[i]? = some a) : l.set i a = l := by
  apply List.ext_getElem?
  intro j
  rw [List.getElem?_set]
  split
  · rename_i e
    subst e
    rw [if_pos (List.getElem?_eq_some_iff.1 h).1, h]
  · rfl
theorem set_abs (Q Q' : List RQ) (s : Nat) (q : RQ) (x : Ent) (v : Value) (g : Bool) (hQ : Q'.map absQ = Q.map absQ) (hq : Q'[s]? = some q) (hx : Q[s]? = some (x, v, g)) : (Q'.set s (q.1, q.2.1, true)).map absQ = (Q.map absQ).set s (x, true) := by
  have : absQ q = (x, g) := by
    have h1 : (Q'.map absQ)[s]? = some (absQ q) := by rw [List.getElem?_map, hq]; rfl
    have h2 : (Q.map absQ)[s]? = some (x, g) := by rw [List.getElem?_map, hx]; rfl
    rw [hQ, h2] at h1
    exact (Option.some.inj h1).symm
  rw [List.map_set, hQ]
  simp only [absQ] at this ⊢
  rw [(Prod.mk.inj this).1]
end Go.Proofs.Ytapplindfijngaa

/- entrylog.Log: Remove and Set of a slot without an entry, Set of one with an entry. Conditions: the log is made, the value is read, at most 65536 bytes. -/
namespace Go.Proofs.Ytapplindfijngaa
open Go.RowKit Go.Shelf
set_option maxRecDepth 100000

set_option maxHeartbeats 400000 in
theorem Remove_miss {w : World} {D : Nat → Prop} {p : Nat} {sv : Value} {M : List (Option Ent × Value)} (h : LogRow w D p sv M) {i : Nat} (hu : i ≤ 4294967295) (hi : slotOf M i = none) :
    Calls Try.prog 35 #[.pointer (some ⟨p, 0, none⟩), .int .u32 i] w (getPost none w) := by
  have HA := Lib.hid (h.miss hu hi)
  clear h
  go_enter Try.func35, Try.ntmps35
  go_wp2_with (go_at_call 51; refine Calls.mono (HA.out _ (by (repeat' (first | (with_reducible exact Mod.refl _ _) | (with_reducible refine Mod.alloc ?_ _) | (with_reducible refine Mod.drew ?_) | (with_reducible refine Mod.drewN ?_ _) | (with_reducible refine Mod.setCell ?_ ?_ _) | (refine Mod.then ?_ (by with_reducible assumption) ?_))) <;> (all_goals (intros; first | (exfalso; assumption) | omega | (simp at *; done) | (simp at *; omega))))) ?_; rintro e w' ⟨rfl, rfl⟩)
  refine bodyPost_ret (v := .tuple #[.agg #[.string ⟨#[]⟩, .slice none 0 0, .int .u64 0, .int .u64 0], .int .i64 9]) (by simp [results, Try.results35, go_sem]) rfl ⟨rfl, ?_⟩
  (repeat' (first | (with_reducible exact Mod.refl _ _) | (with_reducible refine Mod.alloc ?_ _) | (with_reducible refine Mod.drew ?_) | (with_reducible refine Mod.drewN ?_ _) | (with_reducible refine Mod.setCell ?_ ?_ _) | (refine Mod.then ?_ (by with_reducible assumption) ?_)))
  (all_goals (intros; first | (exfalso; assumption) | omega | (simp at *; done) | (simp at *; omega)))

def setPost (w : World) (no : Int) (e : Ending) (w' : World) : Prop := e = .returned (.int .i64 no) ∧ Pure w w'
theorem Set_miss {w : World} {D : Nat → Prop} {p : Nat} {sv : Value} {M : List (Option Ent × Value)} (h : LogRow w D p sv M) {i : Nat} (hu : i ≤ 4294967295) (hi : slotOf M i = none) (v : Value) (d : Int) :
    Calls Try.prog 27 #[.pointer (some ⟨p, 0, none⟩), .int .u32 i, v, .int .u64 d] w (setPost w 9) := by
  have HA := Lib.hid (h.miss hu hi)
  clear h
  go_enter Try.func27, Try.ntmps27
  go_wp2_with (go_at_call 51; refine Calls.mono (HA.out _ (Mod.refl _ _)) ?_; rintro e w' ⟨rfl, rfl⟩)
  go_ret
  exact ⟨rfl, Mod.refl _ _⟩

def Ent.with (x : Ent) (vs : List UInt8) (d : Int) : Ent := ⟨x.key, vs, d, x.birth⟩
theorem Ent.Ok.with {x : Ent} (h : x.Ok) {vs : List UInt8} (hv : vs.length ≤ 65536) (d : Int) : (x.with vs d).Ok := ⟨h.k0, h.k1, hv, h.b0⟩
theorem live_set_some (M : List (Option Ent × Value)) (i : Nat) (e e' : Ent) (v v' : Value) (hi : M[i]? = some (some e, v)) : liveOf ((M.set i (some e', v')).map Prod.fst) = liveOf (M.map Prod.fst) := by
  induction M generalizing i with
  | nil => simp at hi
  | cons a M ih =>
    cases i with
    | zero =>
      simp at hi
      subst hi
      simp [liveOf]
    | succ i =>
      have := ih i (by simpa using hi)
      simp only [List.set_cons_succ, List.map_cons, liveOf, List.countP_cons] at this ⊢
      omega
def setHit (w : World) (D : Nat → Prop) (p i : Nat) (x : Ent) (sv : Value) (M : List (Option Ent × Value)) (e : Ending) (w' : World) : Prop :=
  e = .returned (.int .i64 0) ∧ ∃ v', LogRow w' D p sv (M.set i (some x, v')) ∧ Mod D w w'
theorem set_end {w W : World} {D : Nat → Prop} {p g c i : Nat} {x : Ent} {v v' : Value} {vs : List UInt8} {d : Int} {M : List (Option Ent × Value)}
    (HL : LogRow w D p (.slice (some ⟨g, 0, none⟩) M.length c) M) (hi : M[i]? = some (some x, v)) (HP : Pure w W) (hv : BytesAt W v' (bytesOf vs)) (hl : vs.length ≤ 65536) :
    LogRow ((W.setCell ⟨g, i * 4 + 1, none⟩ v').setCell ⟨g, i * 4 + 2, none⟩ (.int .u64 d)) D p (.slice (some ⟨g, 0, none⟩) M.length c) (M.set i (some (x.with vs d), v')) ∧ Mod D w ((W.setCell ⟨g, i * 4 + 1, none⟩ v').setCell ⟨g, i * 4 + 2, none⟩ (.int .u64 d)) := by
  have HW := HL.pure HP
  have hlt : i < M.length := (List.getElem?_eq_some_iff.1 hi).1
  have hgp := HL.np (g := g) rfl
  have hDg : D g := (HL.dd g).2 (.inr rfl)
  have hmod : Mod D W ((W.setCell ⟨g, i * 4 + 1, none⟩ v').setCell ⟨g, i * 4 + 2, none⟩ (.int .u64 d)) := (((Mod.refl D W).setCell (p := ⟨g, i * 4 + 1, none⟩) (fun _ => hDg) _).setCell (p := ⟨g, i * 4 + 2, none⟩) (fun _ => hDg) _)
  have hnb := fun k (_ : k < W.heap.size) (hk : D k) cs fz => HW.nobytes hk cs fz
  refine ⟨⟨?_, ?_, fun e u hm => ?_, HL.dd, ?_⟩, (Mod.of_pure HP).trans hmod⟩
  · rw [live_set_some M i x _ v v' hi]
    exact heap_set_other (heap_set_other HW.box hgp.symm) hgp.symm
  · have r1 := owns_setCell HW.row (i * 4 + 1) v' (by omega)
    have r2 := owns_setCell r1 (i * 4 + 2) (.int .u64 d) (by omega)
    have e : (((M.flatMap slotCells).set (i * 4 + 1) v').set (i * 4 + 2) (.int .u64 d)) = (M.set i (some (x.with vs d), v')).flatMap slotCells := by
      rw [← flat4_set M i _ (some (x.with vs d), v') hi (.string x.key) v' (.int .u64 d) (.int .u64 x.birth) rfl]
      have k0 : (M.flatMap slotCells)[i * 4]? = some (.string x.key) := by
        have := flat_get slotCells 4 slotCells_length 0 (by omega) M i
        rw [hi] at this
        simpa [slotCells] using this
      have k3 : (M.flatMap slotCells)[i * 4 + 3]? = some (.int .u64 x.birth) := by
        have := flat_get slotCells 4 slotCells_length 3 (by omega) M i
        rw [hi] at this
        simpa [slotCells] using this
      rw [list_set_self k0]
      refine (list_set_self ?_).symm
      rw [List.getElem?_set_ne (by omega), List.getElem?_set_ne (by omega)]
      exact k3
    rw [e] at r2
    rw [List.length_set]
    exact r2
  · rcases List.mem_or_eq_of_mem_set hm with h | h
    · exact bytes_frame (HW.vals e u h) hmod hnb
    · cases h
      exact bytes_frame hv hmod hnb
  · refine ⟨by have := HL.ok.len; simpa using this, fun e he => ?_⟩
    rw [List.map_set] at he
    rcases List.mem_or_eq_of_mem_set he with h | h
    · exact HL.ok.ent e h
    · cases h
      exact (HL.ok.ent x (List.mem_map.2 ⟨_, List.mem_of_getElem? hi, rfl⟩)).with hl d

set_option maxHeartbeats 800000 in
theorem Set_hit {w : World} {D : Nat → Prop} {p : Nat} {sv : Value} {M : List (Option Ent × Value)} (h : LogRow w D p sv M) {i : Nat} {x : Ent} {v : Value} (hi : M[i]? = some (some x, v)) (a : Option Addr) (n c : Nat) (vs : List UInt8) (hv : ReadAt w (.slice a n c) 1 (bytesOf vs)) (hl : vs.length ≤ 65536) (d : Int) :
    Calls Try.prog 27 #[.pointer (some ⟨p, 0, none⟩), .int .u32 i, .slice a n c, .int .u64 d] w (setHit w D p i (x.with vs d) sv M) := by
  obtain ⟨g, cg, rfl, hg, ng, hlt, hn, hc, hf⟩ := h.slot hi
  obtain ⟨c0, c1, c2, cf⟩ := h.cells
  have hok := h.ok.ent x (List.mem_map.2 ⟨_, List.mem_of_getElem? hi, rfl⟩)
  have hb : (x.birth == 0) = false := by have := hok.b0; simp; omega
  have s0 : w.cell? ⟨g, i * 4, none⟩ = _ := hc 0 _ rfl; have s1 := hc 1 _ rfl; have s2 := hc 2 _ rfl; have s3 := hc 3 _ rfl
  have hn2 : n ≤ 65536 := by have := read_length hv; rw [bytesOf_length] at this; omega
  have hn3 : (n : Int) ≤ 65536 := by omega
  obtain ⟨va, vl, vc, rfl⟩ : ∃ a n c, v = .slice a n c := by obtain ⟨va, vc, e, _⟩ := owns_form (h.vals x v (List.mem_of_getElem? hi)); exact ⟨_, _, _, e⟩
  have HL := Lib.hid h
  have HI := Lib.hid hi
  have HV := Lib.hid hv
  clear h hi hv hc
  go_enter Try.func27, Try.ntmps27
  go_wp2_with (first
    | (go_at_call 51; refine Calls.mono (at_hit p g _ cg i x.birth _ c0 c1 hlt hn s3 hb) ?_; rintro e w' ⟨rfl, rfl⟩)
    | (go_at_call 52; refine Calls.mono (bytes_Clone a n c _ _ HV.out (by omega)) ?_; rintro e w1 ⟨a1, n1, c1', rfl, hr1, hf1, hp1⟩; have t1 := hp1.cell (fun h => h) s1; have t2 := hp1.cell (fun h => h) s2; have tf : ∀ j, w1.frozen? ⟨g, j, none⟩ = false := (fun j => (World.frozen?_of_block (w := w) (a := ⟨g, j, none⟩) (hp1.block g hg (fun h => h))).trans (hf j)); have HR1 := Lib.hid hr1; have HP1 := Lib.hid hp1; clear hr1 hf1 hp1))
  go_ret
  obtain ⟨k1, k2⟩ := set_end (d := d) HL.out HI.out HP1.out (bytesAt_of HR1.out) hl
  exact ⟨rfl, _, k1, k2⟩
end Go.Proofs.Ytapplindfijngaa

/- Bytes as a string. -/
namespace Go.Proofs.Ytapplindfijngaa
open Go.RowKit
set_option maxRecDepth 100000

theorem conv_bytes {w : World} {a : Option Addr} {n c : Nat} (l : List UInt8) (h : ReadAt w (.slice a n c) 1 (bytesOf l)) :
    (convert 33 9 (.slice a n c)).run Try.prog w = .ok (.string ⟨l.toArray⟩) w := by
  obtain ⟨a', n', c', he, hl, _, h0, hc⟩ := h
  cases he
  rw [bytesOf_length, Nat.mul_one] at hl
  subst hl
  cases a with
  | none =>
    have := h0 rfl
    have hn : l = [] := List.eq_nil_of_length_eq_zero this
    subst hn
    rw [run_convert_bytes_string w _ _ _ none (List.length (α := UInt8) []) c Try.underlying33 Try.underlying5 Try.underlying9]
    rfl
  | some ad =>
    exact run_convert_bytes_back w _ _ _ ad c l Try.underlying33 Try.underlying5 Try.underlying9 (fun j hj => hc ad rfl j _ (by simp [bytesOf, hj]))

end Go.Proofs.Ytapplindfijngaa

/- The reference's Equal of layer 4, on equal entries. Condition: the bytes are read. -/
namespace Go.Proofs.Ytapplindfijngaa
open Go.RowKit
set_option maxRecDepth 100000

set_option maxHeartbeats 1000000 in
theorem ref_Equal_same {w : World} (x : Ent) (a1 a2 : Option Addr) (n1 n2 c1 c2 : Nat) (h1 : ReadAt w (.slice a1 n1 c1) 1 (bytesOf x.val)) (h2 : ReadAt w (.slice a2 n2 c2) 1 (bytesOf x.val)) :
    Calls Try.prog 12 #[.agg #[.string x.key, .slice a1 n1 c1, .int .u64 x.dl, .int .u64 x.birth], .agg #[.string x.key, .slice a2 n2 c2, .int .u64 x.dl, .int .u64 x.birth]] w fun e w' => e = .returned (.bool true) ∧ Pure w w' := by
  have hp : Pure w ((w.alloc (.cells #[.string x.key, .slice a1 n1 c1, .int .u64 x.dl, .int .u64 x.birth] 36)).alloc (.cells #[.string x.key, .slice a2 n2 c2, .int .u64 x.dl, .int .u64 x.birth] 36)) := ((Mod.refl _ w).alloc _).alloc _
  have k1 := conv_bytes x.val (h1.frame hp (fun _ _ h => h))
  have k2 := conv_bytes x.val (h2.frame hp (fun _ _ h => h))
  have HP := Lib.hid hp
  clear h1 h2 hp
  go_enter Try.func12, Try.ntmps12
  go_wp2
  go_ret
  exact ⟨rfl, HP.out⟩
end Go.Proofs.Ytapplindfijngaa

/- The reference's Remove of a slot that has an entry. Condition: the log's rows are its own (RefRow). -/
namespace Go.Proofs.Ytapplindfijngaa
open Go.RowKit Go.Shelf
set_option maxRecDepth 100000

end Go.Proofs.Ytapplindfijngaa

/- The reference's moves of layer 11: the list of new slot numbers (newX), To and From. Conditions: the row is owned, the slot numbers rise and are below the length. -/
namespace Go.Proofs.Ytapplindfijngaa
open Go.RowKit Go.Shelf
set_option maxRecDepth 100000

/-! ### plain -/
/-- The reference's list: for each old slot number the new one, or -1. -/
def newX (xs : List Nat) (n : Nat) : List Int := (List.range n).map (fun i => if i ∈ xs then (below xs i : Int) else -1)
theorem newX_length (xs : List Nat) (n : Nat) : (newX xs n).length = n := by simp [newX]
theorem newX_get {xs : List Nat} {n i : Nat} (h : i < n) : (newX xs n)[i]? = some (if i ∈ xs then (below xs i : Int) else -1) := by
  simp [newX, h]
theorem newX_gone {xs : List Nat} {k : Nat} (h : ∀ x ∈ xs, x < k) : newX xs (k + 1) = newX xs k ++ [-1] := by
  have hk : k ∉ xs := fun hm => by have := h k hm; omega
  simp [newX, List.range_succ, hk]
theorem newX_live {xs : List Nat} {k : Nat} (h : ∀ x ∈ xs, x < k) : newX (xs ++ [k]) (k + 1) = newX xs k ++ [(xs.length : Int)] := by
  unfold newX
  rw [List.range_succ, List.map_append]
  congr 1
  · refine List.map_congr_left (fun i hi => ?_)
    have hik : i < k := List.mem_range.1 hi
    have e1 : (i ∈ xs ++ [k]) ↔ i ∈ xs := by simp; omega
    have e2 : below (xs ++ [k]) i = below xs i := by
      have : ¬ k < i := by omega
      simp [below, List.countP_append, this]
    simp only [e1, e2]
  · have e2 : below (xs ++ [k]) k = xs.length := by
      unfold below
      rw [List.countP_append]
      have : List.countP (fun x => decide (x < k)) xs = xs.length := List.countP_eq_length.2 (fun x hx => by simp [h x hx])
      simp [this]
    simp [e2]
def slotsR (R : List (Ent × Bool)) : List (Option Ent) := R.map (fun p => if p.2 then none else some p.1)
theorem slotsR_length (R : List (Ent × Bool)) : (slotsR R).length = R.length := by simp [slotsR]
theorem olds_append_none (L : List (Option Ent)) : olds (L ++ [none]) = olds L := by
  simp [olds, live, liveFrom_append, liveFrom]
theorem olds_append_some (L : List (Option Ent)) (x : Ent) : olds (L ++ [some x]) = olds L ++ [L.length] := by
  simp [olds, live, liveFrom_append, liveFrom]
theorem packed_append_none (L : List (Option Ent)) : packed (L ++ [none]) = packed L := by
  simp [packed, live, liveFrom_append, liveFrom]
theorem packed_append_some (L : List (Option Ent)) (x : Ent) : packed (L ++ [some x]) = packed L ++ [some x] := by
  simp [packed, live, liveFrom_append, liveFrom]
theorem snoc_ind {α : Type} {P : List α → Prop} (h0 : P []) (h1 : ∀ l a, P l → P (l ++ [a])) (l : List α) : P l := by
  rw [← l.reverse_reverse]
  induction l.reverse with
  | nil => exact h0
  | cons a t ih => rw [List.reverse_cons]; exact h1 _ _ ih
/-- The reference's compacted log. -/
def packR (R : List (Ent × Bool)) : List (Ent × Bool) := R.filter (fun p => !p.2)
theorem packR_slots (R : List (Ent × Bool)) : slotsR (packR R) = packed (slotsR R) := by
  refine snoc_ind (P := fun R => slotsR (packR R) = packed (slotsR R)) rfl (fun R p ih => ?_) R
  · obtain ⟨x, g⟩ := p
    cases g
    · have e : slotsR (R ++ [(x, false)]) = slotsR R ++ [some x] := by simp [slotsR]
      have e2 : packR (R ++ [(x, false)]) = packR R ++ [(x, false)] := by simp [packR, List.filter_append]
      rw [e, packed_append_some, e2, ← ih]
      simp [slotsR]
    · have e : slotsR (R ++ [(x, true)]) = slotsR R ++ [none] := by simp [slotsR]
      have e2 : packR (R ++ [(x, true)]) = packR R := by simp [packR, List.filter_append]
      rw [e, packed_append_none, e2, ← ih]
theorem packR_length (R : List (Ent × Bool)) : (packR R).length = (olds (slotsR R)).length := by
  have := congrArg List.length (packR_slots R)
  rw [slotsR_length] at this
  rw [this]
  simp [packed, olds]

/-! ### To, From -/
def ints (N : List Int) : List Value := N.map (fun n : Int => (.int .i64 n : Value))
abbrev MvRow (w : World) (a : Option Addr) (c : Nat) (N : List Int) : Prop := w.ownsRow 0 3 1 (.slice a N.length c) N.length (ints N)
def MvX (w : World) (a : Option Addr) (c n : Nat) (xs : List Nat) : Prop := w.ownsRow 0 3 1 (.slice a n c) n (ints (newX xs n))
theorem MvX.pure {w w' : World} {a : Option Addr} {c n : Nat} {xs : List Nat} (h : MvX w a c n xs) (hm : Pure w w') : MvX w' a c n xs := owns_mod h hm (fun _ _ h => h)
theorem MvX.cell {w : World} {a : Option Addr} {c n : Nat} {xs : List Nat} (h : MvX w a c n xs) {o : Nat} (ho : o < n) :
    ∃ g, a = some ⟨g, 0, none⟩ ∧ g < w.heap.size ∧ w.cell? ⟨g, o, none⟩ = some (.int .i64 (if o ∈ xs then (below xs o : Int) else -1)) := by
  obtain ⟨g, _, hsv, _, hg, hc, _⟩ := owns_at h (by omega)
  cases hsv
  exact ⟨g, rfl, hg, hc o _ (by simp [ints, List.getElem?_map, newX_get ho])⟩

end Go.Proofs.Ytapplindfijngaa

/- law11.made: the log and the reference's log of n entries without those of some slots. Conditions: 0 ≤ n ≤ 100, at most 100 slots, which are read. -/
namespace Go.Proofs.Ytapplindfijngaa
open Go.RowKit Go.Shelf
set_option maxRecDepth 100000

/-! ### plain -/
def mkE (i : Nat) : Ent := ⟨⟨#[UInt8.ofNat i]⟩, [UInt8.ofNat i, 7], i, i + 1⟩
theorem mkE_ok (i : Nat) : (mkE i).Ok := ⟨by show 0 < 1; omega, by show 1 ≤ 250; omega, by show 2 ≤ 65536; omega, by show (0 : Int) < (i : Int) + 1; omega⟩
def baseR (n : Nat) : List (Ent × Bool) := (List.range n).map (fun i => (mkE i, false))
theorem baseR_succ (n : Nat) : baseR (n + 1) = baseR n ++ [(mkE n, false)] := by simp [baseR, List.range_succ]
theorem baseR_length (n : Nat) : (baseR n).length = n := by simp [baseR]
def rmR (R : List (Ent × Bool)) (s : Nat) : List (Ent × Bool) := match R[s]? with
  | some (x, false) => R.set s (x, true)
  | _ => R
theorem rmR_length (R : List (Ent × Bool)) (s : Nat) : (rmR R s).length = R.length := by
  unfold rmR; split <;> simp
def madeR (n : Nat) (gs : List Nat) : List (Ent × Bool) := gs.foldl rmR (baseR n)
theorem foldl_rmR_length (gs : List Nat) : ∀ R, (gs.foldl rmR R).length = R.length := by
  induction gs with
  | nil => intro R; rfl
  | cons g gs ih => intro R; rw [List.foldl_cons, ih, rmR_length]
theorem madeR_length (n : Nat) (gs : List Nat) : (madeR n gs).length = n := by rw [madeR, foldl_rmR_length, baseR_length]
theorem slotsR_snoc (R : List (Ent × Bool)) (x : Ent) : slotsR (R ++ [(x, false)]) = slotsR R ++ [some x] := by simp [slotsR]
theorem slotsR_set (R : List (Ent × Bool)) (s : Nat) (x : Ent) : slotsR (R.set s (x, true)) = (slotsR R).set s none := by
  unfold slotsR; rw [List.map_set]; rfl
theorem slotsR_get {R : List (Ent × Bool)} {s : Nat} {x : Ent} (h : R[s]? = some (x, false)) : (slotsR R)[s]? = some (some x) := by
  unfold slotsR; rw [List.getElem?_map, h]; rfl
theorem absQ_get {Q : List RQ} {s : Nat} {x : Ent} {g : Bool} (h : (Q.map absQ)[s]? = some (x, g)) : ∃ v, Q[s]? = some (x, v, g) := by
  rw [List.getElem?_map] at h
  cases e : Q[s]? with
  | none => rw [e] at h; cases h
  | some q =>
    rw [e] at h
    obtain ⟨y, v, g'⟩ := q
    cases h
    exact ⟨v, rfl⟩
theorem take_foldl {gs : List Nat} {j s : Nat} (h : gs[j]? = some s) (R : List (Ent × Bool)) : (gs.take (j + 1)).foldl rmR R = rmR ((gs.take j).foldl rmR R) s := by
  rw [List.take_add_one, h, List.foldl_append]; rfl

/-! ### in memory -/
/-- A slice that came in and is read, by its block and its place in it. -/
theorem ReadAt.place {w : World} {a : Option Addr} {n c : Nat} {xs : List Value} (h : ReadAt w (.slice a n c) 1 xs) (hn : 0 < n) :
    ∃ b off, a = some ⟨b, off, none⟩ ∧ b < w.heap.size ∧ ∀ j u, xs[j]? = some u → w.cell? ⟨b, off + j, none⟩ = some u := by
  obtain ⟨a', n', c', he, hl, _, h0, hc⟩ := h
  cases he
  cases a with
  | none => have := h0 rfl; omega
  | some ad =>
    obtain ⟨b, off, spot⟩ := ad
    have hx : 0 < xs.length := by omega
    have h1 := hc _ rfl 0 _ (List.getElem?_eq_getElem hx)
    have hs : spot = none := by
      cases spot with
      | none => rfl
      | some s =>
        simp only [Addr.add, World.cell?] at h1
        split at h1 <;> simp at h1
    subst hs
    refine ⟨b, off, rfl, World.block_lt_of_cell? w ⟨b, off, none⟩ (by simpa [Addr.add] using h1), fun j u hu => ?_⟩
    have := hc _ rfl j u hu
    unfold Addr.add at this
    split at this
    · rename_i hj; subst hj; exact this
    · exact this
theorem RefRow.beside {w w' : World} {S : Nat → Prop} {q : Nat} {K : List (Option Ent)} {aL : Option Addr} {cL : Nat} {aG : Option Addr} {cG : Nat} {Q : List RQ} (h : RefRow w aL cL aG cG Q) (k : LogAt w S q K) (hm : Mod S w w')
    (hA : ∀ g, (Value.slice aL Q.length cL).ownBlock = some g → ¬ S g) : RefRow w' aL cL aG cG Q :=
  ⟨owns_mod h.L hm hA, k.owns hm h.G (by decide) (by decide), fun q hq => k.owns hm (h.vals q hq) (by decide) (by decide), h.ok, h.len⟩
theorem LogAt.notin {w : World} {D : Nat → Prop} {p : Nat} {L : List (Option Ent)} (h : LogAt w D p L) {b : Nat} {cs : Array Value} {T : TypeId} {fz : Nat × Nat} (hb : w.heap[b]? = some (.cells cs T fz)) (h1 : T ≠ 92) (h2 : T ≠ 36) : ¬ D b := fun hd => by
  rcases h.types hd hb with e | e
  · exact h1 e
  · exact h2 e

theorem rmR_hit {R : List (Ent × Bool)} {s : Nat} {x : Ent} (h : R[s]? = some (x, false)) : rmR R s = R.set s (x, true) := by unfold rmR; rw [h]
theorem rmR_miss {R : List (Ent × Bool)} {s : Nat} (h : ∀ x, R[s]? ≠ some (x, false)) : rmR R s = R := by
  unfold rmR; split
  · rename_i x e; exact absurd e (h x)
  · rfl
theorem hasQ_miss {Q : List RQ} {R : List (Ent × Bool)} (hQ : Q.map absQ = R) {s : Nat} (h : ∀ x, R[s]? ≠ some (x, false)) : hasQ Q s = false := by
  unfold hasQ
  cases e : Q[s]? with
  | none => rfl
  | some q =>
    obtain ⟨x, v, g⟩ := q
    cases g
    · exact absurd (by rw [← hQ, List.getElem?_map, e]; rfl) (h x)
    · rfl
theorem slotsR_miss {R : List (Ent × Bool)} {s : Nat} (h : ∀ x, R[s]? ≠ some (x, false)) : ∀ x, (slotsR R)[s]? ≠ some (some x) := by
  intro x hx
  unfold slotsR at hx
  rw [List.getElem?_map] at hx
  cases e : R[s]? with
  | none => rw [e] at hx; cases hx
  | some q =>
    obtain ⟨y, g⟩ := q
    rw [e] at hx
    cases g
    · exact h y e
    · cases hx
end Go.Proofs.Ytapplindfijngaa

/- Append of a log and of the reference's, of any entry. Conditions: the value is read as bytes, the lengths are small. -/
namespace Go.Proofs.Ytapplindfijngaa
open Go.RowKit Go.Shelf
set_option maxRecDepth 100000

def noE (x : Ent) : Int := errOf x.key.size x.val.length x.birth
theorem noE_ok {x : Ent} (h : noE x = 0) (hb : 0 ≤ x.birth) : x.Ok := by
  unfold noE errOf keyB at h
  split at h
  · cases h
  · rename_i h1
    split at h
    · cases h
    · rename_i h2
      have h3 : 0 < x.key.size ∧ x.key.size ≤ 250 ∧ (x.birth == 0) = false := by
        simp only [Bool.or_eq_true, Bool.not_eq_true', Bool.and_eq_false_iff, decide_eq_false_iff_not, not_or] at h1
        obtain ⟨h1, h5⟩ := h1
        refine ⟨by omega, by omega, by simpa using h5⟩
      simp at h2
      have h5 := h3.2.2
      simp at h5
      exact ⟨h3.1, h3.2.1, by omega, by omega⟩
theorem ok_noE {x : Ent} (h : x.Ok) : noE x = 0 := by
  have h1 := h.k0; have h2 := h.k1; have h3 := h.v1; have h4 := h.b0
  unfold noE errOf keyB
  have e1 : (x.birth == 0) = false := by simp; omega
  have e2 : ¬ ((65536 : Int) < (x.val.length : Int)) := by omega
  simp [h1, h2, e1, e2]
theorem noE_cases (x : Ent) : noE x = 0 ∨ noE x = 2 ∨ noE x = 5 := by
  unfold noE errOf
  split
  · exact .inr (.inl rfl)
  · split
    · exact .inr (.inr rfl)
    · exact .inl rfl
set_option maxHeartbeats 400000 in
theorem Append_err {w : World} {D : Nat → Prop} {p : Nat} {L : List (Option Ent)} (h : LogAt w D p L) (k : ByteArray) (a : Option Addr) (n c : Nat) (d b : Int) (hk : k.size ≤ 140737488355328) (hn : n ≤ 140737488355328) (er : Int) (E : errOf k.size n b = er) (he0 : (er == 0) = false) :
    Calls Try.prog 25 #[logPtr p, .agg #[.string k, .slice a n c, .int .u64 d, .int .u64 b]] w fun e w' => e = .returned (.tuple #[.int .u32 0, .int .i64 er]) ∧ Pure w w' := by
  obtain ⟨sv, M, rfl, h⟩ := h
  obtain ⟨c0, c1, c2, cf⟩ := h.cells
  have hlp : p < w.heap.size := World.block_lt_of_cell? w _ c0
  clear h c1 c2 cf
  go_enter Try.func25, Try.ntmps25
  go_upto_region 4 with (first
    | (go_at_call 49; refine Calls.mono (zero_made p true _ (by simpa [go_sem, hlp] using c0)) ?_; rintro e w' ⟨rfl, rfl⟩)
    | (go_at_call 22; refine Calls.mono (entry_New_err k a n c d b _ hk hn er E he0) ?_; rintro e w1 ⟨rfl, hp⟩))
  have hp2 : Pure w (w1.alloc (.cells #[.string ⟨#[]⟩, .slice none 0 0, .int .u64 0, .int .u64 0] 36)) := (((Mod.refl _ w).alloc _).trans hp).alloc _
  generalize w1.alloc (.cells #[.string ⟨#[]⟩, .slice none 0 0, .int .u64 0, .int .u64 0] 36) = W at *
  go_wp2
  exact bodyPost_ret (v := .tuple #[.int .u32 0, .int .i64 er]) (by simp [results, Try.results25, go_sem]) rfl ⟨rfl, hp2⟩
end Go.Proofs.Ytapplindfijngaa

/- A slice of entries that came in. -/
namespace Go.Proofs.Ytapplindfijngaa
open Go.ChangeShapes Go.WideShapes Go.ChangeAt Go.RowKit Go.Deep

set_option maxRecDepth 100000
section
variable {H : Type} {enc : TypeId × Value → H} {P : Program} {w : World} {base : Nat} {spare : Nat → Bool} {held : Bool}
theorem open_rowsE {t e : TypeId} {fs : Array Field} {fuel : Nat} {cs : List Value} {x : DataW H × List MemPlace} (ht : P.underlying t = some (.slice e)) (he : P.underlying e = some (.struct fs))
    (hone : oneCellFields P fs = true) (hC : P.cellsOf e = fs.size) (h : DataW.trod enc P w base spare held fuel t cs = some x) :
    cs = [.slice none 0 0] ∨
    ∃ (a : Addr) (len cap : Nat), cs = [.slice (some a) len cap] ∧ len ≤ cap ∧ cap ≤ maxLen ∧
      ∀ i, i < len → ∀ (j : Nat) (f : Field), fs[j]? = some f → ∃ (v : Value) (y : DataW H × List MemPlace) (n : Nat), w.cell? (a.add (i * fs.size + j)) = some v ∧ DataW.trod enc P w base spare held n f.type [v] = some y := by
  rcases open_slice ht h with h0 | ⟨a, len, cap, m, n, D, Pl, hcs, hb, hl, hm, hmm, hx, hi⟩
  · exact .inl h0.1
  · refine .inr ⟨a, len, cap, hcs, hl, hm, fun i him j f hj => ?_⟩
    have him' : i < m := by rw [hmm]; split <;> omega
    obtain ⟨cs', hc, ht'⟩ := hi i him'
    rw [hC] at hc
    obtain ⟨ys, n', hn', hy, hlen, hyl, hf⟩ := DataW.trod_struct he ht'
    obtain ⟨_, hcl, hat⟩ := World.cells?_some hc
    obtain ⟨ho, hk⟩ := hone_of hone j f hj
    have hjl : j < fs.size := (Array.getElem?_eq_some_iff.1 hj).1
    have hcell := hat j hjl
    have hv : cs'[j]? = some (cs'[j]'(by omega)) := List.getElem?_eq_getElem (by omega)
    have h1 := hf j f hj
    rw [ho, hk] at h1
    have hone' : (cs'.drop j).take 1 = [cs'[j]'(by omega)] := by
      rw [List.drop_eq_getElem_cons (by omega)]
      rfl
    rw [hone'] at h1
    have hys : ys[j]? = some (ys[j]'(by omega)) := List.getElem?_eq_getElem (by omega)
    refine ⟨_, _, _, ?_, h1.trans hys⟩
    rw [← Go.Deep.add_add, hcell, hv]
end
/-- Bytes that came in. -/
theorem bytes_in {H : Type} {enc : TypeId × Value → H} {W : World} {base : Nat} {sp : Nat → Bool} {held : Bool} {fuel : Nat} {v : Value} {x : DataW H × List MemPlace} (h : DataW.trod enc Try.prog W base sp held fuel 33 [v] = some x) :
    ∃ (a : Option Addr) (n c : Nat) (bs : List UInt8), v = .slice a n c ∧ bs.length = n ∧ n ≤ 9223372036854775807 ∧ ReadAt W (.slice a n c) 1 (bytesOf bs) := by
  rcases open_ints Try.underlying33 Try.underlying5 (by kernel_rfl) h with ⟨hcs, _⟩ | ⟨a, n, c, zs, hcs, _, hl, hm, hz, _, hcell, hw⟩
  · cases hcs
    exact ⟨none, 0, 0, [], rfl, rfl, by omega, ReadAt.nil _ _⟩
  · cases hcs
    have hlz : n ≤ zs.length := by rw [hz]; split <;> omega
    have hm' : n ≤ 9223372036854775807 := by unfold maxLen at hm; omega
    have hb : ∀ z ∈ zs, 0 ≤ z ∧ z < (256 : Nat) := fun z hz => wf_u8 z (hw z hz)
    refine ⟨some a, n, c, (zs.take n).map (fun z => UInt8.ofNat z.toNat), rfl, by simp; omega, hm', ⟨some a, n, c, rfl, by simp [bytesOf]; omega, bytesOf_one _, (fun h => by cases h), ?_⟩⟩
    intro ad ha j u hu
    cases ha
    unfold bytesOf at hu
    rw [List.getElem?_map, List.getElem?_map] at hu
    cases e : (zs.take n)[j]? with
    | none => rw [e] at hu; cases hu
    | some z =>
      rw [e] at hu
      simp only [Option.map_some] at hu
      cases hu
      have hzb := hb z (List.mem_of_mem_take (List.mem_of_getElem? e))
      rw [List.getElem?_take] at e
      split at e
      · rename_i hj
        rw [hcell j (by omega)]
        have e2 : ((UInt8.ofNat z.toNat).toNat : Int) = z := by
          have : z.toNat < 256 := by omega
          simp
          omega
        rw [e2]
        simp [List.getD, e]
      · cases e
/-- An entry as it came in: what it says, and where its value is read. -/
structure EIn where
  x : Ent
  a : Option Addr
  n : Nat
  c : Nat
def eCells (y : EIn) : List Value := [.string y.x.key, .slice y.a y.n y.c, .int .u64 y.x.dl, .int .u64 y.x.birth]
structure EOk (W : World) (y : EIn) : Prop where
  rd : ReadAt W (.slice y.a y.n y.c) 1 (bytesOf y.x.val)
  len : y.x.val.length = y.n
  key : y.x.key.size ≤ 9223372036854775807
  n0 : y.n ≤ 9223372036854775807
  b0 : 0 ≤ y.x.birth
theorem EOk.pure {W W' : World} {y : EIn} (h : EOk W y) (hp : Pure W W') : EOk W' y := ⟨h.rd.frame hp (fun _ _ h => h), h.len, h.key, h.n0, h.b0⟩
theorem ents_of {H : Type} {enc : TypeId × Value → H} {W : World} {base : Nat} {sp : Nat → Bool} {held : Bool} {r : Reach} {b0 : Nat} {v : Value} {d : DataW H} {p : List MemPlace} (hv : Value.okWide Try.prog W r b0 90 v) (h : DataW.Trod enc Try.prog W base sp held 90 v d p) :
    ∃ (a : Option Addr) (c : Nat) (es : List EIn), v = .slice a es.length c ∧ es.length ≤ 9223372036854775807 ∧ ReadAt W (.slice a es.length c) 4 (es.flatMap eCells) ∧ (∀ y ∈ es, EOk W y) := by
  obtain ⟨a0, n0, c0, rfl⟩ := okWide_slice Try.underlying90 hv
  obtain ⟨fuel, hf⟩ := h
  rcases open_rowsE Try.underlying90 Try.underlying36 (by kernel_rfl) (by kernel_rfl) hf with hcs | ⟨a, n, c, hcs, hl, hm, hz⟩
  · simp [Value.cells] at hcs
    obtain ⟨rfl, rfl, rfl⟩ := hcs
    exact ⟨none, 0, [], rfl, by simp, ReadAt.nil _ _, by simp⟩
  · simp [Value.cells] at hcs
    obtain ⟨rfl, rfl, rfl⟩ := hcs
    have hmx : maxLen ≤ 9223372036854775807 := by decide
    have hone : ∀ i, i < n0 → ∃ y : EIn, EOk W y ∧ ∀ j u, (eCells y)[j]? = some u → W.cell? (a.add (i * 4 + j)) = some u := fun i hi => by
      obtain ⟨v0, y0, m0, e0, t0⟩ := hz i hi 0 _ rfl
      obtain ⟨v1, y1, m1, e1, t1⟩ := hz i hi 1 _ rfl
      obtain ⟨v2, y2, m2, e2, t2⟩ := hz i hi 2 _ rfl
      obtain ⟨v3, y3, m3, e3, t3⟩ := hz i hi 3 _ rfl
      obtain ⟨s, es, _, hs⟩ := DataW.trod_string Try.underlying9 t0
      cases es
      obtain ⟨a1, n1, c1, bs, rfl, hbl, hn1, hrd⟩ := bytes_in t1
      obtain ⟨z2, f2, _, _⟩ := DataW.trod_int Try.underlying34 t2
      obtain ⟨z3, f3, _, w3⟩ := DataW.trod_int Try.underlying22 t3
      cases f2; cases f3
      simp [Lit.wf, IntKind.min, IntKind.max, IntKind.signed, IntKind.bits] at w3
      refine ⟨⟨⟨s, bs, z2, z3⟩, a1, n1, c1⟩, ⟨hrd, hbl, Nat.le_trans hs hmx, hn1, w3.1⟩, fun j u hu => ?_⟩
      have hj : j < 4 := (List.getElem?_eq_some_iff.1 hu).1
      unfold eCells at hu
      have : j = 0 ∨ j = 1 ∨ j = 2 ∨ j = 3 := by omega
      rcases this with rfl | rfl | rfl | rfl
      · cases hu; exact e0
      · cases hu; exact e1
      · cases hu; exact e2
      · cases hu; exact e3
    obtain ⟨ac, hlen, hac⟩ : ∃ ac : List EIn, ac.length = n0 ∧ ∀ i, i < n0 → ∃ y, ac[i]? = some y ∧ EOk W y ∧ ∀ j u, (eCells y)[j]? = some u → W.cell? (a.add (i * 4 + j)) = some u := by
      classical
      refine ⟨List.ofFn (fun i : Fin n0 => Classical.choose (hone i.1 i.2)), by simp, fun i hi => ⟨Classical.choose (hone i hi), by simp [List.getElem?_ofFn, hi], Classical.choose_spec (hone i hi)⟩⟩
    clear hone hz
    have hm' : n0 ≤ 9223372036854775807 := by unfold maxLen at hm; omega
    refine ⟨some a, c0, ac, by rw [hlen], by rw [hlen]; exact hm', ⟨some a, n0, c0, by rw [hlen], ?_, ?_, (fun h => by cases h), ?_⟩, fun y hy => ?_⟩
    · rw [flat_length eCells 4 (fun _ => rfl) ac, hlen]
    · intro u hu
      obtain ⟨y, _, hy⟩ := List.mem_flatMap.1 hu
      unfold eCells at hy
      simp only [List.mem_cons, List.not_mem_nil, or_false] at hy
      rcases hy with rfl | rfl | rfl | rfl <;> rfl
    · intro ad had k u hu
      cases had
      have hk : k < n0 * 4 := by
        have := (List.getElem?_eq_some_iff.1 hu).1
        rw [flat_length eCells 4 (fun _ => rfl) ac, hlen] at this
        exact this
      have hd : k / 4 * 4 + k % 4 = k := by omega
      obtain ⟨y, hy, _, hc⟩ := hac (k / 4) (by omega)
      have h1 := flat_get eCells 4 (fun _ => rfl) (k % 4) (by omega) ac (k / 4)
      rw [hy, hd, hu] at h1
      have := hc (k % 4) u h1.symm
      rw [hd] at this
      exact this
    · obtain ⟨i, hi⟩ := List.getElem?_of_mem hy
      have hil := (List.getElem?_eq_some_iff.1 hi).1
      obtain ⟨y', hy', hok, _⟩ := hac i (by omega)
      rw [hi] at hy'
      cases hy'
      exact hok
end Go.Proofs.Ytapplindfijngaa

/- A slice of law10's acts that came in. -/
namespace Go.Proofs.Ytapplindfijngaa
open Go.ChangeShapes Go.WideShapes Go.ChangeAt Go.RowKit Go.Deep Go.Joins

set_option maxRecDepth 100000
/-- An act as it came in. -/
structure AIn where
  what : Int
  slot : Nat
  y : EIn
def aCells (t : AIn) : List Value := [.int .i64 t.what, .int .u32 t.slot, .string t.y.x.key, .slice t.y.a t.y.n t.y.c, .int .u64 t.y.x.dl, .int .u64 t.y.x.birth]
structure AOk (W : World) (t : AIn) : Prop where
  e : EOk W t.y
  s : t.slot ≤ 4294967295
theorem AOk.pure {W W' : World} {t : AIn} (h : AOk W t) (hp : Pure W W') : AOk W' t := ⟨h.e.pure hp, h.s⟩
theorem list6 {α : Type} {l : List α} (h : l.length = 6) : ∃ a b c d e f, l = [a, b, c, d, e, f] := by
  match l, h with
  | [a, b, c, d, e, f], _ => exact ⟨a, b, c, d, e, f, rfl⟩
theorem acts10_of {H : Type} {enc : TypeId × Value → H} {W : World} {base : Nat} {sp : Nat → Bool} {held : Bool} {r : Reach} {b0 : Nat} {v : Value} {d : DataW H} {p : List MemPlace} (hv : Value.okWide Try.prog W r b0 23 v) (h : DataW.Trod enc Try.prog W base sp held 23 v d p) :
    ∃ (a : Option Addr) (c : Nat) (es : List AIn), v = .slice a es.length c ∧ es.length ≤ 9223372036854775807 ∧ ReadAt W (.slice a es.length c) 6 (es.flatMap aCells) ∧ (∀ t ∈ es, AOk W t) := by
  obtain ⟨a0, n0, c0, rfl⟩ := okWide_slice Try.underlying23 hv
  obtain ⟨fuel, hf⟩ := h
  rcases open_slice Try.underlying23 hf with ⟨hcs, _⟩ | ⟨a, len, cap, m, n, D, Pl, hcs, hb, hl, hm, hmm, hx, hi⟩
  · simp [Value.cells] at hcs
    obtain ⟨rfl, rfl, rfl⟩ := hcs
    exact ⟨none, 0, [], rfl, by simp, ReadAt.nil _ _, by simp⟩
  · simp [Value.cells] at hcs
    obtain ⟨rfl, rfl, rfl⟩ := hcs
    have hmx : maxLen ≤ 9223372036854775807 := by decide
    have e6 : (Try.prog).cellsOf 38 = 6 := by kernel_rfl
    have e4 : (Try.prog).cellsOf 36 = 4 := by kernel_rfl
    have k0 : (Try.prog).cellsOf 9 = 1 := by kernel_rfl
    have k1 : (Try.prog).cellsOf 33 = 1 := by kernel_rfl
    have k2 : (Try.prog).cellsOf 34 = 1 := by kernel_rfl
    have k3 : (Try.prog).cellsOf 22 = 1 := by kernel_rfl
    have k4 : (Try.prog).cellsOf 3 = 1 := by kernel_rfl
    have k5 : (Try.prog).cellsOf 32 = 1 := by kernel_rfl
    have hone : ∀ i, i < n0 → ∃ t : AIn, AOk W t ∧ ∀ j u, (aCells t)[j]? = some u → W.cell? (a.add (i * 6 + j)) = some u := fun i hin => by
      have him : i < m := by rw [hmm]; split <;> omega
      obtain ⟨cs', hc, ht'⟩ := hi i him
      rw [e6] at hc
      obtain ⟨_, hcl, hat⟩ := World.cells?_some hc
      obtain ⟨y0, y1, y2, n', _, hlen, t0, t1, t2⟩ := trod_struct3 Try.underlying38 ht'
      rw [e6] at hlen
      obtain ⟨v0, v1, v2, v3, v4, v5, rfl⟩ := list6 hlen
      simp only [k4, k5, e4, List.drop, List.take] at t0 t1 t2
      obtain ⟨z0, f0, _, _⟩ := DataW.trod_int Try.underlying3 t0
      obtain ⟨z1, f1, _, w1⟩ := DataW.trod_int Try.underlying32 t1
      obtain ⟨q0, q1, q2, q3, n2, _, _, s0, s1, s2, s3⟩ := trod_struct4 Try.underlying36 t2
      simp only [k0, k1, k2, k3, List.drop, List.take] at s0 s1 s2 s3
      obtain ⟨s, es, _, hs⟩ := DataW.trod_string Try.underlying9 s0
      obtain ⟨a1, n1, c1, bs, rfl, hbl, hn1, hrd⟩ := bytes_in s1
      obtain ⟨z2, f2, _, _⟩ := DataW.trod_int Try.underlying34 s2
      obtain ⟨z3, f3, _, w3⟩ := DataW.trod_int Try.underlying22 s3
      cases f0; cases f1; cases f2; cases f3; cases es
      simp [Lit.wf, IntKind.min, IntKind.max, IntKind.signed, IntKind.bits] at w1 w3
      have sz : ((z1.toNat : Nat) : Int) = z1 := Int.toNat_of_nonneg w1.1
      refine ⟨⟨z0, z1.toNat, ⟨⟨s, bs, z2, z3⟩, a1, n1, c1⟩⟩, ⟨⟨hrd, hbl, Nat.le_trans hs hmx, hn1, w3.1⟩, by show z1.toNat ≤ _; omega⟩, fun j u hu => ?_⟩
      have hj : j < 6 := (List.getElem?_eq_some_iff.1 hu).1
      have h1 := hat j hj
      rw [Go.Deep.add_add] at h1
      rw [h1]
      unfold aCells at hu
      simp only [sz] at hu
      have : j = 0 ∨ j = 1 ∨ j = 2 ∨ j = 3 ∨ j = 4 ∨ j = 5 := by omega
      rcases this with rfl | rfl | rfl | rfl | rfl | rfl <;> exact hu
    obtain ⟨ac, hlen, hac⟩ : ∃ ac : List AIn, ac.length = n0 ∧ ∀ i, i < n0 → ∃ t, ac[i]? = some t ∧ AOk W t ∧ ∀ j u, (aCells t)[j]? = some u → W.cell? (a.add (i * 6 + j)) = some u := by
      classical
      refine ⟨List.ofFn (fun i : Fin n0 => Classical.choose (hone i.1 i.2)), by simp, fun i hi => ⟨Classical.choose (hone i hi), by simp [List.getElem?_ofFn, hi], Classical.choose_spec (hone i hi)⟩⟩
    have hm' : n0 ≤ 9223372036854775807 := by unfold maxLen at hm; omega
    refine ⟨some a, c0, ac, by rw [hlen], by rw [hlen]; exact hm', ⟨some a, n0, c0, by rw [hlen], ?_, ?_, (fun h => by cases h), ?_⟩, fun y hy => ?_⟩
    · rw [flat_length aCells 6 (fun _ => rfl) ac, hlen]
    · intro u hu
      obtain ⟨y, _, hy⟩ := List.mem_flatMap.1 hu
      unfold aCells at hy
      simp only [List.mem_cons, List.not_mem_nil, or_false] at hy
      rcases hy with rfl | rfl | rfl | rfl | rfl | rfl <;> rfl
    · intro ad had k u hu
      cases had
      have hk : k < n0 * 6 := by
        have := (List.getElem?_eq_some_iff.1 hu).1
        rw [flat_length aCells 6 (fun _ => rfl) ac, hlen] at this
        exact this
      have hd : k / 6 * 6 + k % 6 = k := by omega
      obtain ⟨y, hy, _, hc⟩ := hac (k / 6) (by omega)
      have h1 := flat_get aCells 6 (fun _ => rfl) (k % 6) (by omega) ac (k / 6)
      rw [hy, hd, hu] at h1
      have := hc (k % 6) u h1.symm
      rw [hd] at this
      exact this
    · obtain ⟨i, hi⟩ := List.getElem?_of_mem hy
      have hil := (List.getElem?_eq_some_iff.1 hi).1
      obtain ⟨y', hy', hok, _⟩ := hac i (by omega)
      rw [hi] at hy'
      cases hy'
      exact hok
end Go.Proofs.Ytapplindfijngaa

/- Words of eight lanes, lane by lane, in plain numbers. No program. -/
namespace Go.Proofs.Ytapplindfijngaa
open Go.RowKit
set_option maxRecDepth 100000

/-- The word with these lanes, the lowest first. -/
def word8 : List Nat → Nat
  | [] => 0
  | b :: l => 256 * word8 l + b
/-- The set of the lanes for which the list says true. -/
def mask : List Bool → Nat
  | [] => 0
  | b :: l => 2 * mask l + b.toNat

def Bytes8 (l : List Nat) : Prop := l.length = 8 ∧ ∀ c ∈ l, c < 256

theorem op_split (f : Nat → Nat → Nat) (g : Bool → Bool → Bool) (hf : ∀ a b i, (f a b).testBit i = g (a.testBit i) (b.testBit i)) (hlt : ∀ a b, a < 2 ^ 8 → b < 2 ^ 8 → f a b < 2 ^ 8) (a b x y : Nat) (ha : a < 256) (hb : b < 256) :
    f (256 * x + a) (256 * y + b) = 256 * f x y + f a b := by
  apply Nat.eq_of_testBit_eq
  intro i
  have e : (256 : Nat) = 2 ^ 8 := rfl
  rw [hf, e, Nat.testBit_two_pow_mul_add x ha i, Nat.testBit_two_pow_mul_add y hb i, Nat.testBit_two_pow_mul_add (f x y) (hlt a b ha hb) i]
  split <;> rw [hf]
theorem word8_op (f : Nat → Nat → Nat) (g : Bool → Bool → Bool) (h00 : f 0 0 = 0) (hf : ∀ a b i, (f a b).testBit i = g (a.testBit i) (b.testBit i)) (hlt : ∀ a b, a < 2 ^ 8 → b < 2 ^ 8 → f a b < 2 ^ 8) (s t : Nat → Nat) :
    ∀ l : List Nat, (∀ c ∈ l, s c < 256) → (∀ c ∈ l, t c < 256) → f (word8 (l.map s)) (word8 (l.map t)) = word8 (l.map (fun c => f (s c) (t c)))
  | [], _, _ => h00
  | c :: l, hs, ht => by
    simp only [List.map_cons, word8]
    rw [op_split f g hf hlt _ _ _ _ (hs c (by simp)) (ht c (by simp)), word8_op f g h00 hf hlt s t l (fun c h => hs c (by simp [h])) (fun c h => ht c (by simp [h]))]
theorem word8_xor (s t : Nat → Nat) (l : List Nat) (hs : ∀ c ∈ l, s c < 256) (ht : ∀ c ∈ l, t c < 256) : word8 (l.map s) ^^^ word8 (l.map t) = word8 (l.map (fun c => s c ^^^ t c)) :=
  word8_op (· ^^^ ·) Bool.xor rfl Nat.testBit_xor (fun _ _ => Nat.xor_lt_two_pow) s t l hs ht
theorem word8_and (s t : Nat → Nat) (l : List Nat) (hs : ∀ c ∈ l, s c < 256) (ht : ∀ c ∈ l, t c < 256) : word8 (l.map s) &&& word8 (l.map t) = word8 (l.map (fun c => s c &&& t c)) :=
  word8_op (· &&& ·) and rfl Nat.testBit_and (fun a b ha _ => Nat.lt_of_le_of_lt Nat.and_le_left ha) s t l hs ht
theorem word8_or (s t : Nat → Nat) (l : List Nat) (hs : ∀ c ∈ l, s c < 256) (ht : ∀ c ∈ l, t c < 256) : word8 (l.map s) ||| word8 (l.map t) = word8 (l.map (fun c => s c ||| t c)) :=
  word8_op (· ||| ·) or rfl Nat.testBit_or (fun _ _ => Nat.or_lt_two_pow) s t l hs ht
theorem word8_add (s t : Nat → Nat) : ∀ l : List Nat, word8 (l.map s) + word8 (l.map t) = word8 (l.map (fun c => s c + t c))
  | [] => rfl
  | c :: l => by simp only [List.map_cons, word8]; rw [← word8_add s t l]; omega
theorem word8_lt : ∀ l : List Nat, (∀ c ∈ l, c < 256) → word8 l < 256 ^ l.length
  | [], _ => by simp [word8]
  | c :: l, h => by
    have h1 := word8_lt l (fun c hc => h c (by simp [hc]))
    have h2 := h c (by simp)
    simp only [word8, List.length_cons, Nat.pow_succ]
    omega
theorem Bytes8.lt {l : List Nat} (h : Bytes8 l) : word8 l < 18446744073709551616 := by have := word8_lt l h.2; rw [h.1] at this; simpa using this
theorem Bytes8.map {l : List Nat} (h : Bytes8 l) {s : Nat → Nat} (hs : ∀ c, c < 256 → s c < 256) : Bytes8 (l.map s) := ⟨by simp [h.1], fun c hc => by obtain ⟨a, ha, rfl⟩ := List.mem_map.1 hc; exact hs a (h.2 a ha)⟩
theorem word8_const (k : Nat) {l : List Nat} (h : l.length = 8) : word8 (l.map (fun _ => k)) = 72340172838076673 * k := by
  have : l.map (fun _ => k) = [k, k, k, k, k, k, k, k] := by
    rw [show (fun _ : Nat => k) = Function.const Nat k from rfl, List.map_const, h]; rfl
  rw [this]; simp only [word8]; omega
theorem Bytes8.eight {l : List Nat} (h : Bytes8 l) : ∃ a b c d e f g i, l = [a, b, c, d, e, f, g, i] := by
  obtain ⟨hl, _⟩ := h
  match l, hl with
  | [a, b, c, d, e, f, g, i], _ => exact ⟨a, b, c, d, e, f, g, i, rfl⟩
theorem eight_of {α : Type} {l : List α} (hl : l.length = 8) : ∃ a b c d e f g i, l = [a, b, c, d, e, f, g, i] := by
  match l, hl with
  | [a, b, c, d, e, f, g, i], _ => exact ⟨a, b, c, d, e, f, g, i, rfl⟩

/-! ### the two bit tricks -/
theorem trick_zero : ∀ x < 256, 255 ^^^ ((((x &&& 127) + 127) ||| x) ||| 127) = if x = 0 then 128 else 0 := by decide +kernel
theorem xor_zero {a b : Nat} (h : a ^^^ b = 0) : a = b := by
  apply Nat.eq_of_testBit_eq
  intro i
  have : (a ^^^ b).testBit i = false := by rw [h]; simp
  rw [Nat.testBit_xor] at this
  cases ha : a.testBit i <;> cases hb : b.testBit i <;> simp [ha, hb] at this <;> rfl
/-- What Match hands to gather. -/
theorem match_word {l : List Nat} (h : Bytes8 l) (b : Nat) (hb : b < 256) :
    18446744073709551615 ^^^ (((((word8 l ^^^ (72340172838076673 * b)) &&& 9187201950435737471) + 9187201950435737471) ||| (word8 l ^^^ (72340172838076673 * b))) ||| 9187201950435737471) =
      word8 (l.map (fun c => if c = b then 128 else 0)) := by
  have hx : ∀ c ∈ l, c ^^^ b < 256 := fun c hc => Nat.xor_lt_two_pow (n := 8) (h.2 c hc) hb
  have ha : ∀ c ∈ l, (c ^^^ b) &&& 127 < 128 := fun c hc => by have : (c ^^^ b) &&& 127 ≤ 127 := Nat.and_le_right; omega
  have h1 : word8 l ^^^ (72340172838076673 * b) = word8 (l.map (fun c => c ^^^ b)) := by
    have := word8_xor id (fun _ => b) l (by simpa using h.2) (fun _ _ => hb)
    rwa [word8_const b h.1, List.map_id] at this
  have k127 : (9187201950435737471 : Nat) = word8 (l.map (fun _ => 127)) := by rw [word8_const 127 h.1]
  have k255 : (18446744073709551615 : Nat) = word8 (l.map (fun _ => 255)) := by rw [word8_const 255 h.1]
  rw [h1, k127, k255, word8_and _ _ _ hx (fun _ _ => by omega), word8_add, word8_or _ _ _ (fun c hc => by have := ha c hc; omega) hx,
    word8_or _ _ _ (fun c hc => Nat.or_lt_two_pow (n := 8) (by have := ha c hc; omega) (hx c hc)) (fun _ _ => by omega),
    word8_xor _ _ _ (fun _ _ => by omega) (fun c hc => Nat.or_lt_two_pow (n := 8) (Nat.or_lt_two_pow (n := 8) (by have := ha c hc; omega) (hx c hc)) (by omega))]
  congr 1
  apply List.map_congr_left
  intro c hc
  rw [trick_zero _ (hx c hc)]
  by_cases e : c = b
  · subst e; simp
  · rw [if_neg e, if_neg (fun h => e (xor_zero h))]
theorem match_small {l : List Nat} (h : Bytes8 l) (b : Nat) (hb : b < 256) :
    (((word8 l ^^^ (72340172838076673 * b)) &&& 9187201950435737471) + 9187201950435737471) < 18446744073709551616 := by
  have : (word8 l ^^^ (72340172838076673 * b)) &&& 9187201950435737471 ≤ 9187201950435737471 := Nat.and_le_right
  omega
theorem word8_map_bool {l : List Nat} (p : Nat → Bool) : l.map (fun c => if p c then 128 else 0) = (l.map p).map (fun b => if b then 128 else 0) := by
  rw [List.map_map]; rfl
theorem gather_all : ∀ a b c d e f g i : Bool, (word8 ([a, b, c, d, e, f, g, i].map (fun b => if b then 128 else 0)) / 128 * 72624976668147840 % 18446744073709551616) / 72057594037927936 % 256 = mask [a, b, c, d, e, f, g, i] := by decide +kernel
theorem gather_mask {p : List Bool} (h : p.length = 8) : (word8 (p.map (fun b => if b then 128 else 0)) / 128 * 72624976668147840 % 18446744073709551616) / 72057594037927936 % 256 = mask p := by
  obtain ⟨a, b, c, d, e, f, g, i, rfl⟩ := eight_of h
  exact gather_all a b c d e f g i
theorem high_word {l : List Nat} (h : Bytes8 l) : word8 l &&& 9259542123273814144 = word8 (l.map (fun c => if decide (128 ≤ c) then 128 else 0)) := by
  have k : (9259542123273814144 : Nat) = word8 (l.map (fun _ => 128)) := by rw [word8_const 128 h.1]
  have := word8_and id (fun _ => 128) l (by simpa using h.2) (fun _ _ => by omega)
  rw [List.map_id] at this
  rw [k, this]
  congr 1
  apply List.map_congr_left
  intro c hc
  have : ∀ c < 256, c &&& 128 = if decide (128 ≤ c) then 128 else 0 := by decide +kernel
  exact this c (h.2 c hc)
end Go.Proofs.Ytapplindfijngaa

/- The model's bit operations on plain numbers; sets of lanes. -/
namespace Go.Proofs.Ytapplindfijngaa
open Go.RowKit
set_option maxRecDepth 100000

theorem u64_wrap (n : Nat) (h : n < 18446744073709551616) : IntKind.u64.wrap (n : Int) = n := by
  simp [IntKind.wrap, IntKind.signed, IntKind.bits]; omega
theorem u8_wrap (n : Nat) (h : n < 256) : IntKind.u8.wrap (n : Int) = n := by
  simp [IntKind.wrap, IntKind.signed, IntKind.bits]; omega
theorem ofInt_nat (k : Nat) (n : Nat) : BitVec.ofInt k (n : Int) = BitVec.ofNat k n := by
  apply BitVec.eq_of_toNat_eq
  simp [BitVec.toNat_ofInt]
theorem bits_xor64 (a b : Nat) (ha : a < 18446744073709551616) (hb : b < 18446744073709551616) : bits .xor .u64 (a : Int) (b : Int) = ((a ^^^ b : Nat) : Int) := by
  have h : a ^^^ b < 2 ^ 64 := Nat.xor_lt_two_pow ha hb
  show IntKind.u64.wrap (((BitVec.ofInt 64 (a : Int) ^^^ BitVec.ofInt 64 (b : Int)).toNat : Nat) : Int) = _
  rw [ofInt_nat, ofInt_nat]
  rw [BitVec.toNat_xor, BitVec.toNat_ofNat, BitVec.toNat_ofNat, Nat.mod_eq_of_lt (by omega), Nat.mod_eq_of_lt (by omega)]
  exact u64_wrap _ (by omega)
theorem bits_and64 (a b : Nat) (ha : a < 18446744073709551616) (hb : b < 18446744073709551616) : bits .and .u64 (a : Int) (b : Int) = ((a &&& b : Nat) : Int) := by
  have h : a &&& b < 2 ^ 64 := Nat.and_lt_two_pow _ hb
  show IntKind.u64.wrap (((BitVec.ofInt 64 (a : Int) &&& BitVec.ofInt 64 (b : Int)).toNat : Nat) : Int) = _
  rw [ofInt_nat, ofInt_nat]
  rw [BitVec.toNat_and, BitVec.toNat_ofNat, BitVec.toNat_ofNat, Nat.mod_eq_of_lt (by omega), Nat.mod_eq_of_lt (by omega)]
  exact u64_wrap _ (by omega)
theorem bits_or64 (a b : Nat) (ha : a < 18446744073709551616) (hb : b < 18446744073709551616) : bits .or .u64 (a : Int) (b : Int) = ((a ||| b : Nat) : Int) := by
  have h : a ||| b < 2 ^ 64 := Nat.or_lt_two_pow ha hb
  show IntKind.u64.wrap (((BitVec.ofInt 64 (a : Int) ||| BitVec.ofInt 64 (b : Int)).toNat : Nat) : Int) = _
  rw [ofInt_nat, ofInt_nat]
  rw [BitVec.toNat_or, BitVec.toNat_ofNat, BitVec.toNat_ofNat, Nat.mod_eq_of_lt (by omega), Nat.mod_eq_of_lt (by omega)]
  exact u64_wrap _ (by omega)
theorem bits_or8 (a b : Nat) (ha : a < 256) (hb : b < 256) : bits .or .u8 (a : Int) (b : Int) = ((a ||| b : Nat) : Int) := by
  have h : a ||| b < 2 ^ 8 := Nat.or_lt_two_pow ha hb
  show IntKind.u8.wrap (((BitVec.ofInt 8 (a : Int) ||| BitVec.ofInt 8 (b : Int)).toNat : Nat) : Int) = _
  rw [ofInt_nat, ofInt_nat]
  rw [BitVec.toNat_or, BitVec.toNat_ofNat, BitVec.toNat_ofNat, Nat.mod_eq_of_lt (by omega), Nat.mod_eq_of_lt (by omega)]
  exact u8_wrap _ (by omega)
theorem bits_and8 (a b : Nat) (ha : a < 256) (hb : b < 256) : bits .and .u8 (a : Int) (b : Int) = ((a &&& b : Nat) : Int) := by
  have h : a &&& b < 2 ^ 8 := Nat.and_lt_two_pow _ hb
  show IntKind.u8.wrap (((BitVec.ofInt 8 (a : Int) &&& BitVec.ofInt 8 (b : Int)).toNat : Nat) : Int) = _
  rw [ofInt_nat, ofInt_nat]
  rw [BitVec.toNat_and, BitVec.toNat_ofNat, BitVec.toNat_ofNat, Nat.mod_eq_of_lt (by omega), Nat.mod_eq_of_lt (by omega)]
  exact u8_wrap _ (by omega)
theorem bits_xor8 (a b : Nat) (ha : a < 256) (hb : b < 256) : bits .xor .u8 (a : Int) (b : Int) = ((a ^^^ b : Nat) : Int) := by
  have h : a ^^^ b < 2 ^ 8 := Nat.xor_lt_two_pow ha hb
  show IntKind.u8.wrap (((BitVec.ofInt 8 (a : Int) ^^^ BitVec.ofInt 8 (b : Int)).toNat : Nat) : Int) = _
  rw [ofInt_nat, ofInt_nat]
  rw [BitVec.toNat_xor, BitVec.toNat_ofNat, BitVec.toNat_ofNat, Nat.mod_eq_of_lt (by omega), Nat.mod_eq_of_lt (by omega)]
  exact u8_wrap _ (by omega)
theorem bits_andNot64 (a b c : Nat) (ha : a < 18446744073709551616) (hb : b < 18446744073709551616) (hc : c = 18446744073709551615 - b) : bits .andNot .u64 (a : Int) (b : Int) = ((a &&& c : Nat) : Int) := by
  subst hc
  have h : a &&& (18446744073709551615 - b) < 2 ^ 64 := Nat.lt_of_le_of_lt Nat.and_le_left ha
  show IntKind.u64.wrap (((BitVec.ofInt 64 (a : Int) &&& ~~~ BitVec.ofInt 64 (b : Int)).toNat : Nat) : Int) = _
  rw [ofInt_nat, ofInt_nat]
  rw [BitVec.toNat_and, BitVec.toNat_not, BitVec.toNat_ofNat, BitVec.toNat_ofNat, Nat.mod_eq_of_lt (a := a) (by omega), Nat.mod_eq_of_lt (a := b) (by omega)]
  exact u64_wrap _ (by simpa using h)
theorem not_u64 : (if IntKind.u64.signed = true then (-1 : Int) else IntKind.u64.max) = ((18446744073709551615 : Nat) : Int) := by decide
theorem not_u8 : (if IntKind.u8.signed = true then (-1 : Int) else IntKind.u8.max) = ((255 : Nat) : Int) := by decide

/-! ### sets of lanes -/
theorem mask_lt {p : List Bool} (h : p.length = 8) : mask p < 256 := by
  obtain ⟨a, b, c, d, e, f, g, i, rfl⟩ := eight_of h
  have : ∀ a b c d e f g i : Bool, mask [a, b, c, d, e, f, g, i] < 256 := by decide +kernel
  exact this ..
theorem mask_not {p : List Bool} (h : p.length = 8) : 255 ^^^ mask p = mask (p.map not) := by
  obtain ⟨a, b, c, d, e, f, g, i, rfl⟩ := eight_of h
  have : ∀ a b c d e f g i : Bool, 255 ^^^ mask [a, b, c, d, e, f, g, i] = mask ([a, b, c, d, e, f, g, i].map not) := by decide +kernel
  exact this ..
theorem mask_zero {p : List Bool} (h : p.length = 8) : decide (mask p = 0) = !p.any id := by
  obtain ⟨a, b, c, d, e, f, g, i, rfl⟩ := eight_of h
  have : ∀ a b c d e f g i : Bool, decide (mask [a, b, c, d, e, f, g, i] = 0) = !([a, b, c, d, e, f, g, i].any id) := by decide +kernel
  exact this ..
theorem mask_full {p : List Bool} (h : p.length = 8) : decide (mask p = 255) = p.all id := by
  obtain ⟨a, b, c, d, e, f, g, i, rfl⟩ := eight_of h
  have : ∀ a b c d e f g i : Bool, decide (mask [a, b, c, d, e, f, g, i] = 255) = ([a, b, c, d, e, f, g, i].all id) := by decide +kernel
  exact this ..
theorem mask_bit {p : List Bool} (h : p.length = 8) (j : Nat) (hj : j < 8) : mask p / 2 ^ j &&& 1 = (p.getD j false).toNat := by
  obtain ⟨a, b, c, d, e, f, g, i, rfl⟩ := eight_of h
  have : ∀ a b c d e f g i : Bool, ∀ j < 8, mask [a, b, c, d, e, f, g, i] / 2 ^ j &&& 1 = ([a, b, c, d, e, f, g, i].getD j false).toNat := by decide +kernel
  exact this _ _ _ _ _ _ _ _ j hj
theorem mask_or : ∀ (l : List Nat) (s t : Nat → Bool), mask (l.map s) ||| mask (l.map t) = mask (l.map (fun c => s c || t c))
  | [], _, _ => by simp [mask]
  | c :: l, s, t => by
    simp only [List.map_cons, mask]
    rw [← mask_or l s t]
    apply Nat.eq_of_testBit_eq
    intro i
    have hb : ∀ b : Bool, b.toNat < 2 ^ 1 := fun b => by cases b <;> decide
    have e : ∀ (x : Nat) (b : Bool), 2 * x + b.toNat = 2 ^ 1 * x + b.toNat := fun _ _ => rfl
    rw [Nat.testBit_or, e, e, e, Nat.testBit_two_pow_mul_add _ (hb _), Nat.testBit_two_pow_mul_add _ (hb _), Nat.testBit_two_pow_mul_add _ (hb _)]
    split
    · have : i = 0 := by omega
      subst this
      cases s c <;> cases t c <;> rfl
    · rw [Nat.testBit_or]

/-- The lanes of a set, in order. -/
def lanesOf (m : Nat) : List Nat := (List.range 8).filter m.testBit
/-- The first lane of a set, or 8. -/
def lane1 (m : Nat) : Nat := (lanesOf m).headD 8
theorem lanes_mask {p : List Bool} (h : p.length = 8) : lanesOf (mask p) = (List.range 8).filter (fun i => p.getD i false) := by
  obtain ⟨a, b, c, d, e, f, g, i, rfl⟩ := eight_of h
  have : ∀ a b c d e f g i : Bool, lanesOf (mask [a, b, c, d, e, f, g, i]) = (List.range 8).filter (fun j => [a, b, c, d, e, f, g, i].getD j false) := by decide +kernel
  exact this ..
theorem lanes_step : ∀ m < 256, m ≠ 0 → lanesOf m = lane1 m :: lanesOf (m &&& (m - 1)) ∧ lane1 m < 8 ∧ m &&& (m - 1) < m := by decide +kernel
theorem first_le : ∀ m < 256, lane1 m ≤ 8 := by decide +kernel
theorem lanes_zero : lanesOf 0 = [] := by decide
theorem first_mask {p : List Bool} (h : p.length = 8) : lane1 (mask p) = p.findIdx id := by
  obtain ⟨a, b, c, d, e, f, g, i, rfl⟩ := eight_of h
  have : ∀ a b c d e f g i : Bool, lane1 (mask [a, b, c, d, e, f, g, i]) = [a, b, c, d, e, f, g, i].findIdx id := by decide +kernel
  exact this ..

/-! ### one lane -/
theorem word8_range {l : List Nat} (h : l.length = 8) : word8 l = word8 ((List.range 8).map (fun i => l.getD i 0)) := by
  obtain ⟨a, b, c, d, e, f, g, i, rfl⟩ := eight_of h
  rfl
theorem keep_word : ∀ j < 8, 18446744073709551615 - 255 * 2 ^ (8 * j) = word8 ((List.range 8).map (fun i => if i = j then 0 else 255)) := by decide +kernel
theorem put_word (b : Nat) : ∀ j < 8, b * 2 ^ (8 * j) = word8 ((List.range 8).map (fun i => if i = j then b else 0)) := by
  intro j hj
  have : j = 0 ∨ j = 1 ∨ j = 2 ∨ j = 3 ∨ j = 4 ∨ j = 5 ∨ j = 6 ∨ j = 7 := by omega
  rcases this with rfl | rfl | rfl | rfl | rfl | rfl | rfl | rfl <;> simp [List.range_succ, word8] <;> omega
theorem with_word {l : List Nat} (h : Bytes8 l) (j b : Nat) (hj : j < 8) (hb : b < 256) : (word8 l &&& (18446744073709551615 - 255 * 2 ^ (8 * j))) ||| b * 2 ^ (8 * j) = word8 (l.set j b) := by
  have hg : ∀ i, l.getD i 0 < 256 := fun i => by
    rw [List.getD_eq_getElem?_getD]
    cases hi : l[i]? with
    | none => simp
    | some c => exact h.2 c (List.mem_of_getElem? hi)
  rw [keep_word j hj, put_word b j hj, word8_range h.1, word8_and _ _ _ (fun i _ => hg i) (fun i _ => by split <;> omega),
    word8_or _ _ _ (fun i _ => Nat.lt_of_le_of_lt Nat.and_le_left (hg i)) (fun i _ => by split <;> omega), word8_range (l := l.set j b) (by simp [h.1])]
  congr 1
  apply List.map_congr_left
  intro i hi
  have hi : i < 8 := by simpa using hi
  have h255 : ∀ c < 256, c &&& 255 = c := by decide +kernel
  simp only [List.getD_eq_getElem?_getD, List.getElem?_set]
  by_cases e : i = j
  · subst e; simp [h.1, hj]
  · rw [if_neg e, if_neg e, if_neg (fun x => e x.symm), Nat.or_zero, h255 _ (by have := hg i; rwa [List.getD_eq_getElem?_getD] at this)]
theorem word8_lane : ∀ (l : List Nat) (_ : ∀ c ∈ l, c < 256) (j : Nat), word8 l / 2 ^ (8 * j) % 256 = l.getD j 0
  | [], _, j => by simp [word8]
  | c :: l, h, 0 => by have := h c (by simp); simp [word8]; omega
  | c :: l, h, j + 1 => by
    have := h c (by simp)
    have e : 2 ^ (8 * (j + 1)) = 256 * 2 ^ (8 * j) := by rw [Nat.mul_add, Nat.pow_add]; omega
    rw [e, ← Nat.div_div_eq_div_mul]
    have e2 : word8 (c :: l) / 256 = word8 l := by simp only [word8]; omega
    rw [e2, word8_lane l (fun c hc => h c (by simp [hc])) j]
    rfl
end Go.Proofs.Ytapplindfijngaa
