/- Lemmas and contracts of functions, strung together out of 8 texts. No condition. -/
import Derived.Test.YtapplindfijngaaJPfDictHolds1
import Derived.RangeFuncNested
import Derived.RangeFuncBound
import Derived.RangeFuncCalls
import Derived.RangeFuncLeaves
import Derived.Shelf.Abstract
import Derived.Shelf.RegionOpen
import Derived.OwnWalkIn
import Derived.TacticsInMore
import Derived.LoopNIn
import Derived.LoopIn
/- Log.New, Append, Get, Len, Live, Copy. Condition: the log is made (LogRow), and the bounds that each theorem names. -/
namespace Go.Proofs.Ytapplindfijngaa
open Go.RowKit
set_option maxRecDepth 100000

theorem info_Entry : (Try.prog.info? 36).map (fun i => (i.zero, i.size, i.bytes)) = some (some (.agg #[.string ⟨#[]⟩, .slice none 0 0, .int .u64 0, .int .u64 0]), 4, 56) := by kernel_rfl

/-! ### entrylog: what a log is in memory -/
/-- The cells of a slot (none: a tombstone), its value being the slice v. -/
def slotCells : Option Ent × Value → List Value
  | (some e, v) => [.string e.key, v, .int .u64 e.dl, .int .u64 e.birth]
  | (none, _) => [.string ⟨#[]⟩, .slice none 0 0, .int .u64 0, .int .u64 0]
def liveOf (L : List (Option Ent)) : Nat := L.countP Option.isSome
/-- A valid entry. -/
structure Ent.Ok (e : Ent) : Prop where
  k0 : 0 < e.key.size
  k1 : e.key.size ≤ 250
  v1 : e.val.length ≤ 65536
  b0 : 0 < e.birth
structure LogOk (L : List (Option Ent)) : Prop where
  len : L.length ≤ 4194304
  ent : ∀ e, some e ∈ L → e.Ok

/-- Block p is a log whose slots are M (each with its value's slice); D are the blocks that it writes. -/
structure LogRow (w : World) (D : Nat → Prop) (p : Nat) (sv : Value) (M : List (Option Ent × Value)) : Prop where
  box : w.heap[p]? = some (.cells #[.bool true, sv, .int .i64 (liveOf (M.map Prod.fst))] 92 (0, 0))
  row : w.ownsRow 0 36 4 sv M.length (M.flatMap slotCells)
  vals : ∀ e v, (some e, v) ∈ M → BytesAt w v (bytesOf e.val)
  dd : ∀ k, D k ↔ (k = p ∨ sv.ownBlock = some k)
  ok : LogOk (M.map Prod.fst)
def LogAt (w : World) (D : Nat → Prop) (p : Nat) (L : List (Option Ent)) : Prop := ∃ sv M, M.map Prod.fst = L ∧ LogRow w D p sv M

section
variable {w w' : World} {D S : Nat → Prop} {p : Nat} {sv : Value} {M : List (Option Ent × Value)}
theorem LogRow.np (h : LogRow w D p sv M) {g : Nat} (hg : sv.ownBlock = some g) : g ≠ p := by
  rintro rfl
  obtain ⟨c, e⟩ := owns_type h.row hg
  rw [h.box] at e
  cases e
theorem LogRow.lt (h : LogRow w D p sv M) {k : Nat} (hk : D k) : k < w.heap.size := by
  rcases (h.dd k).1 hk with rfl | e
  · exact lt_of_block h.box
  · exact owns_lt h.row e
/-- The blocks that a log writes are no bytes. -/
theorem LogRow.nobytes (h : LogRow w D p sv M) {k : Nat} (hk : D k) (cs : Array Value) (fz : Nat × Nat) : w.heap[k]? ≠ some (.cells cs 5 fz) := by
  intro e
  rcases (h.dd k).1 hk with rfl | e'
  · rw [h.box] at e; cases e
  · obtain ⟨c, e2⟩ := owns_type h.row e'
    rw [e2] at e; cases e
theorem bytes_frame {v : Value} {xs : List Value} (h : BytesAt w v xs) (hm : Mod S w w') (hS : ∀ k, k < w.heap.size → S k → ∀ cs fz, w.heap[k]? ≠ some (.cells cs 5 fz)) : BytesAt w' v xs :=
  owns_mod h hm (fun g hg hs => by obtain ⟨c, e⟩ := owns_type h hg; exact hS g (lt_of_block e) hs _ _ e)
theorem LogRow.frame (h : LogRow w D p sv M) (hm : Mod S w w') (hD : ∀ k, D k → ¬ S k) (hS : ∀ k, k < w.heap.size → S k → ∀ cs fz, w.heap[k]? ≠ some (.cells cs 5 fz)) : LogRow w' D p sv M :=
  ⟨hm.heap (hD p ((h.dd p).2 (.inl rfl))) h.box, owns_mod h.row hm (fun g hg => hD g ((h.dd g).2 (.inr hg))), fun e v hv => bytes_frame (h.vals e v hv) hm hS, h.dd, h.ok⟩
theorem LogRow.pure (h : LogRow w D p sv M) (hm : Pure w w') : LogRow w' D p sv M := h.frame hm (fun _ _ h => h) (fun _ _ h => h.elim)
end

theorem entrylog_New (w : World) : Calls Try.prog 20 #[] w fun e w' => e = .returned (.pointer (some ⟨w.heap.size, 0, none⟩)) ∧ w.alloc (.cells #[.bool true, .slice none 0 0, .int .i64 0] 92) = w' := by
  go_enter Try.func20, Try.ntmps20
  go_wp2
  go_ret
  exact ⟨rfl, rfl⟩

theorem zero_nil (w : World) : Calls Try.prog 49 #[.pointer none] w fun e w' => e = .returned (.bool true) ∧ w = w' := by
  go_enter Try.func49, Try.ntmps49
  go_wp2
  go_ret
  exact ⟨rfl, rfl⟩
theorem zero_made (p : Nat) (b : Bool) (w : World) (h : w.cell? ⟨p, 0, none⟩ = some (.bool b)) : Calls Try.prog 49 #[.pointer (some ⟨p, 0, none⟩)] w fun e w' => e = .returned (.bool (!b)) ∧ w = w' := by
  go_enter Try.func49, Try.ntmps49
  go_wp2
  go_ret
  exact ⟨rfl, rfl⟩

/-! ### at -/
theorem at_hit (p g n c i : Nat) (b : Int) (w : World) (h0 : w.cell? ⟨p, 0, none⟩ = some (.bool true)) (h1 : w.cell? ⟨p, 1, none⟩ = some (.slice (some ⟨g, 0, none⟩) n c)) (hi : i < n) (hn : n ≤ 4194304)
    (h3 : w.cell? ⟨g, i * 4 + 3, none⟩ = some (.int .u64 b)) (hb : (b == 0) = false) :
    Calls Try.prog 51 #[.pointer (some ⟨p, 0, none⟩), .int .u32 i] w fun e w' => e = .returned (.tuple #[.pointer (some ⟨g, i * 4, none⟩), .int .i64 0]) ∧ w = w' := by
  have hi0 : (0 : Int) ≤ i := by omega
  have hi1 : (i : Int) < n := by omega
  go_enter Try.func51, Try.ntmps51
  go_wp2_with (go_at_call 49; refine Calls.mono (zero_made p true _ h0) ?_; rintro e w' ⟨rfl, rfl⟩)
  go_ret2
  exact ⟨rfl, rfl⟩

theorem at_tomb (p g n c i : Nat) (w : World) (h0 : w.cell? ⟨p, 0, none⟩ = some (.bool true)) (h1 : w.cell? ⟨p, 1, none⟩ = some (.slice (some ⟨g, 0, none⟩) n c)) (hi : i < n) (hn : n ≤ 4194304)
    (h3 : w.cell? ⟨g, i * 4 + 3, none⟩ = some (.int .u64 0)) :
    Calls Try.prog 51 #[.pointer (some ⟨p, 0, none⟩), .int .u32 i] w fun e w' => e = .returned (.tuple #[.pointer none, .int .i64 9]) ∧ w = w' := by
  have hi0 : (0 : Int) ≤ i := by omega
  have hi1 : (i : Int) < n := by omega
  go_enter Try.func51, Try.ntmps51
  go_wp2_with (go_at_call 49; refine Calls.mono (zero_made p true _ h0) ?_; rintro e w' ⟨rfl, rfl⟩)
  go_ret2
  exact ⟨rfl, rfl⟩

theorem at_out (p n c i : Nat) (a : Option Addr) (w : World) (h0 : w.cell? ⟨p, 0, none⟩ = some (.bool true)) (h1 : w.cell? ⟨p, 1, none⟩ = some (.slice a n c)) (hi : n ≤ i) (hu : i ≤ 4294967295) :
    Calls Try.prog 51 #[.pointer (some ⟨p, 0, none⟩), .int .u32 i] w fun e w' => e = .returned (.tuple #[.pointer none, .int .i64 9]) ∧ w = w' := by
  have hi1 : (n : Int) ≤ i := by omega
  go_enter Try.func51, Try.ntmps51
  go_wp2_with (go_at_call 49; refine Calls.mono (zero_made p true _ h0) ?_; rintro e w' ⟨rfl, rfl⟩)
  go_ret2
  exact ⟨rfl, rfl⟩

/-! ### what is known of a log's cells -/
theorem slotCells_length (m : Option Ent × Value) : (slotCells m).length = 4 := by
  obtain ⟨o, v⟩ := m
  cases o <;> rfl

theorem LogRow.cells {w : World} {D : Nat → Prop} {p : Nat} {sv : Value} {M : List (Option Ent × Value)} (h : LogRow w D p sv M) :
    w.cell? ⟨p, 0, none⟩ = some (.bool true) ∧ w.cell? ⟨p, 1, none⟩ = some sv ∧ w.cell? ⟨p, 2, none⟩ = some (.int .i64 (liveOf (M.map Prod.fst))) ∧ (∀ j, w.frozen? ⟨p, j, none⟩ = false) := by
  have := h.box
  exact ⟨by simp [cell_of_row w p _ _ _ _ this], by simp [cell_of_row w p _ _ _ _ this], by simp [cell_of_row w p _ _ _ _ this], fun j => frozen_of_row w p j _ _ this⟩

theorem LogRow.slot {w : World} {D : Nat → Prop} {p : Nat} {sv : Value} {M : List (Option Ent × Value)} (h : LogRow w D p sv M) {i : Nat} {m : Option Ent × Value} (hi : M[i]? = some m) :
    ∃ g c, sv = .slice (some ⟨g, 0, none⟩) M.length c ∧ g < w.heap.size ∧ g ≠ p ∧ i < M.length ∧ M.length ≤ 4194304 ∧ (∀ j u, (slotCells m)[j]? = some u → w.cell? ⟨g, i * 4 + j, none⟩ = some u) ∧ ∀ j, w.frozen? ⟨g, j, none⟩ = false := by
  have hlt : i < M.length := (List.getElem?_eq_some_iff.1 hi).1
  obtain ⟨g, c, rfl, _, hg, hc, hf, _⟩ := owns_at h.row (by omega)
  have ng := h.np (g := g) rfl
  have hlen := h.ok.len
  rw [List.length_map] at hlen
  refine ⟨g, c, rfl, hg, ng, hlt, hlen, fun j u hu => hc _ _ ?_, hf⟩
  have hj : j < 4 := by rw [← slotCells_length m]; exact (List.getElem?_eq_some_iff.1 hu).1
  rw [flat_get slotCells 4 slotCells_length j hj, hi]
  exact hu

/-! ### Get -/
def getPost (o : Option Ent) (w : World) (e : Ending) (w' : World) : Prop :=
  match o with
  | some x => ∃ a n c, e = .returned (.tuple #[.agg #[.string x.key, .slice a n c, .int .u64 x.dl, .int .u64 x.birth], .int .i64 0]) ∧ BytesAt w' (.slice a n c) (bytesOf x.val) ∧ Fresh w (.slice a n c) ∧ Pure w w'
  | none => e = .returned (.tuple #[.agg #[.string ⟨#[]⟩, .slice none 0 0, .int .u64 0, .int .u64 0], .int .i64 9]) ∧ Pure w w'

/-- What slot i holds. -/
def slotOf (M : List (Option Ent × Value)) (i : Nat) : Option Ent := (M[i]?).bind Prod.fst

/-! ### Append -/
def Grew (D D' : Nat → Prop) (w : World) : Prop := ∀ k, D' k → D k ∨ w.heap.size ≤ k
def appendPost (w : World) (D : Nat → Prop) (p : Nat) (M : List (Option Ent × Value)) (x : Ent) (e : Ending) (w' : World) : Prop :=
  e = .returned (.tuple #[.int .u32 M.length, .int .i64 0]) ∧ ∃ D' sv' v', LogRow w' D' p sv' (M ++ [(some x, v')]) ∧ Mod D w w' ∧ Grew D D' w

theorem liveOf_le (L : List (Option Ent)) : liveOf L ≤ L.length := List.countP_le_length

theorem append_end {w W Wg w2 : World} {D : Nat → Prop} {p : Nat} {sv sv2 v : Value} {M : List (Option Ent × Value)} {x : Ent} (HL : LogRow w D p sv M) (hL : M.length < 4194304) (HO : x.Ok) (HP : Pure w W) (HG : Pure W Wg)
    (hgrow : Wg.grownBy w2 sv.ownBlock) (hown : w2.ownsRow 0 36 4 sv2 (M.length + 1) (M.flatMap slotCells ++ [.string x.key, v, .int .u64 x.dl, .int .u64 x.birth]))
    (hat : sv2.ownBlock = sv.ownBlock ∨ sv2.ownBlock = some Wg.heap.size) (hrd : BytesAt W v (bytesOf x.val)) :
    ∃ D' sv' v', LogRow ((w2.setCell ⟨p, 1, none⟩ sv2).setCell ⟨p, 2, none⟩ (.int .i64 ((liveOf (M.map Prod.fst) : Int) + 1))) D' p sv' (M ++ [(some x, v')]) ∧
      Mod D w ((w2.setCell ⟨p, 1, none⟩ sv2).setCell ⟨p, 2, none⟩ (.int .i64 ((liveOf (M.map Prod.fst) : Int) + 1))) ∧ Grew D D' w := by
  have hlp : p < w.heap.size := lt_of_block HL.box
  have hWp := HP.then HG (fun _ _ h => h)
  have sz1 := hWp.size
  have HLg := HL.pure hWp
  have hb2 : w2.heap[p]? = some (.cells #[.bool true, sv, .int .i64 (liveOf (M.map Prod.fst))] 92 (0, 0)) := by
    rw [hgrow.block p (by omega) (fun e => HL.np e.symm rfl)]
    exact HLg.box
  have hbox : ((w2.setCell ⟨p, 1, none⟩ sv2).setCell ⟨p, 2, none⟩ (.int .i64 ((liveOf (M.map Prod.fst) : Int) + 1))).heap[p]? = some (.cells #[.bool true, sv2, .int .i64 ((liveOf (M.map Prod.fst) : Int) + 1)] 92 (0, 0)) := by
    have h1 := heap_setCell_same w2 p 1 _ _ sv2 hb2
    exact heap_setCell_same _ p 2 _ _ (.int .i64 ((liveOf (M.map Prod.fst) : Int) + 1)) h1
  have hset : Mod (fun k => k = p) w2 ((w2.setCell ⟨p, 1, none⟩ sv2).setCell ⟨p, 2, none⟩ (.int .i64 ((liveOf (M.map Prod.fst) : Int) + 1))) :=
    ((Mod.refl (fun k => k = p) w2).setCell (p := ⟨p, 1, none⟩) (fun _ => rfl) _).setCell (p := ⟨p, 2, none⟩) (fun _ => rfl) _
  have hall : Mod D Wg ((w2.setCell ⟨p, 1, none⟩ sv2).setCell ⟨p, 2, none⟩ (.int .i64 ((liveOf (M.map Prod.fst) : Int) + 1))) :=
    (Mod.of_grown hgrow (S := D) (fun k e _ => (HL.dd k).2 (.inr e))).trans' hset (fun _ _ h => h) (fun i _ h => (HL.dd i).2 (.inl h))
  have hnb := fun k (_ : k < Wg.heap.size) (hk : D k) cs fz => HLg.nobytes hk cs fz
  have hnp2 : ∀ g, sv2.ownBlock = some g → g ≠ p := fun g e => by
    rcases hat with h | h
    · exact HL.np (h ▸ e)
    · rw [h] at e; cases e; omega
  refine ⟨fun k => k = p ∨ sv2.ownBlock = some k, sv2, v, ⟨?_, ?_, ?_, fun _ => Iff.rfl, ?_⟩, ?_, ?_⟩
  · rw [hbox]
    simp [liveOf]
  · have := owns_mod hown hset (fun g e h => hnp2 g e h)
    simpa [slotCells] using this
  · intro e u hm
    rw [List.mem_append] at hm
    rcases hm with hm | hm
    · exact bytes_frame (HLg.vals e u hm) hall hnb
    · simp at hm
      obtain ⟨rfl, rfl⟩ := hm
      exact bytes_frame (owns_mod hrd HG (fun _ _ h => h)) hall hnb
  · refine ⟨by simp; omega, fun e he => ?_⟩
    simp at he
    rcases he with he | he
    · exact HL.ok.ent e (by simpa using he)
    · subst he; exact HO
  · exact hWp.trans' hall (fun _ _ h => h.elim) (fun _ _ h => h)
  · rintro k (h | h)
    · exact .inl ((HL.dd k).2 (.inl h))
    · rcases hat with h' | h'
      · exact .inl ((HL.dd k).2 (.inr (h' ▸ h)))
      · rw [h'] at h; cases h; exact .inr sz1

set_option maxHeartbeats 800000 in
theorem Append_ok {w : World} {D : Nat → Prop} {p : Nat} {sv : Value} {M : List (Option Ent × Value)} (h : LogRow w D p sv M) (hL : M.length < 4194304) (x : Ent) (hok : x.Ok) (a : Option Addr) (n c : Nat)
    (hx : ReadAt w (.slice a n c) 1 (bytesOf x.val)) :
    Calls Try.prog 25 #[.pointer (some ⟨p, 0, none⟩), .agg #[.string x.key, .slice a n c, .int .u64 x.dl, .int .u64 x.birth]] w (appendPost w D p M x) := by
  obtain ⟨sa, sc, rfl, _⟩ := owns_form h.row
  obtain ⟨c0, c1, c2, cf⟩ := h.cells
  have hlp : p < w.heap.size := World.block_lt_of_cell? w _ c0
  have hb : (x.birth == 0) = false := by have := hok.b0; simp; omega
  have hn : n ≤ 65536 := by have := read_length hx; rw [bytesOf_length] at this; have := hok.v1; omega
  obtain ⟨i0, hi, iz0, iz1, iz2⟩ := info_parts info_Entry
  have ng : ∀ g, (Value.slice sa M.length sc).ownBlock = some g → g ≠ p ∧ g < w.heap.size := fun g e => ⟨h.np e, owns_lt h.row e⟩
  have NG := Lib.hid ng
  clear ng
  have H := Lib.hid hx
  have HL := Lib.hid h
  have HO := Lib.hid hok
  have hd : decide ((4194304 : Int) ≤ (M.length : Int)) = false := by simp; omega
  have HLL := Lib.hid hL
  clear h hx hok hL
  have hlp1 : p < w.heap.size + 1 := by omega
  go_enter Try.func25, Try.ntmps25
  go_upto_region 8 with (first
    | (go_at_call 49; refine Calls.mono (zero_made p true _ (by simpa [go_sem, hlp] using c0)) ?_; rintro e w' ⟨rfl, rfl⟩)
    | (go_at_call 22; go_must (refine Calls.mono (entry_New_ok x.key a n c _ _ (bytesOf x.val) _ (H.out.frame (S := fun _ => False) (by (repeat' (first | (with_reducible exact Mod.refl _ _) | (with_reducible refine Mod.alloc ?_ _) | (with_reducible refine Mod.drew ?_) | (with_reducible refine Mod.drewN ?_ _) | (with_reducible refine Mod.setCell ?_ ?_ _) | (refine Mod.then ?_ (by with_reducible assumption) ?_))) <;> (all_goals (intros; first | (exfalso; assumption) | omega | (simp at *; done) | (simp at *; omega)))) (fun _ _ h => h)) hn HO.out.k0 HO.out.k1 hb) ?_); rintro e w1 ⟨a', n', c', rfl, hr, hf, hp⟩; obtain ⟨hpc, hpf⟩ := hp.cells; have hz : w.heap.size < w1.heap.size := (by have := hp.size; simp at this; omega); have hz2 : p < w1.heap.size := (by omega)))
  have HP : Pure w (w1.alloc (.cells #[.string x.key, .slice a' n' c', .int .u64 x.dl, .int .u64 x.birth] 36)) := by
    (repeat' (first | (with_reducible exact Mod.refl _ _) | (with_reducible refine Mod.alloc ?_ _) | (with_reducible refine Mod.drew ?_) | (with_reducible refine Mod.drewN ?_ _) | (with_reducible refine Mod.setCell ?_ ?_ _) | (refine Mod.then ?_ (by with_reducible assumption) ?_)))
    (all_goals (intros; first | (exfalso; assumption) | omega | (simp at *; done) | (simp at *; omega)))
  have hB : w.heap.size ≤ w1.heap.size ∧ (w1.alloc (.cells #[.string x.key, .slice a' n' c', .int .u64 x.dl, .int .u64 x.birth] 36)).heap[w1.heap.size]? = some (.cells #[.string x.key, .slice a' n' c', .int .u64 x.dl, .int .u64 x.birth] 36 (0, 0)) := ⟨by omega, heap_new rfl⟩
  have HRD : BytesAt (w1.alloc (.cells #[.string x.key, .slice a' n' c', .int .u64 x.dl, .int .u64 x.birth] 36)) (.slice a' n' c') (bytesOf x.val) := owns_mod (bytesAt_of hr) ((Mod.refl (fun _ => False) w1).alloc _) (fun _ _ h => h)
  have hfr : ∀ g, (Value.slice a' n' c').ownBlock = some g → w.heap.size < g := fun g e => by have := hf g e; simp at this; omega
  generalize hW : w1.alloc (.cells #[.string x.key, .slice a' n' c', .int .u64 x.dl, .int .u64 x.birth] 36) = W at HP hB HRD ⊢
  generalize w1.heap.size = B at hB ⊢
  clear hW hpc hpf hz hz2 hp hr hf hlp1
  have HROW := Lib.hid (owns_mod HL.out.row HP (fun _ _ h => h))
  have e1 := HP.cell (fun h => h) c1
  have e2 := HP.cell (fun h => h) c2
  have ef : ∀ j, W.frozen? ⟨p, j, none⟩ = false := fun j => (World.frozen?_of_block (w := w) (a := ⟨p, j, none⟩) (HP.block p hlp (fun h => h))).trans (cf j)
  have lp : p < W.heap.size := HP.lt hlp
  have b0 := cell_of_row W B 0 _ _ _ hB.2
  have b1 := cell_of_row W B 1 _ _ _ hB.2
  have b2 := cell_of_row W B 2 _ _ _ hB.2
  have b3 := cell_of_row W B 3 _ _ _ hB.2
  simp at b0 b1 b2 b3
  have lB : B < W.heap.size := lt_of_block hB.2
  have np : Hid (some p ≠ (Value.slice sa M.length sc).ownBlock) := fun e => (NG.out p e.symm).1 rfl
  have nb : Hid (some B ≠ (Value.slice sa M.length sc).ownBlock) := fun e => by have := (NG.out _ e.symm).2; omega
  have HHB := Lib.hid hB
  have HHP := Lib.hid HP
  have HH1 := Lib.hid HRD
  have HH2 := Lib.hid hfr
  clear hB HP HRD hfr
  generalize hlv : (liveOf (M.map Prod.fst)) = lv at e2 ⊢
  have hlv2 : lv ≤ 4194304 := by have := liveOf_le (M.map Prod.fst); rw [List.length_map] at this; have := HLL.out; omega
  have HLV := Lib.hid hlv
  clear hlv c0 c1 c2 cf
  go_region_law ((refine step_append_read _ (by rfl) _ _ 90 (by rfl) 36 i0 _ 4 56 Try.underlying90 hi iz0 iz1 iz2 rfl (by decide) (.slice sa M.length sc) M.length _ (by rfl) ((HROW.out.alloc _).drew) _ [.string x.key, .slice a' n' c', .int .u64 x.dl, .int .u64 x.birth] 1 (by rfl) (ReadAt.of_block 1 1 4 (heap_new (by simp)) (by rfl) (by simp [Value.oneCell'])) (by rfl) (by unfold maxLen; have := HLL.out; omega) (by have := HLL.out; omega) ?_; intro a2 cc2 w2 hown2 hgrow2 hat2; have f2 : ∀ j, w2.frozen? ⟨p, j, none⟩ = false := (fun j => (hgrow2.frozen_far ⟨p, j, none⟩ (by simp; omega) np.out).trans ((World.frozen?_alloc_past _ _ _ lp).trans (ef j))); have f3 := (hgrow2.cell (a := ⟨p, 1, none⟩) (v := .slice sa M.length sc) (by simp [*, World.cell?_alloc_some, World.cell?_setCell_far, go_sem]) np.out); have f4 := (hgrow2.cell (a := ⟨p, 2, none⟩) (v := .int .i64 lv) (by simp [*, World.cell?_alloc_some, World.cell?_setCell_far, go_sem]) np.out)))
  all_goals
    go_wp2
    go_ret2
    refine ⟨by simp; exact u32_nat _ (by have := HLL.out; omega), ?_⟩
    rw [← HLV.out]
    exact append_end HL.out HLL.out HO.out HHP.out (by (repeat' (first | (with_reducible exact Mod.refl _ _) | (with_reducible refine Mod.alloc ?_ _) | (with_reducible refine Mod.drew ?_) | (with_reducible refine Mod.drewN ?_ _) | (with_reducible refine Mod.setCell ?_ ?_ _) | (refine Mod.then ?_ (by with_reducible assumption) ?_))) <;> (all_goals (intros; first | (exfalso; assumption) | omega | (simp at *; done) | (simp at *; omega)))) hgrow2 hown2 (by simpa using hat2) HH1.out

/-! ### Get of a slot that has no entry; Len, Live -/
/-- The slot has no entry, in the walk's words. -/
theorem LogRow.miss {w : World} {D : Nat → Prop} {p : Nat} {sv : Value} {M : List (Option Ent × Value)} (h : LogRow w D p sv M) {i : Nat} (hu : i ≤ 4294967295) (hi : slotOf M i = none) :
    ∀ W, Pure w W → Calls Try.prog 51 #[.pointer (some ⟨p, 0, none⟩), .int .u32 i] W fun e w' => e = .returned (.tuple #[.pointer none, .int .i64 9]) ∧ W = w' := by
  intro W hW
  have h := h.pure hW
  obtain ⟨c0, c1, c2, cf⟩ := h.cells
  by_cases hlt : i < M.length
  · have he := List.getElem?_eq_getElem hlt
    generalize M[i] = m at he
    obtain ⟨o, v⟩ := m
    have ho : o = none := by simpa [slotOf, he] using hi
    subst ho
    obtain ⟨g, c, rfl, hg, ng, _, hn, hc, hf⟩ := h.slot he
    exact at_tomb p g _ c i W c0 c1 hlt hn (hc 3 _ rfl)
  · obtain ⟨a, c, rfl, _⟩ := owns_form h.row
    exact at_out p _ c i a W c0 c1 (by omega) hu

theorem Len_any {w : World} {D : Nat → Prop} {p : Nat} {sv : Value} {M : List (Option Ent × Value)} (h : LogRow w D p sv M) :
    Calls Try.prog 41 #[.pointer (some ⟨p, 0, none⟩)] w fun e w' => e = .returned (.int .i64 M.length) ∧ w = w' := by
  obtain ⟨c0, c1, c2, cf⟩ := h.cells
  obtain ⟨a, c, rfl, _⟩ := owns_form h.row
  clear h
  go_enter Try.func41, Try.ntmps41
  go_wp2_with (go_at_call 49; refine Calls.mono (zero_made p true _ c0) ?_; rintro e w' ⟨rfl, rfl⟩)
  go_ret
  exact ⟨rfl, rfl⟩
theorem Live_any {w : World} {D : Nat → Prop} {p : Nat} {sv : Value} {M : List (Option Ent × Value)} (h : LogRow w D p sv M) :
    Calls Try.prog 42 #[.pointer (some ⟨p, 0, none⟩)] w fun e w' => e = .returned (.int .i64 (liveOf (M.map Prod.fst))) ∧ w = w' := by
  obtain ⟨c0, c1, c2, cf⟩ := h.cells
  clear h
  go_enter Try.func42, Try.ntmps42
  go_wp2_with (go_at_call 49; refine Calls.mono (zero_made p true _ c0) ?_; rintro e w' ⟨rfl, rfl⟩)
  go_ret
  exact ⟨rfl, rfl⟩

/-! ### slices.Clone, Copy -/
@[go_sem] theorem eql_nil_entries (w : World) (a : Option Addr) (n c : Nat) : (binOp .eql 90 (.slice a n c) (.slice none 0 0)).run Try.prog w = .ok (.bool a.isNone) w :=
  Lib.run_eql_slice_nil w _ _ a n c 0 0 Try.underlying90
set_option maxHeartbeats 400000 in
theorem clone_entries (a : Option Addr) (n c : Nat) (xs : List Value) (w : World) (hx : ReadAt w (.slice a n c) 4 xs) (hn : n ≤ 4294967295) :
    Calls Try.prog 63 #[.slice a n c] w (clonePost 36 4 xs w) := by
  obtain ⟨i0, hi, hz0, hz1, hz2⟩ := info_parts info_Entry
  have hlen : xs.length = n * 4 := read_length hx
  cases a with
  | none =>
    have h0 := clone_none _ _ _ _ _ hx
    have H := Lib.hid hx; clear hx
    go_enter Try.func63, Try.ntmps63
    go_wp2
    go_ret
    exact ⟨none, 0, 0, rfl, by rw [h0]; exact World.ownsRow_nil _ _ _ _, (fun g e => by cases e), Mod.refl _ _⟩
  | some ad =>
    have H := Lib.hid (hx.frame ((Mod.refl (fun _ => False) w).alloc (.cells #[] 36)) (fun _ _ h => h)); clear hx
    have HO := Lib.hid (owns_empty w 36 4)
    go_enter Try.func63, Try.ntmps63
    go_wp2_with (at_builtin; refine wpList_append_read _ rfl _ _ 90 rfl 36 i0 _ 4 56 Try.underlying90 hi hz0 hz1 hz2 rfl (by decide) _ 0 [] rfl HO.out _ xs n rfl H.out hlen (by unfold maxLen; omega) (by omega) ?_; intro a' c' w1 ho hg hb)
    go_ret
    simp only [List.nil_append, Nat.zero_add, World.size_alloc] at ho hb
    exact clone_end _ _ _ _ _ _ _ _ ho hg hb

theorem slotCells_one {M : List (Option Ent × Value)} {w : World} (h : ∀ e v, (some e, v) ∈ M → BytesAt w v (bytesOf e.val)) : ∀ u ∈ M.flatMap slotCells, u.oneCell' = true := by
  intro u hu
  obtain ⟨⟨o, v⟩, hm, hu⟩ := List.mem_flatMap.1 hu
  cases o with
  | none => simp [slotCells] at hu; rcases hu with rfl | rfl | rfl <;> rfl
  | some e =>
    obtain ⟨a, c, hv, _⟩ := owns_form (h e v hm)
    simp [slotCells, hv] at hu
    rcases hu with rfl | rfl | rfl | rfl <;> rfl
theorem LogRow.read {w : World} {D : Nat → Prop} {p : Nat} {sv : Value} {M : List (Option Ent × Value)} (h : LogRow w D p sv M) : ReadAt w sv 4 (M.flatMap slotCells) :=
  ReadAt.of_owns h.row (slotCells_one h.vals)

def copyLog (w : World) (M : List (Option Ent × Value)) (e : Ending) (w' : World) : Prop :=
  ∃ q sv' D', e = .returned (.pointer (some ⟨q, 0, none⟩)) ∧ LogRow w' D' q sv' M ∧ Pure w w' ∧ ∀ k, D' k → w.heap.size ≤ k
theorem logNew_row {w : World} {q : Nat} (h : w.heap[q]? = some (.cells #[.bool true, .slice none 0 0, .int .i64 0] 92 (0, 0))) : LogRow w (fun k => k = q) q (.slice none 0 0) [] :=
  ⟨h, World.ownsRow_nil _ _ _ _, (fun _ _ h => by cases h), fun k => ⟨.inl, fun h => by rcases h with h | h; exact h; cases h⟩, ⟨by simp, fun _ h => by simp at h⟩⟩

end Go.Proofs.Ytapplindfijngaa

/- Log.Remove of a slot that has an entry. Condition: the log is made. -/
namespace Go.Proofs.Ytapplindfijngaa
open Go.RowKit
set_option maxRecDepth 100000

/-! ### Remove -/
theorem flat4_set (M : List (Option Ent × Value)) (i : Nat) (m m' : Option Ent × Value) (hi : M[i]? = some m) (a b c d : Value) (hm : slotCells m' = [a, b, c, d]) :
    ((((M.flatMap slotCells).set (i * 4) a).set (i * 4 + 1) b).set (i * 4 + 2) c).set (i * 4 + 3) d = (M.set i m').flatMap slotCells := by
  have h0 : ∀ r ∈ M.map slotCells, r.length = 4 := by
    intro r hr
    obtain ⟨x, _, rfl⟩ := List.mem_map.1 hr
    exact slotCells_length x
  have e := flatten_set 4 0 (by decide) a _ h0 i
  rw [Nat.add_zero] at e
  simp only [List.flatMap_def]
  rw [e, flatten_set 4 1 (by decide) b _ (modify_length h0 i 0 a) i, flatten_set 4 2 (by decide) c _ (modify_length (modify_length h0 i 0 a) i 1 b) i,
    flatten_set 4 3 (by decide) d _ (modify_length (modify_length (modify_length h0 i 0 a) i 1 b) i 2 c) i]
  congr 1
  have e2 : ∀ (f g : List Value → List Value) (R : List (List Value)), (R.modify i f).modify i g = R.modify i (g ∘ f) := fun f g R => List.modify_modify_eq f g i R
  rw [e2, e2, e2]
  refine modify_map_set slotCells _ m' M i m hi ?_
  rw [hm]
  have := slotCells_length m
  match h : slotCells m, this with
  | [_, _, _, _], _ => rfl

theorem live_set_none (M : List (Option Ent × Value)) (i : Nat) (e : Ent) (v v' : Value) (hi : M[i]? = some (some e, v)) : (liveOf ((M.set i (none, v')).map Prod.fst) : Int) = (liveOf (M.map Prod.fst) : Int) - 1 ∧ 1 ≤ liveOf (M.map Prod.fst) := by
  induction M generalizing i with
  | nil => simp at hi
  | cons a M ih =>
    cases i with
    | zero =>
      simp at hi
      subst hi
      simp [liveOf]
    | succ i =>
      have := ih i (by simpa using hi)
      simp only [List.set_cons_succ, List.map_cons, liveOf, List.countP_cons] at this ⊢
      omega

def removePost (w : World) (D : Nat → Prop) (p i : Nat) (x : Ent) (sv : Value) (M : List (Option Ent × Value)) (e : Ending) (w' : World) : Prop :=
  ∃ a n c, e = .returned (.tuple #[.agg #[.string x.key, .slice a n c, .int .u64 x.dl, .int .u64 x.birth], .int .i64 0]) ∧ BytesAt w' (.slice a n c) (bytesOf x.val) ∧ Fresh w (.slice a n c) ∧
    LogRow w' D p sv (M.set i (none, .slice none 0 0)) ∧ Mod D w w'

theorem remove_end {w W w' : World} {D : Nat → Prop} {p g c i lv : Nat} {x : Ent} {v : Value} {M : List (Option Ent × Value)}
    (HL : LogRow w D p (.slice (some ⟨g, 0, none⟩) M.length c) M) (hi : M[i]? = some (some x, v)) (HP : Pure w W)
    (hlv : liveOf (M.map Prod.fst) = lv)
    (hw' : (((((W.setCell ⟨g, i * 4, none⟩ (.string ⟨#[]⟩)).setCell ⟨g, i * 4 + 1, none⟩ (.slice none 0 0)).setCell ⟨g, i * 4 + 2, none⟩ (.int .u64 0)).setCell ⟨g, i * 4 + 3, none⟩ (.int .u64 0)).setCell ⟨p, 2, none⟩ (.int .i64 ((lv : Int) - 1))) = w') :
    LogRow w' D p (.slice (some ⟨g, 0, none⟩) M.length c) (M.set i (none, .slice none 0 0)) ∧ Mod D w w' := by
  subst hw'
  have HW := HL.pure HP
  have hlt : i < M.length := (List.getElem?_eq_some_iff.1 hi).1
  have hgp := HL.np (g := g) rfl
  have hDg : D g := (HL.dd g).2 (.inr rfl)
  have hDp : D p := (HL.dd p).2 (.inl rfl)
  have hmod : Mod D W (((((W.setCell ⟨g, i * 4, none⟩ (.string ⟨#[]⟩)).setCell ⟨g, i * 4 + 1, none⟩ (.slice none 0 0)).setCell ⟨g, i * 4 + 2, none⟩ (.int .u64 0)).setCell ⟨g, i * 4 + 3, none⟩ (.int .u64 0)).setCell ⟨p, 2, none⟩ (.int .i64 ((lv : Int) - 1))) :=
    (((((Mod.refl D W).setCell (p := ⟨g, i * 4, none⟩) (fun _ => hDg) _).setCell (p := ⟨g, i * 4 + 1, none⟩) (fun _ => hDg) _).setCell (p := ⟨g, i * 4 + 2, none⟩) (fun _ => hDg) _).setCell (p := ⟨g, i * 4 + 3, none⟩) (fun _ => hDg) _).setCell (p := ⟨p, 2, none⟩) (fun _ => hDp) _
  have hl := live_set_none M i x v (.slice none 0 0) hi
  refine ⟨⟨?_, ?_, fun e u hm => ?_, ?_, ?_⟩, (Mod.of_pure HP).trans hmod⟩
  · have hb : ((((W.setCell ⟨g, i * 4, none⟩ (.string ⟨#[]⟩)).setCell ⟨g, i * 4 + 1, none⟩ (.slice none 0 0)).setCell ⟨g, i * 4 + 2, none⟩ (.int .u64 0)).setCell ⟨g, i * 4 + 3, none⟩ (.int .u64 0)).heap[p]? = _ :=
      heap_set_other (heap_set_other (heap_set_other (heap_set_other HW.box hgp.symm) hgp.symm) hgp.symm) hgp.symm
    have := heap_setCell_same _ p 2 _ _ (.int .i64 ((lv : Int) - 1)) hb
    rw [this, hl.1, hlv]
    rfl
  · have r0 := owns_setCell HW.row (i * 4) (.string ⟨#[]⟩) (by omega)
    have r1 := owns_setCell r0 (i * 4 + 1) (.slice none 0 0) (by omega)
    have r2 := owns_setCell r1 (i * 4 + 2) (.int .u64 0) (by omega)
    have r3 := owns_setCell r2 (i * 4 + 3) (.int .u64 0) (by omega)
    rw [flat4_set M i _ (none, .slice none 0 0) hi _ _ _ _ rfl] at r3
    have r4 := owns_mod r3 (S := fun k => k = p) ((Mod.refl (fun k => k = p) _).setCell (p := ⟨p, 2, none⟩) (fun _ => rfl) (.int .i64 ((lv : Int) - 1))) (fun g' e h => by cases e; exact hgp h)
    rw [List.length_set]
    exact r4
  · have hm' : (some e, u) ∈ M := by
      rcases List.mem_or_eq_of_mem_set hm with h | h
      · exact h
      · cases h
    exact bytes_frame (HW.vals e u hm') hmod (fun k _ hk cs fz => HW.nobytes hk cs fz)
  · exact HL.dd
  · refine ⟨by have := HL.ok.len; simpa using this, fun e he => ?_⟩
    rw [List.map_set] at he
    rcases List.mem_or_eq_of_mem_set he with h | h
    · exact HL.ok.ent e h
    · cases h

set_option maxHeartbeats 800000 in
theorem Remove_hit {w : World} {D : Nat → Prop} {p : Nat} {sv : Value} {M : List (Option Ent × Value)} (h : LogRow w D p sv M) {i : Nat} {x : Ent} {v : Value} (hi : M[i]? = some (some x, v)) :
    Calls Try.prog 35 #[.pointer (some ⟨p, 0, none⟩), .int .u32 i] w (removePost w D p i x sv M) := by
  obtain ⟨g, c, rfl, hg, ng, hlt, hn, hc, hf⟩ := h.slot hi
  obtain ⟨c0, c1, c2, cf⟩ := h.cells
  have hx := (h.vals x v (List.mem_of_getElem? hi)).read (bytesOf_one _)
  have hok := h.ok.ent x (List.mem_map.2 ⟨_, List.mem_of_getElem? hi, rfl⟩)
  have s0 : w.cell? ⟨g, i * 4, none⟩ = _ := hc 0 _ rfl; have s1 := hc 1 _ rfl; have s2 := hc 2 _ rfl; have s3 := hc 3 _ rfl
  have hlp : p < w.heap.size := World.block_lt_of_cell? w _ c0
  have hb : (x.birth == 0) = false := by have := hok.b0; simp; omega
  obtain ⟨a, n, cc, rfl, hl, _⟩ := id hx
  have hn' : n ≤ 140737488355328 := by have := hok.v1; rw [bytesOf_length] at hl; omega
  have H := Lib.hid (hx.frame ((Mod.refl (fun _ => False) w).alloc (.cells #[.string ByteArray.empty, .slice none 0 0, .int .u64 0, .int .u64 0] 36)) (fun _ _ h => h))
  have HL := Lib.hid h
  have HI := Lib.hid hi
  generalize hlv : (liveOf (M.map Prod.fst)) = lv at c2
  have hlv1 : 1 ≤ lv ∧ lv ≤ 4194304 := by have := (live_set_none M i x _ (.slice none 0 0) hi).2; have := liveOf_le (M.map Prod.fst); rw [List.length_map] at this; omega
  have HLV := Lib.hid hlv
  obtain ⟨hlv1, hlv2⟩ := hlv1
  clear h hx hc hl hlv hi
  have hlp1 : p < w.heap.size + 1 := by omega
  have hg1 : g < w.heap.size + 1 := by omega
  go_enter Try.func35, Try.ntmps35
  go_upto_region 5 with (first | (go_at_call 51; refine Calls.mono (at_hit p g _ c i x.birth _ (by simpa [go_sem, hlp] using c0) (by simpa [go_sem, hlp] using c1) hlt hn (by simpa [go_sem, hg] using s3) hb) ?_; rintro e w' ⟨rfl, rfl⟩) | (go_at_call 47; refine Calls.mono (entry_Copy x.key a n cc _ _ _ _ H.out hn') ?_; rintro e w1 ⟨a', n', c', rfl, hr, hfr, hp⟩; obtain ⟨hpc, hpf⟩ := hp.cells))
  have hz : w.heap.size < w1.heap.size := by have := hp.size; simp at this; omega
  have HP : Pure w (w1.alloc (.cells #[.string x.key, .slice a' n' c', .int .u64 x.dl, .int .u64 x.birth] 36)) := by
    (repeat' (first | (with_reducible exact Mod.refl _ _) | (with_reducible refine Mod.alloc ?_ _) | (with_reducible refine Mod.drew ?_) | (with_reducible refine Mod.drewN ?_ _) | (with_reducible refine Mod.setCell ?_ ?_ _) | (refine Mod.then ?_ (by with_reducible assumption) ?_)))
    (all_goals (intros; first | (exfalso; assumption) | omega | (simp at *; done) | (simp at *; omega)))
  have hA : (w1.alloc (.cells #[.string x.key, .slice a' n' c', .int .u64 x.dl, .int .u64 x.birth] 36)).heap[w.heap.size]? = some (.cells #[.string ByteArray.empty, .slice none 0 0, .int .u64 0, .int .u64 0] 36 (0, 0)) := heap_keep (hp.heap (fun h => h) (heap_new rfl))
  have hB : (w1.alloc (.cells #[.string x.key, .slice a' n' c', .int .u64 x.dl, .int .u64 x.birth] 36)).heap[w1.heap.size]? = some (.cells #[.string x.key, .slice a' n' c', .int .u64 x.dl, .int .u64 x.birth] 36 (0, 0)) := heap_new rfl
  have HRD : BytesAt (w1.alloc (.cells #[.string x.key, .slice a' n' c', .int .u64 x.dl, .int .u64 x.birth] 36)) (.slice a' n' c') (bytesOf x.val) := owns_mod (bytesAt_of hr) ((Mod.refl (fun _ => False) w1).alloc _) (fun _ _ h => h)
  have hfr' : ∀ k, (Value.slice a' n' c').ownBlock = some k → w.heap.size < k := fun k e => by have := hfr k e; simp at this; omega
  generalize hW : w1.alloc (.cells #[.string x.key, .slice a' n' c', .int .u64 x.dl, .int .u64 x.birth] 36) = W at HP hA hB HRD ⊢
  have hgB : g ≠ w1.heap.size := by omega
  have hpB : p ≠ w1.heap.size := by omega
  have hAB : w.heap.size ≠ w1.heap.size := by omega
  have hsB : w.heap.size < w1.heap.size := hz
  generalize w1.heap.size = B at hB hgB hpB hAB hsB ⊢
  clear hW hpc hpf hz hp hr hfr hlp1 hg1
  have hgA : g ≠ w.heap.size := by omega
  have hpA : p ≠ w.heap.size := by omega
  have HSZ : Hid (w.heap.size ≤ w.heap.size) := Nat.le_refl _
  have ar : ∀ (j : Nat), W.frozen? ⟨w.heap.size, j, none⟩ = false := fun j => frozen_of_row W _ j _ _ hA
  have ac := fun j => cell_of_row W w.heap.size j _ _ _ hA
  have bc := fun j => cell_of_row W B j _ _ _ hB
  have a0 := ac 0; have a1 := ac 1; have a2 := ac 2; have a3 := ac 3
  have b0 := bc 0; have b1 := bc 1; have b2 := bc 2; have b3 := bc 3
  simp at a0 a1 a2 a3 b0 b1 b2 b3
  replace c2 := HP.cell (fun h => h) c2
  replace s0 := HP.cell (fun h => h) s0; replace s1 := HP.cell (fun h => h) s1; replace s2 := HP.cell (fun h => h) s2; replace s3 := HP.cell (fun h => h) s3
  have cfW : W.frozen? ⟨p, 2, none⟩ = false := (World.frozen?_of_block (w := w) (a := ⟨p, 2, none⟩) (HP.block p hlp (fun h => h))).trans (cf 2)
  have hfW : ∀ j, W.frozen? ⟨g, j, none⟩ = false := fun j => (World.frozen?_of_block (w := w) (a := ⟨g, j, none⟩) (HP.block g hg (fun h => h))).trans (hf j)
  have HHP := Lib.hid HP
  have HHA := Lib.hid hA
  have HRD' := Lib.hid HRD
  have HFR := Lib.hid hfr'
  clear ac bc hA hB HP HRD hfr' c0 c1 cf hf
  go_upto_region 7 with fail
  have hend := remove_end (w' := (((((W.setCell ⟨g, i * 4, none⟩ (.string ⟨#[]⟩)).setCell ⟨g, i * 4 + 1, none⟩ (.slice none 0 0)).setCell ⟨g, i * 4 + 2, none⟩ (.int .u64 0)).setCell ⟨g, i * 4 + 3, none⟩ (.int .u64 0)).setCell ⟨p, 2, none⟩ (.int .i64 ((lv : Int) - 1)))) HL.out HI.out HHP.out HLV.out rfl
  have kA : (((((W.setCell ⟨g, i * 4, none⟩ (.string ⟨#[]⟩)).setCell ⟨g, i * 4 + 1, none⟩ (.slice none 0 0)).setCell ⟨g, i * 4 + 2, none⟩ (.int .u64 0)).setCell ⟨g, i * 4 + 3, none⟩ (.int .u64 0)).setCell ⟨p, 2, none⟩ (.int .i64 ((lv : Int) - 1))).heap[w.heap.size]? = _ :=
    heap_set_other (heap_set_other (heap_set_other (heap_set_other (heap_set_other HHA.out hgA.symm) hgA.symm) hgA.symm) hgA.symm) hpA.symm
  have kB : ∀ j u, W.cell? ⟨B, j, none⟩ = some u → (((((W.setCell ⟨g, i * 4, none⟩ (.string ⟨#[]⟩)).setCell ⟨g, i * 4 + 1, none⟩ (.slice none 0 0)).setCell ⟨g, i * 4 + 2, none⟩ (.int .u64 0)).setCell ⟨g, i * 4 + 3, none⟩ (.int .u64 0)).setCell ⟨p, 2, none⟩ (.int .i64 ((lv : Int) - 1))).cell? ⟨B, j, none⟩ = some u := by
    intro j u hu
    rw [World.cell?_setCell_other _ _ _ _ (by simp [hpB]), World.cell?_setCell_other _ _ _ _ (by simp [hgB]), World.cell?_setCell_other _ _ _ _ (by simp [hgB]), World.cell?_setCell_other _ _ _ _ (by simp [hgB]), World.cell?_setCell_other _ _ _ _ (by simp [hgB])]
    exact hu
  have hRD : BytesAt (((((W.setCell ⟨g, i * 4, none⟩ (.string ⟨#[]⟩)).setCell ⟨g, i * 4 + 1, none⟩ (.slice none 0 0)).setCell ⟨g, i * 4 + 2, none⟩ (.int .u64 0)).setCell ⟨g, i * 4 + 3, none⟩ (.int .u64 0)).setCell ⟨p, 2, none⟩ (.int .i64 ((lv : Int) - 1))) (.slice a' n' c') (bytesOf x.val) := by
    refine owns_mod HRD'.out (S := fun k => k = g ∨ k = p) ?_ (fun k e h => by have := HFR.out k e; omega)
    (repeat' (first | (with_reducible exact Mod.refl _ _) | (with_reducible refine Mod.alloc ?_ _) | (with_reducible refine Mod.drew ?_) | (with_reducible refine Mod.drewN ?_ _) | (with_reducible refine Mod.setCell ?_ ?_ _) | (refine Mod.then ?_ (by with_reducible assumption) ?_)))
    all_goals (intro _; first | exact .inl rfl | exact .inr rfl)
  replace b0 := kB _ _ b0; replace b1 := kB _ _ b1; replace b2 := kB _ _ b2; replace b3 := kB _ _ b3
  generalize (((((W.setCell ⟨g, i * 4, none⟩ (.string ⟨#[]⟩)).setCell ⟨g, i * 4 + 1, none⟩ (.slice none 0 0)).setCell ⟨g, i * 4 + 2, none⟩ (.int .u64 0)).setCell ⟨g, i * 4 + 3, none⟩ (.int .u64 0)).setCell ⟨p, 2, none⟩ (.int .i64 ((lv : Int) - 1))) = W3 at *
  clear kB a0 a1 a2 a3 c2 s0 s1 s2 s3 ar hfW cfW
  have ac := fun j => cell_of_row W3 w.heap.size j _ _ _ kA
  have ar : ∀ (j : Nat), W3.frozen? ⟨w.heap.size, j, none⟩ = false := fun j => frozen_of_row W3 _ j _ _ kA
  have a0 := ac 0; have a1 := ac 1; have a2 := ac 2; have a3 := ac 3
  simp at a0 a1 a2 a3
  have HE := Lib.hid hend
  have HKA := Lib.hid kA
  have HRD3 := Lib.hid hRD
  clear hend kA ac hRD
  go_wp2
  refine bodyPost_ret (v := .tuple #[.agg #[.string x.key, .slice a' n' c', .int .u64 x.dl, .int .u64 x.birth], .int .i64 0]) (by simp [results, Try.results35, go_sem, a0, a1, a2, a3]) rfl ⟨a', n', c', rfl, ?_, ?_, ?_, ?_⟩
  · refine owns_mod HRD3.out (S := fun k => k = w.heap.size) ?_ (fun k e h => by have := HFR.out k e; omega)
    (repeat' (first | (with_reducible exact Mod.refl _ _) | (with_reducible refine Mod.alloc ?_ _) | (with_reducible refine Mod.drew ?_) | (with_reducible refine Mod.drewN ?_ _) | (with_reducible refine Mod.setCell ?_ ?_ _) | (refine Mod.then ?_ (by with_reducible assumption) ?_)))
    (all_goals (intros; first | (exfalso; assumption) | omega | (simp at *; done) | (simp at *; omega)))
  · exact fun k e => Nat.le_of_lt (HFR.out k e)
  · refine HE.out.1.frame (S := fun k => k = w.heap.size) ?_ (fun k hk h => by have := HL.out.lt hk; omega) ?_
    · (repeat' (first | (with_reducible exact Mod.refl _ _) | (with_reducible refine Mod.alloc ?_ _) | (with_reducible refine Mod.drew ?_) | (with_reducible refine Mod.drewN ?_ _) | (with_reducible refine Mod.setCell ?_ ?_ _) | (refine Mod.then ?_ (by with_reducible assumption) ?_)))
      (all_goals (intros; first | (exfalso; assumption) | omega | (simp at *; done) | (simp at *; omega)))
    · rintro k _ rfl cs fz e
      rw [HKA.out] at e
      cases e
  · refine HE.out.2.then (T := fun k => k = w.heap.size) ?_ (fun k hk h => by omega)
    (repeat' (first | (with_reducible exact Mod.refl _ _) | (with_reducible refine Mod.alloc ?_ _) | (with_reducible refine Mod.drew ?_) | (with_reducible refine Mod.drewN ?_ _) | (with_reducible refine Mod.setCell ?_ ?_ _) | (refine Mod.then ?_ (by with_reducible assumption) ?_)))
    (all_goals (intros; first | (exfalso; assumption) | omega | (simp at *; done) | (simp at *; omega)))
end Go.Proofs.Ytapplindfijngaa

/- A law for a range over a function, at an outermost loop of a fence without a list, for an iterator of one's own contract (IterOk). -/
namespace Go.Proofs.Ytapplindfijngaa
open Go.RowKit Go.Shelf

/-! ## A range over a function -/
@[go_sem] theorem wide_fn (f : Nat) : Fence.wide.fn f = True := rfl
@[go_sem] theorem wide_depth : Fence.wide.depth = none := rfl
@[go_sem] theorem wide_round : Fence.wide.round = none := rfl

/-- From A to B only new blocks that hold no cells (numbers from N on) may have turned. -/
def Quiet (N : Nat) (A B : World) : Prop := Mod (fun k => N ≤ k ∧ ∃ o, A.heap[k]? = some o ∧ o.isCells = false) A B
theorem Quiet.of_pure {N : Nat} {A B : World} (h : Pure A B) : Quiet N A B := Mod.of_pure h
theorem Quiet.putObj {N : Nat} {A : World} {l : Nat} {o : Obj} (o' : Obj) (hN : N ≤ l) (hl : A.heap[l]? = some o) (ho : o.isCells = false) : Quiet N A (A.putObj l o') :=
  ⟨rfl, rfl, rfl, by simp, fun k _ hn => World.putObj_heap_other (fun e => hn (by subst e; exact ⟨hN, o, hl, ho⟩))⟩
theorem Quiet.cells {N : Nat} {A B : World} (h : Quiet N A B) {k : Nat} {cs : Array Value} {T : TypeId} {fz : Nat × Nat} (hc : A.heap[k]? = some (.cells cs T fz)) : B.heap[k]? = some (.cells cs T fz) :=
  Mod.heap h (fun ⟨_, o, ho, hn⟩ => by rw [hc] at ho; cases ho; cases hn) hc
theorem Quiet.cell {N : Nat} {A B : World} (h : Quiet N A B) {a : Addr} {v : Value} (hc : A.cell? a = some v) : B.cell? a = some v := by
  refine Mod.cell h ?_ hc
  rintro ⟨_, o, ho, hn⟩
  unfold World.cell? at hc
  rw [ho] at hc
  cases o <;> simp_all [Obj.isCells]
theorem Quiet.owns {N : Nat} {A B : World} (h : Quiet N A B) {T k : Nat} {v : Value} {n : Nat} {xs : List Value} (ho : A.ownsRow 0 T k v n xs) : B.ownsRow 0 T k v n xs :=
  owns_mod ho h (fun g hg hs => by
    obtain ⟨c, e⟩ := owns_type ho hg
    obtain ⟨_, o, ho, hn⟩ := hs
    rw [e] at ho; cases ho; cases hn)
theorem Quiet.mod {N : Nat} {S : Nat → Prop} {w A B : World} (h : Quiet N A B) (hm : Mod S w A) (hN : w.heap.size ≤ N) : Mod S w B :=
  hm.then h (fun i hi hk => by have := hk.1; omega)

/-- A round keeps the records: blocks from N on that hold no cells. -/
def KeepsRec (N : Nat) (A B : World) : Prop := ∀ k o, N ≤ k → A.heap[k]? = some o → o.isCells = false → B.heap[k]? = some o
theorem KeepsRec.of_mod {N : Nat} {S : Nat → Prop} {A B : World} (h : Mod S A B) (hS : ∀ k, N ≤ k → S k → ∀ o, A.heap[k]? = some o → o.isCells = true) : KeepsRec N A B :=
  fun k o hk ho hn => h.heap (fun hs => by have := hS k hk hs o ho; rw [this] at hn; cases hn) ho

/-- What a round has to leave of the iterator's own blocks. -/
def KeepsIt (It : Nat → Prop) (A B : World) : Prop := A.heap.size ≤ B.heap.size ∧ ∀ k, It k → k < A.heap.size → B.heap[k]? = A.heap[k]?
theorem KeepsIt.of_mod {It S : Nat → Prop} {A B : World} (h : Mod S A B) (hS : ∀ k, It k → ¬ S k) : KeepsIt It A B := ⟨h.size, fun k hk hlt => h.block k hlt (hS k hk)⟩
theorem KeepsIt.trans {It : Nat → Prop} {A B C : World} (h : KeepsIt It A B) (k : KeepsIt It B C) : KeepsIt It A C := ⟨Nat.le_trans h.1 k.1, fun i hi hlt => (k.2 i hi (Nat.lt_of_lt_of_le hlt h.1)).trans (h.2 i hi hlt)⟩
theorem KeepsIt.of_pure {It : Nat → Prop} {A B : World} (h : Pure A B) : KeepsIt It A B := KeepsIt.of_mod h (fun _ _ h => h)

/-- THE CONTRACT OF AN ITERATOR (function gf, captured lb) in the world w: its blocks are It; of the x that it hands over behind pre it promises G; all that it hands over meets S; it makes new blocks alone. -/
def IterOk (P : Program) {α : Type} (gf : Nat) (lb : Array Value) (encs : α → Array Value) (It : Nat → Prop) (G : List α → α → World → Prop) (S : List α → Prop) (w : World) : Prop :=
  ∀ (l : Nat) (J Jx : List α → World → Prop) (W : World), Pure w W → (∀ pre A B, J pre A → Pure A B → J pre B) → (∀ pre A B, Jx pre A → Pure A B → Jx pre B) →
    (∀ pre x W1, J pre W1 → G pre x W1 → YieldAt Fence.wide 0 P l (encs x) W1 fun e W' =>
      (e = .returned (.bool true) ∧ J (pre ++ [x]) W' ∧ KeepsIt It W1 W') ∨ (e = .returned (.bool false) ∧ Jx (pre ++ [x]) W')) →
    J [] W →
    CallsIn Fence.wide 0 P gf (#[.func (.yield l) #[] #[]] ++ lb) W fun e W' => (∃ v, e = .returned v) ∧ ((∃ xs, S xs ∧ J xs W') ∨ (∃ pre, Jx pre W'))

/-- HOW THE BODY OF A ROUND MAY BE LEFT. -/
def roundEnd {α : Type} (N : Nat) (It : Nat → Prop) (I : List α → World → Prop) (Ix : Code → List α → World → Prop) (xs : List α) (W : World) : Exit → Act → World → Prop
  | .normal, _, W' => KeepsRec N W W' ∧ KeepsIt It W W' ∧ I xs W'
  | .ret, _, W' => KeepsRec N W W' ∧ Ix .ret xs W'
  | .exit id, _, W' => KeepsRec N W W' ∧ Ix (.exit id) xs W'
  | .goto t, _, W' => KeepsRec N W W' ∧ Ix (.goto t) xs W'
  | .panic _, _, _ => False
  | .outgrown, _, _ => False

variable {P : Program}

/-- THE LAW, at an outermost loop. -/
theorem wp_range {α : Type} {g : Operand} {ps : Array Tmp} {assign body : Code} {Q : Exit → Act → World → Prop} {a : Act} {w : World}
    {gf : Nat} {lb : Array Value} (hg : a.eval g = .func (.func gf) #[] lb) (eg : ∀ args w, (callFunc gf args).run P w = .ok (.enter gf args) w)
    {encs : α → Array Value} {It : Nat → Prop} {G : List α → α → World → Prop} {S : List α → Prop} (hit : IterOk P gf lb encs It G S w) (hItlt : ∀ k, It k → k < w.heap.size)
    (hps : ∀ x, (encs x).size = ps.size)
    (I : List α → World → Prop) (Ix : Code → List α → World → Prop) (hI : ∀ pre A B, I pre A → Quiet w.heap.size A B → I pre B) (hIx : ∀ c pre A B, Ix c pre A → Quiet w.heap.size A B → Ix c pre B) (h0 : I [] w)
    (Ax : List α → α → Act → World → Prop) (hAx : ∀ pre x a' A B, Ax pre x a' A → Quiet w.heap.size A B → Ax pre x a' B)
    (hassign : ∀ (l : Nat) (pre : List α) (x : α) (W : World) (K : Act → World → Prop), I pre W → G pre x W → (∀ a' W', Pure W W' → Ax pre x a' W' → K a' W') →
      assign.wpIn (Fence.wide.inRound l) 0 P (Exit.then K (fun _ _ _ => False)) { tmps := (ps.zip (encs x)).foldl (fun t (p, v) => t.setIfInBounds p v) a.tmps, defers := [] } W)
    (hbody : ∀ (l : Nat) (pre : List α) (x : α) (a' : Act) (W : World), w.heap.size ≤ l → (∃ r, W.heap[l]? = some (.loop r)) → Ax pre x a' W →
      body.wpIn (Fence.wide.inRound l) 0 P (roundEnd w.heap.size It I Ix (pre ++ [x]) W) a' W)
    (hdone : ∀ (D : Nat) (xs : List α) (W : World), w.heap.size ≤ D → S xs → I xs W → W.heap[D]? = some (.deferred (some [])) → Q .normal { a with defers := { target := .collected D, args := #[] } :: a.defers } W)
    (hstop : ∀ (D : Nat) (c : Code) (pre : List α) (W : World), w.heap.size ≤ D → Ix c pre W → W.heap[D]? = some (.deferred (some [])) → c.wpIn Fence.wide 0 P Q { a with defers := { target := .collected D, args := #[] } :: a.defers } W) :
    (Code.rangeFunc g ps assign body).wpIn Fence.wide 0 P Q a w := by
  refine wpIn_rangeFunc ?_
  intro fn hfn
  obtain ⟨rec, hrec⟩ : ∃ rec : LoopState → Option Code → Loop, rec = fun st pe => { state := st, pending := pe, fn, tmps := a.tmps, params := ps, assign, body, defers := w.heap.size } := ⟨_, rfl⟩
  obtain ⟨W1, hW1⟩ : ∃ W1, (w.alloc (.deferred (some []))).alloc (.loop (rec .ready none)) = W1 := ⟨_, rfl⟩
  have hL1 : W1.heap[w.heap.size + 1]? = some (.loop (rec .ready none)) := by rw [← hW1]; exact heap_new (by simp)
  have hK1 : W1.heap[w.heap.size]? = some (.deferred (some [])) := by rw [← hW1]; exact heap_keep (heap_new rfl)
  have hP1 : Pure w W1 := by rw [← hW1]; exact ((Mod.refl _ w).alloc _).alloc _
  have hI1 : I [] W1 := hI _ _ _ h0 (Quiet.of_pure hP1)
  refine ⟨w.heap.size + 1, [{ target := .collected w.heap.size, args := #[] }], W1, { target := .fn (.func gf) lb, args := #[.func (.yield (w.heap.size + 1)) #[] #[]] }, W1, gf,
    #[.func (.yield (w.heap.size + 1)) #[] #[]] ++ lb, W1, ?_, ?_, fun _ _ => trivial, ?_, (fun h => by cases h), ?_⟩
  · rw [← hW1, hrec]; exact run_enterLoop_outer _ _ _ _ _
  · simp only [resolve, hg]
    simp [go_sem]
  · simp [invoke, go_sem, eg]
  · refine (hit (w.heap.size + 1)
      (fun pre W => I pre W ∧ W.heap[w.heap.size + 1]? = some (.loop (rec .ready none)) ∧ W.heap[w.heap.size]? = some (.deferred (some [])) ∧ w.heap.size ≤ W.heap.size)
      (fun pre W => ∃ c, Ix c pre W ∧ W.heap[w.heap.size + 1]? = some (.loop (rec .done (some c))) ∧ W.heap[w.heap.size]? = some (.deferred (some [])))
      W1 hP1
      (fun pre A B hs hp => ⟨hI _ _ _ hs.1 (Quiet.of_pure hp), hp.heap (fun h => h) hs.2.1, hp.heap (fun h => h) hs.2.2.1, Nat.le_trans hs.2.2.2 hp.size⟩)
      (fun pre A B hs hp => by
        obtain ⟨c, hc, hl, hk⟩ := hs
        exact ⟨c, hIx _ _ _ _ hc (Quiet.of_pure hp), hp.heap (fun h => h) hl, hp.heap (fun h => h) hk⟩)
      ?_ ⟨hI1, hL1, hK1, hP1.size⟩).mono ?_
    · rintro pre x W ⟨hi, hl, hk, hsz⟩ hGx
      have hlt : w.heap.size + 1 < W.heap.size := (Array.getElem?_eq_some_iff.1 hl).1
      have hy := run_yield (P := P) (args := encs x) hl (by rw [hrec]; exact hps x)
      rw [hrec] at hy
      refine ⟨fn, _, assign, body, hy, roundIn_of_wpIn hfn (hassign _ pre x W _ hi hGx ?_)⟩
      clear hy
      intro a' Wa hpa hax
      have hla : Wa.heap[w.heap.size + 1]? = _ := hpa.heap (fun h => h) hl
      have hka : Wa.heap[w.heap.size]? = _ := hpa.heap (fun h => h) hk
      have hlta : w.heap.size + 1 < Wa.heap.size := (Array.getElem?_eq_some_iff.1 hla).1
      refine ⟨_, run_beginRound hla (by rw [hrec]), ?_⟩
      have hq2 : Quiet w.heap.size Wa (Wa.putObj (w.heap.size + 1) (.loop { rec .ready none with state := .busy })) := Quiet.putObj _ (by omega) hla rfl
      have hl2 : (Wa.putObj (w.heap.size + 1) (.loop { rec .ready none with state := .busy })).heap[w.heap.size + 1]? = some (.loop { rec .ready none with state := .busy }) := World.putObj_heap_same hlta
      have hk2 : (Wa.putObj (w.heap.size + 1) (.loop { rec .ready none with state := .busy })).heap[w.heap.size]? = some (.deferred (some [])) := (World.putObj_heap_other (by omega)).trans hka
      have ha2 := hAx _ _ _ _ _ hax hq2
      have hit2 : KeepsIt It W (Wa.putObj (w.heap.size + 1) (.loop { rec .ready none with state := .busy })) :=
        (KeepsIt.of_pure hpa).trans ⟨by simp, fun k hk _ => World.putObj_heap_other (by have := hItlt k hk; omega)⟩
      refine wpIn_mono (hbody _ pre x a' _ (by omega) ⟨_, hl2⟩ ha2) ?_
      have fin : ∀ (jump : Option Code) (W3 : World), KeepsRec w.heap.size (Wa.putObj (w.heap.size + 1) (.loop { rec .ready none with state := .busy })) W3 →
          (Instr.endRound (w.heap.size + 1) jump).run P W3 = .ok (.bool jump.isNone) (W3.putObj (w.heap.size + 1) (.loop (rec (if jump.isNone then .ready else .done) jump))) ∧
          W3.heap[w.heap.size + 1]? = some (.loop { rec .ready none with state := .busy }) ∧
          (W3.putObj (w.heap.size + 1) (.loop (rec (if jump.isNone then .ready else .done) jump))).heap[w.heap.size + 1]? = some (.loop (rec (if jump.isNone then .ready else .done) jump)) ∧
          (W3.putObj (w.heap.size + 1) (.loop (rec (if jump.isNone then .ready else .done) jump))).heap[w.heap.size]? = some (.deferred (some [])) := fun jump W3 hk3 => by
        have hl3 := hk3 _ _ (by omega) hl2 rfl
        have := run_endRound (P := P) jump hl3
        rw [hrec] at this ⊢
        exact ⟨this, by rw [hrec] at hl3; exact hl3, World.putObj_heap_same (Array.getElem?_eq_some_iff.1 hl3).1, (World.putObj_heap_other (by omega)).trans (hk3 _ _ (Nat.le_refl _) hk2 rfl)⟩
      rintro e a3 W3 hp
      cases e with
      | normal =>
        obtain ⟨hk3, hkp3, hi3⟩ := hp
        obtain ⟨hr, hl3, hl4, hk4⟩ := fin none W3 hk3
        have hlt3 : w.heap.size + 1 < W3.heap.size := (Array.getElem?_eq_some_iff.1 hl3).1
        exact ⟨_, _, hr, .inl ⟨rfl, ⟨hI _ _ _ hi3 (Quiet.putObj _ (by omega) hl3 rfl), hl4, hk4, by simp; omega⟩,
          (hit2.trans hkp3).trans ⟨by simp, fun k hk _ => World.putObj_heap_other (by have := hItlt k hk; omega)⟩⟩⟩
      | ret =>
        obtain ⟨hk3, hi3⟩ := hp
        obtain ⟨hr, hl3, hl4, hk4⟩ := fin (some .ret) W3 hk3
        exact ⟨_, _, hr, .inr ⟨rfl, .ret, hIx _ _ _ _ hi3 (Quiet.putObj _ (by omega) hl3 rfl), hl4, hk4⟩⟩
      | exit id =>
        obtain ⟨hk3, hi3⟩ := hp
        obtain ⟨hr, hl3, hl4, hk4⟩ := fin (some (.exit id)) W3 hk3
        exact ⟨_, _, hr, .inr ⟨rfl, .exit id, hIx _ _ _ _ hi3 (Quiet.putObj _ (by omega) hl3 rfl), hl4, hk4⟩⟩
      | goto t =>
        obtain ⟨hk3, hi3⟩ := hp
        obtain ⟨hr, hl3, hl4, hk4⟩ := fin (some (.goto t)) W3 hk3
        exact ⟨_, _, hr, .inr ⟨rfl, .goto t, hIx _ _ _ _ hi3 (Quiet.putObj _ (by omega) hl3 rfl), hl4, hk4⟩⟩
      | panic ch => exact hp.elim
      | outgrown => exact hp.elim
    · rintro e W2 ⟨⟨v, rfl⟩, (⟨xs, hS, hi, hl, hk, _⟩ | ⟨pre, c, hi, hl, hk⟩)⟩
      · exact ⟨none, _, by have := run_endLoop (P := P) hl (by rw [hrec]; simp); rw [hrec] at this; exact this, hdone _ xs _ (Nat.le_refl _) hS (hI _ _ _ hi (Quiet.putObj _ (by omega) hl rfl)) ((World.putObj_heap_other (by omega)).trans hk)⟩
      · exact ⟨some c, _, by have := run_endLoop (P := P) hl (by rw [hrec]; simp); rw [hrec] at this; exact this, hstop _ c pre _ (Nat.le_refl _) (hIx _ _ _ _ hi (Quiet.putObj _ (by omega) hl rfl)) ((World.putObj_heap_other (by omega)).trans hk)⟩

/-- append at a fenced list; what is appended is read. -/
theorem wpListIn_append_read {F : Fence} {m0 : Nat} {P : Program} (w : World) {ops : Array Oper} {rest : List Oper} {o : Oper} {a : Act} {Q : Exit → Act → World → Prop} (hgd : o.guard = none) (s x : Operand) (t : TypeId)
    (ho : o.op = .call { callee := .builtin .append, args := #[s, x], argTypes := #[t, t] })
    (e : TypeId) (i : TypeInfo) (z : Value) (k bytes : Nat) (ht : P.underlying t = some (.slice e)) (hi : P.info? e = some i) (hz : i.zero = some z)
    (hsize : i.size = k) (hby : i.bytes = bytes) (hzs : z.cells.size = k) (hsz : 0 < k)
    (v : Value) (n : Nat) (xs : List Value) (hs : a.eval s = v) (hown : w.ownsRow 0 e k v n xs) (xv : Value) (ys : List Value) (m : Nat) (hxv : a.eval x = xv) (hx : ReadAt w xv k ys) (hm : ys.length = m * k)
    (h63 : n + m ≤ maxLen) (hbytes : (n + m) * bytes ≤ 140737488355328)
    (h : ∀ a' c' w', w'.ownsRow 0 e k (.slice a' (n + m) c') (n + m) (xs ++ ys) → w.grownBy w' v.ownBlock → ((Value.slice a' (n + m) c').ownBlock = v.ownBlock ∨ (Value.slice a' (n + m) c').ownBlock = some w.heap.size) → wpListIn F m0 P ops Q rest (a.put o.dst (.slice a' (n + m) c')) w') : wpListIn F m0 P ops Q (o :: rest) a w := by
  refine wpListIn_plain hgd fun K hK' => ?_
  obtain ⟨a', c', w', hr, h2, h3, h4⟩ := run_append_read (P := P) w t o.type e i z k bytes ht hi hz hsize hby hzs hsz v n xs hown xv ys m hx hm h63 hbytes
  unfold Oper.wpIn
  refine ⟨?_, ?_⟩
  · simp [Oper.about, ho, resolve, Target.leads, Sem.run_pure]
  · rw [Oper.semAt_plain F _ _ (by rw [ho]; intro c hc'; cases hc')]
    simp [execOp, ho, resolve, invoke, builtin, hs, hxv, hr, Result.andThen]
    exact hK' _ _ (h a' c' w' h2 h3 h4)
/-- A function's end behind one range over a function that nothing was deferred in. -/
theorem bodyPostM_drained {P : Program} {fn : Func} {R : Ending → World → Prop} {l : Nat} {tmps : Array Value} {w : World} (v : Value) (hK : w.heap[l]? = some (.deferred (some []))) (hr : (results fn tmps).run P (w.putObj l (.deferred none)) = .ok v (w.putObj l (.deferred none)))
    (hR : R (.returned v) (w.putObj l (.deferred none))) : bodyPostM Fence.wide 0 P fn R .ret { tmps := tmps, defers := [{ target := .collected l, args := #[] }] } w :=
  ⟨by simp, .inl ⟨_, _, rfl, run_takeDeferred hK, v, hr, hR⟩⟩
end Go.Proofs.Ytapplindfijngaa

/- Log.All and its closure meet the iterator's contract. Condition: the log is made. -/
namespace Go.Proofs.Ytapplindfijngaa
open Go.RowKit Go.Shelf
set_option maxRecDepth 100000
attribute [local go_sem] Oper.semAt_some

/-! ### All -/
/-- The entries of a log with their slot numbers, from slot i on. -/
def liveFrom : Nat → List (Option Ent) → List (Nat × Ent)
  | _, [] => []
  | i, none :: L => liveFrom (i + 1) L
  | i, some e :: L => (i, e) :: liveFrom (i + 1) L
def live (L : List (Option Ent)) : List (Nat × Ent) := liveFrom 0 L
theorem liveFrom_append (A B : List (Option Ent)) : ∀ i, liveFrom i (A ++ B) = liveFrom i A ++ liveFrom (i + A.length) B := by
  induction A with
  | nil => intro i; simp [liveFrom]
  | cons o A ih =>
    intro i
    cases o <;> simp [liveFrom, ih, Nat.add_assoc, Nat.add_comm 1]

theorem liveFrom_length (L : List (Option Ent)) : ∀ i, (liveFrom i L).length ≤ L.length := by
  induction L with
  | nil => intro i; simp [liveFrom]
  | cons o L ih => intro i; cases o <;> simp [liveFrom] <;> have := ih (i + 1) <;> omega
theorem live_length (L : List (Option Ent)) : (live L).length ≤ L.length := liveFrom_length L 0
theorem drop_cons' {α : Type} {L : List α} {n : Nat} {a : α} (h : L[n]? = some a) : L.drop n = a :: L.drop (n + 1) := by
  obtain ⟨hlt, rfl⟩ := List.getElem?_eq_some_iff.1 h
  exact List.drop_eq_getElem_cons hlt
theorem live_none {M : List (Option Ent × Value)} {n : Nat} {v : Value} (h : M[n]? = some (none, v)) : liveFrom n ((M.map Prod.fst).drop n) = liveFrom (n + 1) ((M.map Prod.fst).drop (n + 1)) := by
  rw [drop_cons' (L := M.map Prod.fst) (n := n) (a := none) (by simp [h])]
  rfl
theorem live_some {M : List (Option Ent × Value)} {n : Nat} {x : Ent} {v : Value} (h : M[n]? = some (some x, v)) : liveFrom n ((M.map Prod.fst).drop n) = (n, x) :: liveFrom (n + 1) ((M.map Prod.fst).drop (n + 1)) := by
  rw [drop_cons' (L := M.map Prod.fst) (n := n) (a := some x) (by simp [h])]
  rfl

theorem liveFrom_mem {L : List (Option Ent)} : ∀ {i : Nat} {g : Nat × Ent}, g ∈ liveFrom i L → i ≤ g.1 ∧ L[g.1 - i]? = some (some g.2) := by
  induction L with
  | nil => intro i g h; cases h
  | cons o L ih =>
    intro i g h
    cases o with
    | none =>
      obtain ⟨h1, h2⟩ := ih (i := i + 1) h
      refine ⟨by omega, ?_⟩
      rw [show g.1 - i = (g.1 - (i + 1)) + 1 by omega]; simpa using h2
    | some e =>
      rcases List.mem_cons.1 h with rfl | h
      · simp
      · obtain ⟨h1, h2⟩ := ih (i := i + 1) h
        refine ⟨by omega, ?_⟩
        rw [show g.1 - i = (g.1 - (i + 1)) + 1 by omega]; simpa using h2
theorem live_mem {L : List (Option Ent)} {g : Nat × Ent} (h : g ∈ live L) : L[g.1]? = some (some g.2) := by simpa using (liveFrom_mem h).2

abbrev Given := Nat × Ent × Value
abbrev encG (g : Given) : Array Value := #[.int .u32 g.1, .agg #[.string g.2.1.key, g.2.2, .int .u64 g.2.1.dl, .int .u64 g.2.1.birth]]
def keyG (g : Given) : Nat × Ent := (g.1, g.2.1)
/-- What All promises of an element: it is the next one, its value is a slice of its own in a new block. -/
def promise (N : Nat) (L : List (Option Ent)) (pre : List Given) (x : Given) (W : World) : Prop :=
  (∃ post, live L = pre.map keyG ++ keyG x :: post) ∧ BytesAt W x.2.2 (bytesOf x.2.1.val) ∧ ∀ k, x.2.2.ownBlock = some k → N ≤ k

/-- The blocks of an iterator over a log's copy: its variable, the row, the values. -/
def iterBlocks (B : Nat) (sv : Value) (M : List (Option Ent × Value)) (k : Nat) : Prop := k = B ∨ sv.ownBlock = some k ∨ ∃ e v, (some e, v) ∈ M ∧ v.ownBlock = some k

structure IterAt (w : World) (B : Nat) (sv : Value) (M : List (Option Ent × Value)) : Prop where
  box : w.heap[B]? = some (.cells #[sv] 90 (0, 0))
  row : w.ownsRow 0 36 4 sv M.length (M.flatMap slotCells)
  vals : ∀ e v, (some e, v) ∈ M → BytesAt w v (bytesOf e.val)
  ok : LogOk (M.map Prod.fst)
theorem IterAt.keeps {w w' : World} {B : Nat} {sv : Value} {M : List (Option Ent × Value)} (h : IterAt w B sv M) (hk : KeepsIt (iterBlocks B sv M) w w') : IterAt w' B sv M := by
  refine ⟨?_, ?_, fun e v hm => ?_, h.ok⟩
  · exact (hk.2 B (.inl rfl) (lt_of_block h.box)).trans h.box
  · exact owns_heap h.row (fun g hg hlt => hk.2 g (.inr (.inl hg)) hlt)
  · exact owns_heap (h.vals e v hm) (fun g hg hlt => hk.2 g (.inr (.inr ⟨e, v, hm, hg⟩)) hlt)

theorem IterAt.slot {w : World} {B : Nat} {sv : Value} {M : List (Option Ent × Value)} (h : IterAt w B sv M) {i : Nat} {m : Option Ent × Value} (hi : M[i]? = some m) :
    ∃ g c, sv = .slice (some ⟨g, 0, none⟩) M.length c ∧ g < w.heap.size ∧ (∀ j u, (slotCells m)[j]? = some u → w.cell? ⟨g, i * 4 + j, none⟩ = some u) := by
  have hlt : i < M.length := (List.getElem?_eq_some_iff.1 hi).1
  obtain ⟨g, c, rfl, _, hg, hc, hf, _⟩ := owns_at h.row (by omega)
  refine ⟨g, c, rfl, hg, fun j u hu => hc _ _ ?_⟩
  have hj : j < 4 := by rw [← slotCells_length m]; exact (List.getElem?_eq_some_iff.1 hu).1
  rw [flat_get slotCells 4 slotCells_length j hj, hi]
  exact hu

/-- Ahead of a round of All. -/
def AllInv (J : List Given → World → Prop) (N B : Nat) (sv : Value) (M : List (Option Ent × Value)) (k : Value) (wr : World) : Prop :=
  ∃ (n : Nat) (pre : List Given), n ≤ M.length ∧ k = .int .i64 n ∧ J pre wr ∧ IterAt wr B sv M ∧ live (M.map Prod.fst) = pre.map keyG ++ liveFrom n ((M.map Prod.fst).drop n) ∧ N ≤ wr.heap.size

theorem LogRow.quiet {N : Nat} {A B : World} {D : Nat → Prop} {p : Nat} {sv : Value} {M : List (Option Ent × Value)} (h : LogRow A D p sv M) (hq : Quiet N A B) : LogRow B D p sv M :=
  ⟨hq.cells h.box, hq.owns h.row, fun e v hv => hq.owns (h.vals e v hv), h.dd, h.ok⟩
theorem promise.quiet {N N' : Nat} {L : List (Option Ent)} {pre : List Given} {x : Given} {A B : World} (h : promise N L pre x A) (hq : Quiet N' A B) : promise N L pre x B := ⟨h.1, hq.owns h.2.1, h.2.2⟩

set_option maxHeartbeats 1000000 in
theorem All_iter {w : World} {B : Nat} {sv : Value} {M : List (Option Ent × Value)} (h : IterAt w B sv M) (N : Nat) (hN : N ≤ w.heap.size) :
    IterOk Try.prog 64 #[.pointer (some ⟨B, 0, none⟩)] encG (iterBlocks B sv M) (promise N (M.map Prod.fst)) (fun xs => xs.map keyG = live (M.map Prod.fst)) w := by
  intro l J Jx W hW hJ hJx hY h0
  have hA := h.keeps (KeepsIt.of_pure hW)
  obtain ⟨a, c, rfl, _⟩ := owns_form h.row
  have hlen := h.ok.len
  rw [List.length_map] at hlen
  have hB := cell_of_row W B 0 _ _ _ hA.box
  simp at hB
  have HA := Lib.hid hA
  have HY := Lib.hid hY
  have HJ := Lib.hid hJ
  have HN : Hid (N ≤ W.heap.size) := Nat.le_trans hN hW.size
  clear hA hY hJ hJx h hW
  refine callsIn_of_wp Try.func64 rfl trivial ?_ rfl
  simp only [Try.ntmps64, List.size_toArray, List.length_cons, List.length_nil, Nat.reduceAdd, Nat.reduceSub, Array.replicate_succ, Array.replicate_zero, List.push_toArray, List.append_toArray, List.nil_append, List.cons_append]
  gi_wp2
  gi_loopw [3, 4, 7] (fun i b k wr => AllInv J N B (.slice a M.length c) M k wr)
    (fun _ _ k _ => M.length - (intOf k).toNat)
  case atStart => exact ⟨0, [], Nat.zero_le _, rfl, h0, HA.out, by simp [live], HN⟩
  case round =>
    obtain ⟨n, pre, hn, rfl, hJs, hI, hl, hNw⟩ := hrel
    by_cases hlt : n < M.length
    · have he := List.getElem?_eq_getElem hlt
      generalize M[n] = m at he
      obtain ⟨o, v⟩ := m
      obtain ⟨g, c', hsv, hg, hc⟩ := hI.slot he
      cases hsv
      have hn0 : (0 : Int) ≤ (n : Int) := by omega
      have hn1 : (n : Int) < (M.length : Int) := by omega
      have hn2 : n ≤ 4194304 := by omega
      cases o with
      | none =>
        have s0 : wr.cell? ⟨g, n * 4, none⟩ = _ := hc 0 _ rfl; have s1 := hc 1 _ rfl; have s2 := hc 2 _ rfl; have s3 := hc 3 _ rfl
        have HI := Lib.hid hI
        have HL := Lib.hid hl
        have HJS := Lib.hid hJs
        have HNW := Lib.hid hNw
        clear hc hI hl hJs hNw
        gi_wp2
        go_roundw
        case rel =>
          have hP : Pure wr (wr.alloc (.cells #[.string ⟨#[]⟩, .slice none 0 0, .int .u64 0, .int .u64 0] 36)) := (Mod.refl _ wr).alloc _
          unfold AllInv
          exact ⟨n + 1, pre, by omega, by go_num, HJ.out _ _ _ HJS.out hP, HI.out.keeps (KeepsIt.of_pure hP), by rw [HL.out, live_none he], by have := HNW.out; simp; omega⟩
        case measure => simp [intOf]; omega
      | some x =>
        have s0 : wr.cell? ⟨g, n * 4, none⟩ = _ := hc 0 _ rfl; have s1 := hc 1 _ rfl; have s2 := hc 2 _ rfl; have s3 := hc 3 _ rfl
        have hx := (hI.vals x v (List.mem_of_getElem? he)).read (bytesOf_one _)
        have hok := hI.ok.ent x (List.mem_map.2 ⟨_, List.mem_of_getElem? he, rfl⟩)
        obtain ⟨va, vn, vc, rfl, hvl, _⟩ := id hx
        have hvn : vn ≤ 140737488355328 := by have := hok.v1; rw [bytesOf_length] at hvl; omega
        have hb : (x.birth == 0) = false := by have := hok.b0; simp; omega
        have hb2 : (x.birth != 0) = true := by have := hok.b0; simp; omega
        have hP : Pure wr (wr.alloc (.cells #[.string x.key, .slice va vn vc, .int .u64 x.dl, .int .u64 x.birth] 36)) := (Mod.refl _ wr).alloc _
        have HX := Lib.hid (hx.frame hP (fun _ _ h => h))
        have HI := Lib.hid hI
        have HL := Lib.hid hl
        have HJS := Lib.hid hJs
        have HNW := Lib.hid hNw
        have HP := Lib.hid hP
        have HOK := Lib.hid hok
        clear hc hI hl hJs hNw hx hvl hP hok
        have HPR := Lib.hid (fun (w1 : World) (v' : Value) (hp : Pure wr w1) (hr : BytesAt w1 v' (bytesOf x.val)) (hf : ∀ k, v'.ownBlock = some k → N ≤ k) =>
          HY.out pre (n, x, v') w1 (HJ.out _ _ _ HJS.out hp) ⟨⟨_, by rw [HL.out, live_some he]; rfl⟩, hr, hf⟩)
        gi_wp2_with (gi_at_call 47; refine (callsIn_wide.2 (entry_Copy x.key va vn vc _ _ _ _ HX.out hvn)).mono ?_; rintro e w1 ⟨a', n', c'', rfl, hr, hfr, hp⟩; obtain ⟨fn, tmps, assign, body, hy, hR⟩ := HPR.out w1 (.slice a' n' c'') (HP.out.trans hp) (bytesAt_of hr) (fun k e => (by have := hfr k e; have := HNW.out; simp at *; omega)); dsimp only [encG] at hy; have hRR := Lib.hid hR; clear hR)
        refine hRR.out.mono ?_
        rintro e W' (⟨rfl, hJ', hk⟩ | ⟨rfl, hJx'⟩)
        · have HJ' := Lib.hid hJ'
          have HK := Lib.hid hk
          clear hJ' hk
          gi_wp2
          go_roundw
          case rel =>
            unfold AllInv
            exact ⟨n + 1, pre ++ [(n, x, .slice a' n' c'')], by omega, by go_num, HJ'.out, (HI.out.keeps (KeepsIt.of_pure (HP.out.trans hp))).keeps HK.out, by rw [HL.out, live_some he]; simp [keyG], by have := HNW.out; have := HK.out.1; have := (HP.out.trans hp).size; omega⟩
          case measure => simp [intOf]; omega
        · gi_wp2
          refine bodyPost_ret (results_none rfl _ _ _) rfl ?_
          exact ⟨⟨_, rfl⟩, .inr ⟨_, hJx'⟩⟩
    · have hend : M.length = n := by omega
      have hge : (M.length : Int) ≤ (n : Int) := by omega
      have HI := Lib.hid hI
      have HL := Lib.hid hl
      have HJS := Lib.hid hJs
      clear hI hl hJs
      have HE := Lib.hid hend
      clear hend
      gi_wp2
      go_end0
      refine ⟨⟨_, rfl⟩, .inl ⟨pre, ?_, HJS.out⟩⟩
      rw [HL.out, ← HE.out, List.drop_eq_nil_of_le (by simp)]
      simp [liveFrom]

def allPost (w : World) (M : List (Option Ent × Value)) (e : Ending) (w' : World) : Prop :=
  ∃ B a c, e = .returned (.func (.func 64) #[] #[.pointer (some ⟨B, 0, none⟩)]) ∧ IterAt w' B (.slice a M.length c) M ∧ Pure w w' ∧ w.heap.size ≤ B ∧ Fresh w (.slice a M.length c)
set_option maxHeartbeats 400000 in
theorem All_any {w : World} {D : Nat → Prop} {p : Nat} {sv : Value} {M : List (Option Ent × Value)} (h : LogRow w D p sv M) :
    Calls Try.prog 43 #[.pointer (some ⟨p, 0, none⟩)] w (allPost w M) := by
  obtain ⟨c0, c1, c2, cf⟩ := h.cells
  obtain ⟨a, c, rfl, _⟩ := owns_form h.row
  have hP : Pure w (w.alloc (.cells #[.slice none 0 0] 90)) := (Mod.refl _ w).alloc _
  have HR := Lib.hid ((h.pure hP).read)
  have HL := Lib.hid h
  have hn : M.length ≤ 4294967295 := by have := h.ok.len; rw [List.length_map] at this; omega
  have hlp : p < w.heap.size := lt_of_block h.box
  have hlp1 : p < w.heap.size + 1 := by omega
  clear h hP
  go_enter Try.func43, Try.ntmps43
  go_wp2_with (first
    | (go_at_call 49; refine Calls.mono (zero_made p true _ (by simpa [go_sem, hlp] using c0)) ?_; rintro e w' ⟨rfl, rfl⟩)
    | (go_at_call 63; refine Calls.mono (clone_entries a M.length c _ _ HR.out hn) ?_; rintro e w1 ⟨a', n', c', rfl, hr, hf, hp⟩; obtain ⟨hpc, hpf⟩ := hp.cells))
  go_ret
  obtain rfl := owns_len hr (by decide) (flat_length slotCells 4 slotCells_length M)
  have hq := hp.heap (fun h => h) (heap_new (w := w) (o := .cells #[.slice none 0 0] 90 (0, 0)) rfl)
  have hm : Mod (fun k => k = w.heap.size) w1 (w1.setCell ⟨w.heap.size, 0, none⟩ (.slice a' M.length c')) := (Mod.refl (fun k => k = w.heap.size) w1).setCell (p := ⟨w.heap.size, 0, none⟩) (fun _ => rfl) _
  have hall : Pure w (w1.setCell ⟨w.heap.size, 0, none⟩ (.slice a' M.length c')) := by
    (repeat' (first | (with_reducible exact Mod.refl _ _) | (with_reducible refine Mod.alloc ?_ _) | (with_reducible refine Mod.drew ?_) | (with_reducible refine Mod.drewN ?_ _) | (with_reducible refine Mod.setCell ?_ ?_ _) | (refine Mod.then ?_ (by with_reducible assumption) ?_)))
    (all_goals (intros; first | (exfalso; assumption) | omega | (simp at *; done) | (simp at *; omega)))
  refine ⟨w.heap.size, a', c', rfl, ⟨heap_setCell_same w1 _ 0 _ _ _ hq, owns_mod hr hm (fun g e h => ?_), fun e v hv => owns_mod (HL.out.vals e v hv) hall (fun _ _ h => h), HL.out.ok⟩, hall, Nat.le_refl _, fun g e => ?_⟩
  · have := hf g e; simp at this; omega
  · have := hf g e; simp at this; omega
end Go.Proofs.Ytapplindfijngaa

/- The contracts of the log of layer 9 on lists of entries. Conditions: the log is made (LogAt), the bounds that each theorem names. -/
namespace Go.Proofs.Ytapplindfijngaa
open Go.RowKit Go.Shelf
set_option maxRecDepth 100000

/-! ## The log's contracts in words of its entries alone -/
abbrev logPtr (p : Nat) : Value := .pointer (some ⟨p, 0, none⟩)
abbrev entV (x : Ent) (v : Value) : Value := .agg #[.string x.key, v, .int .u64 x.dl, .int .u64 x.birth]
theorem LogRow.toAt {w : World} {D : Nat → Prop} {p : Nat} {sv : Value} {M : List (Option Ent × Value)} (h : LogRow w D p sv M) : LogAt w D p (M.map Prod.fst) := ⟨sv, M, rfl, h⟩
theorem LogAt.pure {w w' : World} {D : Nat → Prop} {p : Nat} {L : List (Option Ent)} (h : LogAt w D p L) (hm : Pure w w') : LogAt w' D p L := by
  obtain ⟨sv, M, rfl, h⟩ := h
  exact (h.pure hm).toAt
theorem LogAt.lt {w : World} {D : Nat → Prop} {p : Nat} {L : List (Option Ent)} (h : LogAt w D p L) {k : Nat} (hk : D k) : k < w.heap.size := by
  obtain ⟨sv, M, rfl, h⟩ := h
  exact h.lt hk
theorem LogAt.ok {w : World} {D : Nat → Prop} {p : Nat} {L : List (Option Ent)} (h : LogAt w D p L) : LogOk L := by
  obtain ⟨sv, M, rfl, h⟩ := h
  exact h.ok
/-- A log's blocks are of two types. -/
theorem LogAt.types {w : World} {D : Nat → Prop} {p : Nat} {L : List (Option Ent)} (h : LogAt w D p L) {k : Nat} (hk : D k) {cs : Array Value} {T : TypeId} {fz : Nat × Nat} (e : w.heap[k]? = some (.cells cs T fz)) : T = 92 ∨ T = 36 := by
  obtain ⟨sv, M, rfl, h⟩ := h
  rcases (h.dd k).1 hk with rfl | e'
  · rw [h.box] at e; cases e; exact .inl rfl
  · obtain ⟨c, e2⟩ := owns_type h.row e'; rw [e2] at e; cases e; exact .inr rfl
theorem LogAt.frame {w w' : World} {D S : Nat → Prop} {p : Nat} {L : List (Option Ent)} (h : LogAt w D p L) (hm : Mod S w w') (hD : ∀ k, D k → ¬ S k) (hS : ∀ k, k < w.heap.size → S k → ∀ cs fz, w.heap[k]? ≠ some (.cells cs 5 fz)) : LogAt w' D p L := by
  obtain ⟨sv, M, rfl, h⟩ := h
  exact (h.frame hm hD hS).toAt
/-- A log behind a change of another one. -/
theorem LogAt.beside {w w' : World} {D S : Nat → Prop} {p q : Nat} {L K : List (Option Ent)} (h : LogAt w D p L) (k : LogAt w S q K) (hm : Mod S w w') (hD : ∀ k, D k → ¬ S k) : LogAt w' D p L :=
  h.frame hm hD (fun i _ hi cs fz e => by rcases k.types hi e with e | e <;> cases e)
/-- A row of another type behind a change of a log. -/
theorem LogAt.owns {w w' : World} {S : Nat → Prop} {q : Nat} {K : List (Option Ent)} (h : LogAt w S q K) (hm : Mod S w w') {T k n : Nat} {v : Value} {xs : List Value} (ho : w.ownsRow 0 T k v n xs) (h1 : T ≠ 92) (h2 : T ≠ 36) : w'.ownsRow 0 T k v n xs :=
  owns_mod ho hm (fun g hg hs => by
    obtain ⟨c, e⟩ := owns_type ho hg
    rcases h.types hs e with e | e
    · exact h1 e
    · exact h2 e)
theorem LogAt.box {w w' : World} {S : Nat → Prop} {q : Nat} {K : List (Option Ent)} (h : LogAt w S q K) (hm : Mod S w w') {b : Nat} {cs : Array Value} {T : TypeId} {fz : Nat × Nat} (hb : w.heap[b]? = some (.cells cs T fz)) (h1 : T ≠ 92) (h2 : T ≠ 36) : w'.heap[b]? = some (.cells cs T fz) :=
  hm.heap (fun hs => by rcases h.types hs hb with e | e; exact h1 e; exact h2 e) hb

def newA (w : World) (e : Ending) (w' : World) : Prop := e = .returned (logPtr w.heap.size) ∧ LogAt w' (fun k => k = w.heap.size) w.heap.size [] ∧ Pure w w' ∧ w.heap.size < w'.heap.size
theorem newA_ok (w : World) : Calls Try.prog 20 #[] w (newA w) := by
  refine Calls.mono (entrylog_New w) ?_
  rintro e w' ⟨rfl, rfl⟩
  exact ⟨rfl, (logNew_row (heap_new rfl)).toAt, (Mod.refl _ _).alloc _, by simp⟩

def appendA (w : World) (D : Nat → Prop) (p : Nat) (L : List (Option Ent)) (x : Ent) (e : Ending) (w' : World) : Prop :=
  e = .returned (.tuple #[.int .u32 L.length, .int .i64 0]) ∧ ∃ D', LogAt w' D' p (L ++ [some x]) ∧ Mod D w w' ∧ Grew D D' w
theorem appendA_ok {w : World} {D : Nat → Prop} {p : Nat} {L : List (Option Ent)} (h : LogAt w D p L) (hL : L.length < 4194304) (x : Ent) (hok : x.Ok) (a : Option Addr) (n c : Nat) (hx : ReadAt w (.slice a n c) 1 (bytesOf x.val)) :
    Calls Try.prog 25 #[logPtr p, entV x (.slice a n c)] w (appendA w D p L x) := by
  obtain ⟨sv, M, rfl, h⟩ := h
  rw [List.length_map] at hL
  refine Calls.mono (Append_ok h hL x hok a n c hx) ?_
  rintro e w' ⟨rfl, D', sv', v', h1, h2, h3⟩
  refine ⟨by rw [List.length_map], D', ?_, h2, h3⟩
  have := h1.toAt
  rw [List.map_append] at this
  exact this

def removeA (w : World) (D : Nat → Prop) (p i : Nat) (L : List (Option Ent)) (x : Ent) (e : Ending) (w' : World) : Prop :=
  ∃ a n c, e = .returned (.tuple #[entV x (.slice a n c), .int .i64 0]) ∧ BytesAt w' (.slice a n c) (bytesOf x.val) ∧ Fresh w (.slice a n c) ∧ LogAt w' D p (L.set i none) ∧ Mod D w w'
theorem removeA_ok {w : World} {D : Nat → Prop} {p : Nat} {L : List (Option Ent)} (h : LogAt w D p L) (i : Nat) (x : Ent) (hi : L[i]? = some (some x)) :
    Calls Try.prog 35 #[logPtr p, .int .u32 i] w (removeA w D p i L x) := by
  obtain ⟨sv, M, rfl, h⟩ := h
  rw [List.getElem?_map] at hi
  cases hm : M[i]? with
  | none => rw [hm] at hi; cases hi
  | some m =>
    obtain ⟨o, v⟩ := m
    rw [hm] at hi
    cases hi
    refine Calls.mono (Remove_hit h hm) ?_
    rintro e w' ⟨a, n, c, rfl, h1, h2, h3, h4⟩
    refine ⟨a, n, c, rfl, h1, h2, ?_, h4⟩
    have := h3.toAt
    rw [List.map_set] at this
    exact this

theorem lenA {w : World} {D : Nat → Prop} {p : Nat} {L : List (Option Ent)} (h : LogAt w D p L) : Calls Try.prog 41 #[logPtr p] w fun e w' => e = .returned (.int .i64 L.length) ∧ w = w' := by
  obtain ⟨sv, M, rfl, h⟩ := h
  rw [List.length_map]
  exact Len_any h
theorem liveA {w : World} {D : Nat → Prop} {p : Nat} {L : List (Option Ent)} (h : LogAt w D p L) : Calls Try.prog 42 #[logPtr p] w fun e w' => e = .returned (.int .i64 (liveOf L)) ∧ w = w' := by
  obtain ⟨sv, M, rfl, h⟩ := h
  exact Live_any h

/-! ### the key of a slot -/
def keyL (L : List (Option Ent)) (s : Nat) : ByteArray := match L[s]? with
  | some (some e) => e.key
  | _ => ⟨#[]⟩
def hasL (L : List (Option Ent)) (s : Nat) : Bool := match L[s]? with
  | some (some _) => true
  | _ => false
def noL (L : List (Option Ent)) (s : Nat) : Int := if hasL L s then 0 else 9
theorem Key_any {w : World} {D : Nat → Prop} {p : Nat} {L : List (Option Ent)} (h : LogAt w D p L) (i : Nat) (hu : i ≤ 4294967295) :
    Calls Try.prog 32 #[logPtr p, .int .u32 i] w fun e w' => e = .returned (.tuple #[.string (keyL L i), .int .i64 (noL L i)]) ∧ w = w' := by
  obtain ⟨sv, M, rfl, h⟩ := h
  cases hi : slotOf M i with
  | none =>
    have HA := Lib.hid (h.miss hu hi)
    have e1 : keyL (M.map Prod.fst) i = ⟨#[]⟩ ∧ noL (M.map Prod.fst) i = 9 := by
      unfold noL hasL keyL
      unfold slotOf at hi
      rw [List.getElem?_map]
      cases hm : M[i]? with
      | none => simp
      | some m =>
        obtain ⟨o, v⟩ := m
        rw [hm] at hi
        have : o = none := by simpa using hi
        subst this
        simp
    rw [e1.1, e1.2]
    clear e1 hi h
    go_enter Try.func32, Try.ntmps32
    go_wp2_with (go_at_call 51; refine Calls.mono (HA.out _ (Mod.refl _ _)) ?_; rintro e w' ⟨rfl, rfl⟩)
    go_ret2
    exact ⟨rfl, rfl⟩
  | some x =>
    obtain ⟨v, hm⟩ : ∃ v, M[i]? = some (some x, v) := by
      unfold slotOf at hi
      cases hm : M[i]? with
      | none => rw [hm] at hi; cases hi
      | some m =>
        obtain ⟨o, v⟩ := m
        rw [hm] at hi
        have : o = some x := by simpa using hi
        subst this
        exact ⟨v, rfl⟩
    have e1 : keyL (M.map Prod.fst) i = x.key ∧ noL (M.map Prod.fst) i = 0 := by
      unfold noL hasL keyL
      rw [List.getElem?_map, hm]
      simp
    rw [e1.1, e1.2]
    clear e1 hi
    obtain ⟨g, c, rfl, hg, ng, hlt, hn, hc, hf⟩ := h.slot hm
    obtain ⟨c0, c1, c2, cf⟩ := h.cells
    have hok := h.ok.ent x (List.mem_map.2 ⟨_, List.mem_of_getElem? hm, rfl⟩)
    have hb : (x.birth == 0) = false := by have := hok.b0; simp; omega
    have s0 : w.cell? ⟨g, i * 4, none⟩ = _ := hc 0 _ rfl; have s3 := hc 3 _ rfl
    clear h hc hok
    go_enter Try.func32, Try.ntmps32
    go_wp2_with (go_at_call 51; refine Calls.mono (at_hit p g _ c i x.birth _ c0 c1 hlt hn s3 hb) ?_; rintro e w' ⟨rfl, rfl⟩)
    go_ret2
    exact ⟨rfl, rfl⟩

def getA (w : World) (L : List (Option Ent)) (i : Nat) (e : Ending) (w' : World) : Prop :=
  match L[i]? with
  | some (some x) => ∃ a n c, e = .returned (.tuple #[.agg #[.string x.key, .slice a n c, .int .u64 x.dl, .int .u64 x.birth], .int .i64 0]) ∧ BytesAt w' (.slice a n c) (bytesOf x.val) ∧ Fresh w (.slice a n c) ∧ Pure w w'
  | _ => e = .returned (.tuple #[.agg #[.string ⟨#[]⟩, .slice none 0 0, .int .u64 0, .int .u64 0], .int .i64 9]) ∧ Pure w w'
def copyA (w : World) (L : List (Option Ent)) (e : Ending) (w' : World) : Prop :=
  ∃ q D', e = .returned (logPtr q) ∧ LogAt w' D' q L ∧ Pure w w' ∧ ∀ k, D' k → w.heap.size ≤ k
def allA (w : World) (L : List (Option Ent)) (e : Ending) (w' : World) : Prop :=
  ∃ M B a c, M.map Prod.fst = L ∧ e = .returned (.func (.func 64) #[] #[.pointer (some ⟨B, 0, none⟩)]) ∧ IterAt w' B (.slice a M.length c) M ∧ Pure w w' ∧ w.heap.size ≤ B ∧ Fresh w (.slice a M.length c)
theorem allA_ok {w : World} {D : Nat → Prop} {p : Nat} {L : List (Option Ent)} (h : LogAt w D p L) : Calls Try.prog 43 #[logPtr p] w (allA w L) := by
  obtain ⟨sv, M, rfl, h⟩ := h
  refine Calls.mono (All_any h) ?_
  rintro e w' ⟨B, a, c, h1, h2, h3, h4, h5⟩
  exact ⟨M, B, a, c, rfl, h1, h2, h3, h4, h5⟩
end Go.Proofs.Ytapplindfijngaa

/- The reference of layer 4: ValidKey, Check, Copy, Equal. Conditions: the bytes are read as cells (ReadAt), the lengths are small. -/
namespace Go.Proofs.Ytapplindfijngaa
open Go.RowKit
set_option maxRecDepth 100000

end Go.Proofs.Ytapplindfijngaa

/- compact.Log: the log of the entries and their old slot numbers. Condition: the log is made (LogRow). -/
namespace Go.Proofs.Ytapplindfijngaa
open Go.RowKit Go.Shelf
set_option maxRecDepth 100000
attribute [local go_sem] Oper.semAt_some

theorem info_u32 : (Try.prog.info? 32).map (fun i => (i.zero, i.size, i.bytes)) = some (some (.int .u32 0), 1, 4) := by kernel_rfl

/-! ### compact.Log -/
def compactPost (w : World) (L : List (Option Ent)) (e : Ending) (w' : World) : Prop :=
  ∃ q a c D sv M', e = .returned (.tuple #[.pointer (some ⟨q, 0, none⟩), .agg #[.slice a (live L).length c, .int .i64 L.length], .int .i64 0]) ∧ LogRow w' D q sv M' ∧
    M'.map Prod.fst = (live L).map (fun g => some g.2) ∧ w'.ownsRow 0 32 1 (.slice a (live L).length c) (live L).length ((live L).map fun g => .int .u32 g.1) ∧
    Pure w w' ∧ (∀ k, D k → w.heap.size ≤ k) ∧ Fresh w (.slice a (live L).length c)

/-- Above the results' boxes, and no box of ours nor block of the iterator. -/
def farC (w : World) (b5 b6 : Nat) (It : Nat → Prop) (k : Nat) : Prop := w.heap.size + 1 + 1 < k ∧ k ≠ b5 ∧ k ≠ b6 ∧ ¬ It k
end Go.Proofs.Ytapplindfijngaa

/- slices.BinarySearch of uint32, Moves.To, From, Len and the law's to, from, lens. Conditions: an owned row of rising numbers. -/
namespace Go.Proofs.Ytapplindfijngaa
open Go.RowKit Go.Shelf
set_option maxRecDepth 100000

/-! ### cmp.Less, slices.BinarySearch -/
/-- Strictly rising numbers below 2^32, not too many. -/
structure Rising (xs : List Nat) : Prop where
  up : xs.Pairwise (· < ·)
  lt : ∀ x ∈ xs, x ≤ 4294967295
  len : xs.length ≤ 4194304
def u32s (xs : List Nat) : List Value := xs.map (fun x : Nat => (.int .u32 x : Value))
/-- How many are below o. -/
def below (xs : List Nat) (o : Nat) : Nat := xs.countP (decide <| · < o)

theorem below_of {xs : List Nat} (h : xs.Pairwise (· < ·)) {o i : Nat} (hi : i ≤ xs.length) (h1 : ∀ k x, k < i → xs[k]? = some x → x < o) (h2 : ∀ k x, i ≤ k → xs[k]? = some x → o ≤ x) : below xs o = i := by
  unfold below
  rw [← List.take_append_drop i xs, List.countP_append]
  have e1 : (xs.take i).countP (decide <| · < o) = i := by
    rw [List.countP_eq_length.2, List.length_take]
    · omega
    · intro x hx
      obtain ⟨k, hk, rfl⟩ := List.mem_iff_getElem.1 hx
      simp at hk
      simpa using h1 k _ (by omega) (by simp [List.getElem?_eq_getElem (show k < xs.length by omega)])
  have e2 : (xs.drop i).countP (decide <| · < o) = 0 := by
    rw [List.countP_eq_zero]
    intro x hx
    obtain ⟨k, hk, rfl⟩ := List.mem_iff_getElem.1 hx
    simp at hk
    have := h2 (i + k) _ (by omega) (List.getElem?_eq_getElem (by omega))
    simp
    omega
  omega
theorem rising_lt {xs : List Nat} (h : xs.Pairwise (· < ·)) {i j x y : Nat} (hij : i < j) (hx : xs[i]? = some x) (hy : xs[j]? = some y) : x < y := by
  obtain ⟨h1, rfl⟩ := List.getElem?_eq_some_iff.1 hx
  obtain ⟨h2, rfl⟩ := List.getElem?_eq_some_iff.1 hy
  exact List.pairwise_iff_getElem.1 h _ _ h1 h2 hij
theorem rising_mem {xs : List Nat} {o i : Nat} (hi : i ≤ xs.length) (h1 : ∀ k x, k < i → xs[k]? = some x → x < o) (h2 : ∀ k x, i ≤ k → xs[k]? = some x → o ≤ x) (h : xs.Pairwise (· < ·)) : o ∈ xs ↔ xs[i]? = some o := by
  refine ⟨fun hm => ?_, fun e => List.mem_of_getElem? e⟩
  obtain ⟨k, hk, rfl⟩ := List.mem_iff_getElem.1 hm
  have e := List.getElem?_eq_getElem hk
  by_cases hki : k < i
  · have := h1 k _ hki e; omega
  · by_cases hik : i < k
    · have hi2 : i < xs.length := by omega
      have := rising_lt h hik (List.getElem?_eq_getElem hi2) e
      have := h2 i _ (Nat.le_refl _) (List.getElem?_eq_getElem hi2)
      omega
    · obtain rfl : i = k := by omega
      exact e

def SearchInv (w : World) (xs : List Nat) (o : Nat) (i j : Value) (wr : World) : Prop :=
  ∃ a b : Nat, a ≤ b ∧ b ≤ xs.length ∧ i = .int .i64 a ∧ j = .int .i64 b ∧ wr = w ∧ (∀ k x, k < a → xs[k]? = some x → x < o) ∧ (∀ k x, b ≤ k → xs[k]? = some x → o ≤ x)

/-! ### Moves -/
abbrev U32Row (w : World) (a : Option Addr) (c : Nat) (xs : List Nat) : Prop := w.ownsRow 0 32 1 (.slice a xs.length c) xs.length (u32s xs)
def toM (xs : List Nat) (o : Nat) : Nat × Nat := if o ∈ xs then (below xs o, 0) else (0, 9)
def fromM (xs : List Nat) (s : Nat) : Nat × Nat := if s < xs.length then (xs.getD s 0, 0) else (0, 9)
theorem below_le (xs : List Nat) (o : Nat) : below xs o ≤ xs.length := List.countP_le_length

end Go.Proofs.Ytapplindfijngaa
