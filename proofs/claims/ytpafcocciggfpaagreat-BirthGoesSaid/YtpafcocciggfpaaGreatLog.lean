/- Log.New, Append, Get, Len, Live, Copy. Condition: the log is made (LogRow), and the bounds that each theorem names. -/
import Derived.Test.YtpafcocciggfpaaGreatEntry
namespace Go.Proofs.YtpafcocciggfpaaGreat
open Go.RowKit
set_option maxRecDepth 100000

theorem info_Entry : (Tryz.prog.info? 42).map (fun i => (i.zero, i.size, i.bytes)) = some (some (.agg #[.string ⟨#[]⟩, .slice none 0 0, .int .u64 0, .int .u64 0]), 4, 56) := by kernel_rfl

/-! ### entrylog: what a log is in memory -/
/-- The cells of a slot (none: a tombstone), its value being the slice v. -/
def slotCells : Option Ent × Value → List Value
  | (some e, v) => [.string e.key, v, .int .u64 e.dl, .int .u64 e.birth]
  | (none, _) => [.string ⟨#[]⟩, .slice none 0 0, .int .u64 0, .int .u64 0]
def liveOf (L : List (Option Ent)) : Nat := L.countP Option.isSome
/-- A valid entry. -/
structure Ent.Ok (e : Ent) : Prop where
  k0 : 0 < e.key.size
  k1 : e.key.size ≤ 250
  v1 : e.val.length ≤ 65536
  b0 : 0 < e.birth
structure LogOk (L : List (Option Ent)) : Prop where
  len : L.length ≤ 4194304
  ent : ∀ e, some e ∈ L → e.Ok

/-- Block p is a log whose slots are M (each with its value's slice); D are the blocks that it writes. -/
structure LogRow (w : World) (D : Nat → Prop) (p : Nat) (sv : Value) (M : List (Option Ent × Value)) : Prop where
  box : w.heap[p]? = some (.cells #[.bool true, sv, .int .i64 (liveOf (M.map Prod.fst))] 92 (0, 0))
  row : w.ownsRow 0 42 4 sv M.length (M.flatMap slotCells)
  vals : ∀ e v, (some e, v) ∈ M → BytesAt w v (bytesOf e.val)
  dd : ∀ k, D k ↔ (k = p ∨ sv.ownBlock = some k)
  ok : LogOk (M.map Prod.fst)
def LogAt (w : World) (D : Nat → Prop) (p : Nat) (L : List (Option Ent)) : Prop := ∃ sv M, M.map Prod.fst = L ∧ LogRow w D p sv M

section
variable {w w' : World} {D S : Nat → Prop} {p : Nat} {sv : Value} {M : List (Option Ent × Value)}
theorem LogRow.np (h : LogRow w D p sv M) {g : Nat} (hg : sv.ownBlock = some g) : g ≠ p := by
  rintro rfl
  obtain ⟨c, e⟩ := owns_type h.row hg
  rw [h.box] at e
  cases e
theorem LogRow.lt (h : LogRow w D p sv M) {k : Nat} (hk : D k) : k < w.heap.size := by
  rcases (h.dd k).1 hk with rfl | e
  · exact lt_of_block h.box
  · exact owns_lt h.row e
/-- The blocks that a log writes are no bytes. -/
theorem LogRow.nobytes (h : LogRow w D p sv M) {k : Nat} (hk : D k) (cs : Array Value) (fz : Nat × Nat) : w.heap[k]? ≠ some (.cells cs 5 fz) := by
  intro e
  rcases (h.dd k).1 hk with rfl | e'
  · rw [h.box] at e; cases e
  · obtain ⟨c, e2⟩ := owns_type h.row e'
    rw [e2] at e; cases e
theorem bytes_frame {v : Value} {xs : List Value} (h : BytesAt w v xs) (hm : Mod S w w') (hS : ∀ k, k < w.heap.size → S k → ∀ cs fz, w.heap[k]? ≠ some (.cells cs 5 fz)) : BytesAt w' v xs :=
  owns_mod h hm (fun g hg hs => by obtain ⟨c, e⟩ := owns_type h hg; exact hS g (lt_of_block e) hs _ _ e)
theorem LogRow.frame (h : LogRow w D p sv M) (hm : Mod S w w') (hD : ∀ k, D k → ¬ S k) (hS : ∀ k, k < w.heap.size → S k → ∀ cs fz, w.heap[k]? ≠ some (.cells cs 5 fz)) : LogRow w' D p sv M :=
  ⟨hm.heap (hD p ((h.dd p).2 (.inl rfl))) h.box, owns_mod h.row hm (fun g hg => hD g ((h.dd g).2 (.inr hg))), fun e v hv => bytes_frame (h.vals e v hv) hm hS, h.dd, h.ok⟩
theorem LogRow.pure (h : LogRow w D p sv M) (hm : Pure w w') : LogRow w' D p sv M := h.frame hm (fun _ _ h => h) (fun _ _ h => h.elim)
end

theorem entrylog_New (w : World) : Calls Tryz.prog 24 #[] w fun e w' => e = .returned (.pointer (some ⟨w.heap.size, 0, none⟩)) ∧ w.alloc (.cells #[.bool true, .slice none 0 0, .int .i64 0] 92) = w' := by
  go_enter Tryz.func24, Tryz.ntmps24
  go_wp2
  go_ret
  exact ⟨rfl, rfl⟩

theorem zero_nil (w : World) : Calls Tryz.prog 86 #[.pointer none] w fun e w' => e = .returned (.bool true) ∧ w = w' := by
  go_enter Tryz.func86, Tryz.ntmps86
  go_wp2
  go_ret
  exact ⟨rfl, rfl⟩
theorem zero_made (p : Nat) (b : Bool) (w : World) (h : w.cell? ⟨p, 0, none⟩ = some (.bool b)) : Calls Tryz.prog 86 #[.pointer (some ⟨p, 0, none⟩)] w fun e w' => e = .returned (.bool (!b)) ∧ w = w' := by
  go_enter Tryz.func86, Tryz.ntmps86
  go_wp2
  go_ret
  exact ⟨rfl, rfl⟩

/-! ### at -/
theorem at_hit (p g n c i : Nat) (b : Int) (w : World) (h0 : w.cell? ⟨p, 0, none⟩ = some (.bool true)) (h1 : w.cell? ⟨p, 1, none⟩ = some (.slice (some ⟨g, 0, none⟩) n c)) (hi : i < n) (hn : n ≤ 4194304)
    (h3 : w.cell? ⟨g, i * 4 + 3, none⟩ = some (.int .u64 b)) (hb : (b == 0) = false) :
    Calls Tryz.prog 89 #[.pointer (some ⟨p, 0, none⟩), .int .u32 i] w fun e w' => e = .returned (.tuple #[.pointer (some ⟨g, i * 4, none⟩), .int .i64 0]) ∧ w = w' := by
  have hi0 : (0 : Int) ≤ i := by omega
  have hi1 : (i : Int) < n := by omega
  go_enter Tryz.func89, Tryz.ntmps89
  go_wp2_with (go_at_call 86; refine Calls.mono (zero_made p true _ h0) ?_; rintro e w' ⟨rfl, rfl⟩)
  go_ret2
  exact ⟨rfl, rfl⟩

theorem at_tomb (p g n c i : Nat) (w : World) (h0 : w.cell? ⟨p, 0, none⟩ = some (.bool true)) (h1 : w.cell? ⟨p, 1, none⟩ = some (.slice (some ⟨g, 0, none⟩) n c)) (hi : i < n) (hn : n ≤ 4194304)
    (h3 : w.cell? ⟨g, i * 4 + 3, none⟩ = some (.int .u64 0)) :
    Calls Tryz.prog 89 #[.pointer (some ⟨p, 0, none⟩), .int .u32 i] w fun e w' => e = .returned (.tuple #[.pointer none, .int .i64 9]) ∧ w = w' := by
  have hi0 : (0 : Int) ≤ i := by omega
  have hi1 : (i : Int) < n := by omega
  go_enter Tryz.func89, Tryz.ntmps89
  go_wp2_with (go_at_call 86; refine Calls.mono (zero_made p true _ h0) ?_; rintro e w' ⟨rfl, rfl⟩)
  go_ret2
  exact ⟨rfl, rfl⟩

theorem at_out (p n c i : Nat) (a : Option Addr) (w : World) (h0 : w.cell? ⟨p, 0, none⟩ = some (.bool true)) (h1 : w.cell? ⟨p, 1, none⟩ = some (.slice a n c)) (hi : n ≤ i) (hu : i ≤ 4294967295) :
    Calls Tryz.prog 89 #[.pointer (some ⟨p, 0, none⟩), .int .u32 i] w fun e w' => e = .returned (.tuple #[.pointer none, .int .i64 9]) ∧ w = w' := by
  have hi1 : (n : Int) ≤ i := by omega
  go_enter Tryz.func89, Tryz.ntmps89
  go_wp2_with (go_at_call 86; refine Calls.mono (zero_made p true _ h0) ?_; rintro e w' ⟨rfl, rfl⟩)
  go_ret2
  exact ⟨rfl, rfl⟩

/-! ### what is known of a log's cells -/
theorem slotCells_length (m : Option Ent × Value) : (slotCells m).length = 4 := by
  obtain ⟨o, v⟩ := m
  cases o <;> rfl

theorem LogRow.cells {w : World} {D : Nat → Prop} {p : Nat} {sv : Value} {M : List (Option Ent × Value)} (h : LogRow w D p sv M) :
    w.cell? ⟨p, 0, none⟩ = some (.bool true) ∧ w.cell? ⟨p, 1, none⟩ = some sv ∧ w.cell? ⟨p, 2, none⟩ = some (.int .i64 (liveOf (M.map Prod.fst))) ∧ (∀ j, w.frozen? ⟨p, j, none⟩ = false) := by
  have := h.box
  exact ⟨by simp [cell_of_row w p _ _ _ _ this], by simp [cell_of_row w p _ _ _ _ this], by simp [cell_of_row w p _ _ _ _ this], fun j => frozen_of_row w p j _ _ this⟩

theorem LogRow.slot {w : World} {D : Nat → Prop} {p : Nat} {sv : Value} {M : List (Option Ent × Value)} (h : LogRow w D p sv M) {i : Nat} {m : Option Ent × Value} (hi : M[i]? = some m) :
    ∃ g c, sv = .slice (some ⟨g, 0, none⟩) M.length c ∧ g < w.heap.size ∧ g ≠ p ∧ i < M.length ∧ M.length ≤ 4194304 ∧ (∀ j u, (slotCells m)[j]? = some u → w.cell? ⟨g, i * 4 + j, none⟩ = some u) ∧ ∀ j, w.frozen? ⟨g, j, none⟩ = false := by
  have hlt : i < M.length := (List.getElem?_eq_some_iff.1 hi).1
  obtain ⟨g, c, rfl, _, hg, hc, hf, _⟩ := owns_at h.row (by omega)
  have ng := h.np (g := g) rfl
  have hlen := h.ok.len
  rw [List.length_map] at hlen
  refine ⟨g, c, rfl, hg, ng, hlt, hlen, fun j u hu => hc _ _ ?_, hf⟩
  have hj : j < 4 := by rw [← slotCells_length m]; exact (List.getElem?_eq_some_iff.1 hu).1
  rw [flat_get slotCells 4 slotCells_length j hj, hi]
  exact hu

/-! ### Get -/
def getPost (o : Option Ent) (w : World) (e : Ending) (w' : World) : Prop :=
  match o with
  | some x => ∃ a n c, e = .returned (.tuple #[.agg #[.string x.key, .slice a n c, .int .u64 x.dl, .int .u64 x.birth], .int .i64 0]) ∧ BytesAt w' (.slice a n c) (bytesOf x.val) ∧ Fresh w (.slice a n c) ∧ Pure w w'
  | none => e = .returned (.tuple #[.agg #[.string ⟨#[]⟩, .slice none 0 0, .int .u64 0, .int .u64 0], .int .i64 9]) ∧ Pure w w'

/-- What slot i holds. -/
def slotOf (M : List (Option Ent × Value)) (i : Nat) : Option Ent := (M[i]?).bind Prod.fst

set_option maxHeartbeats 400000 in
theorem Get_hit {w : World} {D : Nat → Prop} {p : Nat} {sv : Value} {M : List (Option Ent × Value)} (h : LogRow w D p sv M) {i : Nat} {x : Ent} {v : Value} (hi : M[i]? = some (some x, v)) :
    Calls Tryz.prog 99 #[.pointer (some ⟨p, 0, none⟩), .int .u32 i] w (getPost (some x) w) := by
  obtain ⟨g, c, rfl, hg, ng, hlt, hn, hc, hf⟩ := h.slot hi
  obtain ⟨c0, c1, c2, cf⟩ := h.cells
  have hx := (h.vals x v (List.mem_of_getElem? hi)).read (bytesOf_one _)
  have hok := h.ok.ent x (List.mem_map.2 ⟨_, List.mem_of_getElem? hi, rfl⟩)
  have s0 : w.cell? ⟨g, i * 4, none⟩ = _ := hc 0 _ rfl; have s1 := hc 1 _ rfl; have s2 := hc 2 _ rfl; have s3 := hc 3 _ rfl
  have hlp : p < w.heap.size := World.block_lt_of_cell? w _ c0
  have hb : (x.birth == 0) = false := by have := hok.b0; simp; omega
  obtain ⟨a, n, cc, rfl, hl, _⟩ := id hx
  have hn' : n ≤ 140737488355328 := by have := hok.v1; rw [bytesOf_length] at hl; omega
  have H := Lib.hid (hx.frame ((Mod.refl (fun _ => False) w).alloc (.cells #[.string ByteArray.empty, .slice none 0 0, .int .u64 0, .int .u64 0] 42)) (fun _ _ h => h))
  have HL := Lib.hid h
  clear h hx hc hl
  have hlp1 : p < w.heap.size + 1 := by omega
  have hg1 : g < w.heap.size + 1 := by omega
  go_enter Tryz.func99, Tryz.ntmps99
  go_wp2_with (first | (go_at_call 89; refine Calls.mono (at_hit p g _ c i x.birth _ (by simpa [go_sem, hlp] using c0) (by simpa [go_sem, hlp] using c1) hlt hn (by simpa [go_sem, hg] using s3) hb) ?_; rintro e w' ⟨rfl, rfl⟩) | (go_at_call 90; refine Calls.mono (entry_Copy x.key a n cc _ _ _ _ H.out hn') ?_; rintro e w1 ⟨a', n', c', rfl, hr, hf, hp⟩; obtain ⟨hpc, hpf⟩ := hp.cells))
  refine bodyPost_ret (v := .tuple #[.agg #[.string x.key, .slice a' n' c', .int .u64 x.dl, .int .u64 x.birth], .int .i64 0]) (by simp [results, Tryz.results99, go_sem, hpc, hpf]) rfl ⟨a', n', c', rfl, ?_, ?_, ?_⟩
  · refine owns_mod (bytesAt_of hr) (S := fun k => k = w.heap.size) ?_ (fun g e h => by have := hf g e; simp at this; omega)
    (repeat' (first | (with_reducible exact Mod.refl _ _) | (with_reducible refine Mod.alloc ?_ _) | (with_reducible refine Mod.drew ?_) | (with_reducible refine Mod.drewN ?_ _) | (with_reducible refine Mod.setCell ?_ ?_ _) | (refine Mod.then ?_ (by with_reducible assumption) ?_)))
    (all_goals (intros; first | (exfalso; assumption) | omega | (simp at *; done) | (simp at *; omega)))
  · intro g e
    have := hf g e
    simp at this
    omega
  · (repeat' (first | (with_reducible exact Mod.refl _ _) | (with_reducible refine Mod.alloc ?_ _) | (with_reducible refine Mod.drew ?_) | (with_reducible refine Mod.drewN ?_ _) | (with_reducible refine Mod.setCell ?_ ?_ _) | (refine Mod.then ?_ (by with_reducible assumption) ?_)))
    (all_goals (intros; first | (exfalso; assumption) | omega | (simp at *; done) | (simp at *; omega)))

/-! ### Append -/
def Grew (D D' : Nat → Prop) (w : World) : Prop := ∀ k, D' k → D k ∨ w.heap.size ≤ k
def appendPost (w : World) (D : Nat → Prop) (p : Nat) (M : List (Option Ent × Value)) (x : Ent) (e : Ending) (w' : World) : Prop :=
  e = .returned (.tuple #[.int .u32 M.length, .int .i64 0]) ∧ ∃ D' sv' v', LogRow w' D' p sv' (M ++ [(some x, v')]) ∧ Mod D w w' ∧ Grew D D' w

theorem liveOf_le (L : List (Option Ent)) : liveOf L ≤ L.length := List.countP_le_length

theorem append_end {w W Wg w2 : World} {D : Nat → Prop} {p : Nat} {sv sv2 v : Value} {M : List (Option Ent × Value)} {x : Ent} (HL : LogRow w D p sv M) (hL : M.length < 4194304) (HO : x.Ok) (HP : Pure w W) (HG : Pure W Wg)
    (hgrow : Wg.grownBy w2 sv.ownBlock) (hown : w2.ownsRow 0 42 4 sv2 (M.length + 1) (M.flatMap slotCells ++ [.string x.key, v, .int .u64 x.dl, .int .u64 x.birth]))
    (hat : sv2.ownBlock = sv.ownBlock ∨ sv2.ownBlock = some Wg.heap.size) (hrd : BytesAt W v (bytesOf x.val)) :
    ∃ D' sv' v', LogRow ((w2.setCell ⟨p, 1, none⟩ sv2).setCell ⟨p, 2, none⟩ (.int .i64 ((liveOf (M.map Prod.fst) : Int) + 1))) D' p sv' (M ++ [(some x, v')]) ∧
      Mod D w ((w2.setCell ⟨p, 1, none⟩ sv2).setCell ⟨p, 2, none⟩ (.int .i64 ((liveOf (M.map Prod.fst) : Int) + 1))) ∧ Grew D D' w := by
  have hlp : p < w.heap.size := lt_of_block HL.box
  have hWp := HP.then HG (fun _ _ h => h)
  have sz1 := hWp.size
  have HLg := HL.pure hWp
  have hb2 : w2.heap[p]? = some (.cells #[.bool true, sv, .int .i64 (liveOf (M.map Prod.fst))] 92 (0, 0)) := by
    rw [hgrow.block p (by omega) (fun e => HL.np e.symm rfl)]
    exact HLg.box
  have hbox : ((w2.setCell ⟨p, 1, none⟩ sv2).setCell ⟨p, 2, none⟩ (.int .i64 ((liveOf (M.map Prod.fst) : Int) + 1))).heap[p]? = some (.cells #[.bool true, sv2, .int .i64 ((liveOf (M.map Prod.fst) : Int) + 1)] 92 (0, 0)) := by
    have h1 := heap_setCell_same w2 p 1 _ _ sv2 hb2
    exact heap_setCell_same _ p 2 _ _ (.int .i64 ((liveOf (M.map Prod.fst) : Int) + 1)) h1
  have hset : Mod (fun k => k = p) w2 ((w2.setCell ⟨p, 1, none⟩ sv2).setCell ⟨p, 2, none⟩ (.int .i64 ((liveOf (M.map Prod.fst) : Int) + 1))) :=
    ((Mod.refl (fun k => k = p) w2).setCell (p := ⟨p, 1, none⟩) (fun _ => rfl) _).setCell (p := ⟨p, 2, none⟩) (fun _ => rfl) _
  have hall : Mod D Wg ((w2.setCell ⟨p, 1, none⟩ sv2).setCell ⟨p, 2, none⟩ (.int .i64 ((liveOf (M.map Prod.fst) : Int) + 1))) :=
    (Mod.of_grown hgrow (S := D) (fun k e _ => (HL.dd k).2 (.inr e))).trans' hset (fun _ _ h => h) (fun i _ h => (HL.dd i).2 (.inl h))
  have hnb := fun k (_ : k < Wg.heap.size) (hk : D k) cs fz => HLg.nobytes hk cs fz
  have hnp2 : ∀ g, sv2.ownBlock = some g → g ≠ p := fun g e => by
    rcases hat with h | h
    · exact HL.np (h ▸ e)
    · rw [h] at e; cases e; omega
  refine ⟨fun k => k = p ∨ sv2.ownBlock = some k, sv2, v, ⟨?_, ?_, ?_, fun _ => Iff.rfl, ?_⟩, ?_, ?_⟩
  · rw [hbox]
    simp [liveOf]
  · have := owns_mod hown hset (fun g e h => hnp2 g e h)
    simpa [slotCells] using this
  · intro e u hm
    rw [List.mem_append] at hm
    rcases hm with hm | hm
    · exact bytes_frame (HLg.vals e u hm) hall hnb
    · simp at hm
      obtain ⟨rfl, rfl⟩ := hm
      exact bytes_frame (owns_mod hrd HG (fun _ _ h => h)) hall hnb
  · refine ⟨by simp; omega, fun e he => ?_⟩
    simp at he
    rcases he with he | he
    · exact HL.ok.ent e (by simpa using he)
    · subst he; exact HO
  · exact hWp.trans' hall (fun _ _ h => h.elim) (fun _ _ h => h)
  · rintro k (h | h)
    · exact .inl ((HL.dd k).2 (.inl h))
    · rcases hat with h' | h'
      · exact .inl ((HL.dd k).2 (.inr (h' ▸ h)))
      · rw [h'] at h; cases h; exact .inr sz1

set_option maxHeartbeats 800000 in
theorem Append_ok {w : World} {D : Nat → Prop} {p : Nat} {sv : Value} {M : List (Option Ent × Value)} (h : LogRow w D p sv M) (hL : M.length < 4194304) (x : Ent) (hok : x.Ok) (a : Option Addr) (n c : Nat)
    (hx : ReadAt w (.slice a n c) 1 (bytesOf x.val)) :
    Calls Tryz.prog 25 #[.pointer (some ⟨p, 0, none⟩), .agg #[.string x.key, .slice a n c, .int .u64 x.dl, .int .u64 x.birth]] w (appendPost w D p M x) := by
  obtain ⟨sa, sc, rfl, _⟩ := owns_form h.row
  obtain ⟨c0, c1, c2, cf⟩ := h.cells
  have hlp : p < w.heap.size := World.block_lt_of_cell? w _ c0
  have hb : (x.birth == 0) = false := by have := hok.b0; simp; omega
  have hn : n ≤ 65536 := by have := read_length hx; rw [bytesOf_length] at this; have := hok.v1; omega
  obtain ⟨i0, hi, iz0, iz1, iz2⟩ := info_parts info_Entry
  have ng : ∀ g, (Value.slice sa M.length sc).ownBlock = some g → g ≠ p ∧ g < w.heap.size := fun g e => ⟨h.np e, owns_lt h.row e⟩
  have NG := Lib.hid ng
  clear ng
  have H := Lib.hid hx
  have HL := Lib.hid h
  have HO := Lib.hid hok
  have hd : decide ((4194304 : Int) ≤ (M.length : Int)) = false := by simp; omega
  have HLL := Lib.hid hL
  clear h hx hok hL
  have hlp1 : p < w.heap.size + 1 := by omega
  go_enter Tryz.func25, Tryz.ntmps25
  go_upto_region 8 with (first
    | (go_at_call 86; refine Calls.mono (zero_made p true _ (by simpa [go_sem, hlp] using c0)) ?_; rintro e w' ⟨rfl, rfl⟩)
    | (go_at_call 65; go_must (refine Calls.mono (entry_New_ok x.key a n c _ _ (bytesOf x.val) _ (H.out.frame (S := fun _ => False) (by (repeat' (first | (with_reducible exact Mod.refl _ _) | (with_reducible refine Mod.alloc ?_ _) | (with_reducible refine Mod.drew ?_) | (with_reducible refine Mod.drewN ?_ _) | (with_reducible refine Mod.setCell ?_ ?_ _) | (refine Mod.then ?_ (by with_reducible assumption) ?_))) <;> (all_goals (intros; first | (exfalso; assumption) | omega | (simp at *; done) | (simp at *; omega)))) (fun _ _ h => h)) hn HO.out.k0 HO.out.k1 hb) ?_); rintro e w1 ⟨a', n', c', rfl, hr, hf, hp⟩; obtain ⟨hpc, hpf⟩ := hp.cells; have hz : w.heap.size < w1.heap.size := (by have := hp.size; simp at this; omega); have hz2 : p < w1.heap.size := (by omega)))
  have HP : Pure w (w1.alloc (.cells #[.string x.key, .slice a' n' c', .int .u64 x.dl, .int .u64 x.birth] 42)) := by
    (repeat' (first | (with_reducible exact Mod.refl _ _) | (with_reducible refine Mod.alloc ?_ _) | (with_reducible refine Mod.drew ?_) | (with_reducible refine Mod.drewN ?_ _) | (with_reducible refine Mod.setCell ?_ ?_ _) | (refine Mod.then ?_ (by with_reducible assumption) ?_)))
    (all_goals (intros; first | (exfalso; assumption) | omega | (simp at *; done) | (simp at *; omega)))
  have hB : w.heap.size ≤ w1.heap.size ∧ (w1.alloc (.cells #[.string x.key, .slice a' n' c', .int .u64 x.dl, .int .u64 x.birth] 42)).heap[w1.heap.size]? = some (.cells #[.string x.key, .slice a' n' c', .int .u64 x.dl, .int .u64 x.birth] 42 (0, 0)) := ⟨by omega, heap_new rfl⟩
  have HRD : BytesAt (w1.alloc (.cells #[.string x.key, .slice a' n' c', .int .u64 x.dl, .int .u64 x.birth] 42)) (.slice a' n' c') (bytesOf x.val) := owns_mod (bytesAt_of hr) ((Mod.refl (fun _ => False) w1).alloc _) (fun _ _ h => h)
  have hfr : ∀ g, (Value.slice a' n' c').ownBlock = some g → w.heap.size < g := fun g e => by have := hf g e; simp at this; omega
  generalize hW : w1.alloc (.cells #[.string x.key, .slice a' n' c', .int .u64 x.dl, .int .u64 x.birth] 42) = W at HP hB HRD ⊢
  generalize w1.heap.size = B at hB ⊢
  clear hW hpc hpf hz hz2 hp hr hf hlp1
  have HROW := Lib.hid (owns_mod HL.out.row HP (fun _ _ h => h))
  have e1 := HP.cell (fun h => h) c1
  have e2 := HP.cell (fun h => h) c2
  have ef : ∀ j, W.frozen? ⟨p, j, none⟩ = false := fun j => (World.frozen?_of_block (w := w) (a := ⟨p, j, none⟩) (HP.block p hlp (fun h => h))).trans (cf j)
  have lp : p < W.heap.size := HP.lt hlp
  have b0 := cell_of_row W B 0 _ _ _ hB.2
  have b1 := cell_of_row W B 1 _ _ _ hB.2
  have b2 := cell_of_row W B 2 _ _ _ hB.2
  have b3 := cell_of_row W B 3 _ _ _ hB.2
  simp at b0 b1 b2 b3
  have lB : B < W.heap.size := lt_of_block hB.2
  have np : Hid (some p ≠ (Value.slice sa M.length sc).ownBlock) := fun e => (NG.out p e.symm).1 rfl
  have nb : Hid (some B ≠ (Value.slice sa M.length sc).ownBlock) := fun e => by have := (NG.out _ e.symm).2; omega
  have HHB := Lib.hid hB
  have HHP := Lib.hid HP
  have HH1 := Lib.hid HRD
  have HH2 := Lib.hid hfr
  clear hB HP HRD hfr
  generalize hlv : (liveOf (M.map Prod.fst)) = lv at e2 ⊢
  have hlv2 : lv ≤ 4194304 := by have := liveOf_le (M.map Prod.fst); rw [List.length_map] at this; have := HLL.out; omega
  have HLV := Lib.hid hlv
  clear hlv c0 c1 c2 cf
  go_region_law ((refine step_append_read _ (by rfl) _ _ 29 (by rfl) 42 i0 _ 4 56 Tryz.underlying29 hi iz0 iz1 iz2 rfl (by decide) (.slice sa M.length sc) M.length _ (by rfl) ((HROW.out.alloc _).drew) _ [.string x.key, .slice a' n' c', .int .u64 x.dl, .int .u64 x.birth] 1 (by rfl) (ReadAt.of_block 1 1 4 (heap_new (by simp)) (by rfl) (by simp [Value.oneCell'])) (by rfl) (by unfold maxLen; have := HLL.out; omega) (by have := HLL.out; omega) ?_; intro a2 cc2 w2 hown2 hgrow2 hat2; have f2 : ∀ j, w2.frozen? ⟨p, j, none⟩ = false := (fun j => (hgrow2.frozen_far ⟨p, j, none⟩ (by simp; omega) np.out).trans ((World.frozen?_alloc_past _ _ _ lp).trans (ef j))); have f3 := (hgrow2.cell (a := ⟨p, 1, none⟩) (v := .slice sa M.length sc) (by simp [*, World.cell?_alloc_some, World.cell?_setCell_far, go_sem]) np.out); have f4 := (hgrow2.cell (a := ⟨p, 2, none⟩) (v := .int .i64 lv) (by simp [*, World.cell?_alloc_some, World.cell?_setCell_far, go_sem]) np.out)))
  all_goals
    go_wp2
    go_ret2
    refine ⟨by simp; exact u32_nat _ (by have := HLL.out; omega), ?_⟩
    rw [← HLV.out]
    exact append_end HL.out HLL.out HO.out HHP.out (by (repeat' (first | (with_reducible exact Mod.refl _ _) | (with_reducible refine Mod.alloc ?_ _) | (with_reducible refine Mod.drew ?_) | (with_reducible refine Mod.drewN ?_ _) | (with_reducible refine Mod.setCell ?_ ?_ _) | (refine Mod.then ?_ (by with_reducible assumption) ?_))) <;> (all_goals (intros; first | (exfalso; assumption) | omega | (simp at *; done) | (simp at *; omega)))) hgrow2 hown2 (by simpa using hat2) HH1.out

/-! ### Get of a slot that has no entry; Len, Live -/
/-- The slot has no entry, in the walk's words. -/
theorem LogRow.miss {w : World} {D : Nat → Prop} {p : Nat} {sv : Value} {M : List (Option Ent × Value)} (h : LogRow w D p sv M) {i : Nat} (hu : i ≤ 4294967295) (hi : slotOf M i = none) :
    ∀ W, Pure w W → Calls Tryz.prog 89 #[.pointer (some ⟨p, 0, none⟩), .int .u32 i] W fun e w' => e = .returned (.tuple #[.pointer none, .int .i64 9]) ∧ W = w' := by
  intro W hW
  have h := h.pure hW
  obtain ⟨c0, c1, c2, cf⟩ := h.cells
  by_cases hlt : i < M.length
  · have he := List.getElem?_eq_getElem hlt
    generalize M[i] = m at he
    obtain ⟨o, v⟩ := m
    have ho : o = none := by simpa [slotOf, he] using hi
    subst ho
    obtain ⟨g, c, rfl, hg, ng, _, hn, hc, hf⟩ := h.slot he
    exact at_tomb p g _ c i W c0 c1 hlt hn (hc 3 _ rfl)
  · obtain ⟨a, c, rfl, _⟩ := owns_form h.row
    exact at_out p _ c i a W c0 c1 (by omega) hu

set_option maxHeartbeats 400000 in
theorem Get_miss {w : World} {D : Nat → Prop} {p : Nat} {sv : Value} {M : List (Option Ent × Value)} (h : LogRow w D p sv M) {i : Nat} (hu : i ≤ 4294967295) (hi : slotOf M i = none) :
    Calls Tryz.prog 99 #[.pointer (some ⟨p, 0, none⟩), .int .u32 i] w (getPost none w) := by
  have HA := Lib.hid (h.miss hu hi)
  clear h
  go_enter Tryz.func99, Tryz.ntmps99
  go_wp2_with (go_at_call 89; refine Calls.mono (HA.out _ (by (repeat' (first | (with_reducible exact Mod.refl _ _) | (with_reducible refine Mod.alloc ?_ _) | (with_reducible refine Mod.drew ?_) | (with_reducible refine Mod.drewN ?_ _) | (with_reducible refine Mod.setCell ?_ ?_ _) | (refine Mod.then ?_ (by with_reducible assumption) ?_))) <;> (all_goals (intros; first | (exfalso; assumption) | omega | (simp at *; done) | (simp at *; omega))))) ?_; rintro e w' ⟨rfl, rfl⟩)
  refine bodyPost_ret (v := .tuple #[.agg #[.string ⟨#[]⟩, .slice none 0 0, .int .u64 0, .int .u64 0], .int .i64 9]) (by simp [results, Tryz.results99, go_sem]) rfl ⟨rfl, ?_⟩
  (repeat' (first | (with_reducible exact Mod.refl _ _) | (with_reducible refine Mod.alloc ?_ _) | (with_reducible refine Mod.drew ?_) | (with_reducible refine Mod.drewN ?_ _) | (with_reducible refine Mod.setCell ?_ ?_ _) | (refine Mod.then ?_ (by with_reducible assumption) ?_)))
  (all_goals (intros; first | (exfalso; assumption) | omega | (simp at *; done) | (simp at *; omega)))

theorem Len_any {w : World} {D : Nat → Prop} {p : Nat} {sv : Value} {M : List (Option Ent × Value)} (h : LogRow w D p sv M) :
    Calls Tryz.prog 31 #[.pointer (some ⟨p, 0, none⟩)] w fun e w' => e = .returned (.int .i64 M.length) ∧ w = w' := by
  obtain ⟨c0, c1, c2, cf⟩ := h.cells
  obtain ⟨a, c, rfl, _⟩ := owns_form h.row
  clear h
  go_enter Tryz.func31, Tryz.ntmps31
  go_wp2_with (go_at_call 86; refine Calls.mono (zero_made p true _ c0) ?_; rintro e w' ⟨rfl, rfl⟩)
  go_ret
  exact ⟨rfl, rfl⟩
theorem Live_any {w : World} {D : Nat → Prop} {p : Nat} {sv : Value} {M : List (Option Ent × Value)} (h : LogRow w D p sv M) :
    Calls Tryz.prog 85 #[.pointer (some ⟨p, 0, none⟩)] w fun e w' => e = .returned (.int .i64 (liveOf (M.map Prod.fst))) ∧ w = w' := by
  obtain ⟨c0, c1, c2, cf⟩ := h.cells
  clear h
  go_enter Tryz.func85, Tryz.ntmps85
  go_wp2_with (go_at_call 86; refine Calls.mono (zero_made p true _ c0) ?_; rintro e w' ⟨rfl, rfl⟩)
  go_ret
  exact ⟨rfl, rfl⟩

/-! ### slices.Clone, Copy -/
@[go_sem] theorem eql_nil_entries (w : World) (a : Option Addr) (n c : Nat) : (binOp .eql 29 (.slice a n c) (.slice none 0 0)).run Tryz.prog w = .ok (.bool a.isNone) w :=
  Lib.run_eql_slice_nil w _ _ a n c 0 0 Tryz.underlying29
set_option maxHeartbeats 400000 in
theorem clone_entries (a : Option Addr) (n c : Nat) (xs : List Value) (w : World) (hx : ReadAt w (.slice a n c) 4 xs) (hn : n ≤ 4294967295) :
    Calls Tryz.prog 148 #[.slice a n c] w (clonePost 42 4 xs w) := by
  obtain ⟨i0, hi, hz0, hz1, hz2⟩ := info_parts info_Entry
  have hlen : xs.length = n * 4 := read_length hx
  cases a with
  | none =>
    have h0 := clone_none _ _ _ _ _ hx
    have H := Lib.hid hx; clear hx
    go_enter Tryz.func148, Tryz.ntmps148
    go_wp2
    go_ret
    exact ⟨none, 0, 0, rfl, by rw [h0]; exact World.ownsRow_nil _ _ _ _, (fun g e => by cases e), Mod.refl _ _⟩
  | some ad =>
    have H := Lib.hid (hx.frame ((Mod.refl (fun _ => False) w).alloc (.cells #[] 42)) (fun _ _ h => h)); clear hx
    have HO := Lib.hid (owns_empty w 42 4)
    go_enter Tryz.func148, Tryz.ntmps148
    go_wp2_with (at_builtin; refine wpList_append_read _ rfl _ _ 29 rfl 42 i0 _ 4 56 Tryz.underlying29 hi hz0 hz1 hz2 rfl (by decide) _ 0 [] rfl HO.out _ xs n rfl H.out hlen (by unfold maxLen; omega) (by omega) ?_; intro a' c' w1 ho hg hb)
    go_ret
    simp only [List.nil_append, Nat.zero_add, World.size_alloc] at ho hb
    exact clone_end _ _ _ _ _ _ _ _ ho hg hb

theorem slotCells_one {M : List (Option Ent × Value)} {w : World} (h : ∀ e v, (some e, v) ∈ M → BytesAt w v (bytesOf e.val)) : ∀ u ∈ M.flatMap slotCells, u.oneCell' = true := by
  intro u hu
  obtain ⟨⟨o, v⟩, hm, hu⟩ := List.mem_flatMap.1 hu
  cases o with
  | none => simp [slotCells] at hu; rcases hu with rfl | rfl | rfl <;> rfl
  | some e =>
    obtain ⟨a, c, hv, _⟩ := owns_form (h e v hm)
    simp [slotCells, hv] at hu
    rcases hu with rfl | rfl | rfl | rfl <;> rfl
theorem LogRow.read {w : World} {D : Nat → Prop} {p : Nat} {sv : Value} {M : List (Option Ent × Value)} (h : LogRow w D p sv M) : ReadAt w sv 4 (M.flatMap slotCells) :=
  ReadAt.of_owns h.row (slotCells_one h.vals)

def copyLog (w : World) (M : List (Option Ent × Value)) (e : Ending) (w' : World) : Prop :=
  ∃ q sv' D', e = .returned (.pointer (some ⟨q, 0, none⟩)) ∧ LogRow w' D' q sv' M ∧ Pure w w' ∧ ∀ k, D' k → w.heap.size ≤ k
set_option maxHeartbeats 400000 in
theorem Copy_any {w : World} {D : Nat → Prop} {p : Nat} {sv : Value} {M : List (Option Ent × Value)} (h : LogRow w D p sv M) :
    Calls Tryz.prog 91 #[.pointer (some ⟨p, 0, none⟩)] w (copyLog w M) := by
  obtain ⟨c0, c1, c2, cf⟩ := h.cells
  obtain ⟨a, c, rfl, _⟩ := owns_form h.row
  have HR := Lib.hid h.read
  have HL := Lib.hid h
  have hn : M.length ≤ 4294967295 := by have := h.ok.len; rw [List.length_map] at this; omega
  clear h
  go_enter Tryz.func91, Tryz.ntmps91
  go_upto_region 3 with (go_at_call 86; refine Calls.mono (zero_made p true _ c0) ?_; rintro e w' ⟨rfl, rfl⟩)
  go_region_held3 (fun w' => w'.cell? ⟨p, 1, none⟩ = some (.slice a M.length c) ∧ w'.cell? ⟨p, 2, none⟩ = some (.int .i64 (liveOf (M.map Prod.fst))))
    (first | exact ⟨c1, c2⟩ | exact ⟨hp.cell (fun h => h) c1, hp.cell (fun h => h) c2⟩ | exact ⟨(hp.alloc _).cell (fun h => h) c1, (hp.alloc _).cell (fun h => h) c2⟩)
    (first | (go_at_call 148; refine Calls.mono (clone_entries a M.length c _ _ HR.out hn) ?_; rintro e w1 ⟨a', n', c', rfl, hr, hf, hp⟩))
  go_wp2
  go_ret
  obtain rfl := owns_len hr (by decide) (flat_length slotCells 4 slotCells_length M)
  have hq : (w1.alloc (.cells #[.bool true, .slice a' M.length c', .int .i64 (liveOf (M.map Prod.fst))] 92)).heap[w1.heap.size]? = _ := heap_new rfl
  have hp' : Pure w w1 := hp.of_drew
  refine ⟨w1.heap.size, .slice a' M.length c', fun k => k = w1.heap.size ∨ (Value.slice a' M.length c').ownBlock = some k, rfl, ⟨hq, ?_, fun e v hm => ?_, fun _ => Iff.rfl, HL.out.ok⟩, hp'.alloc _, ?_⟩
  · exact owns_mod hr ((Mod.refl (fun _ => False) w1).alloc _) (fun _ _ h => h)
  · exact owns_mod (HL.out.vals e v hm) (hp'.alloc _) (fun _ _ h => h)
  · rintro k (rfl | h)
    · exact hp'.size
    · exact hf k h
theorem logNew_row {w : World} {q : Nat} (h : w.heap[q]? = some (.cells #[.bool true, .slice none 0 0, .int .i64 0] 92 (0, 0))) : LogRow w (fun k => k = q) q (.slice none 0 0) [] :=
  ⟨h, World.ownsRow_nil _ _ _ _, (fun _ _ h => by cases h), fun k => ⟨.inl, fun h => by rcases h with h | h; exact h; cases h⟩, ⟨by simp, fun _ h => by simp at h⟩⟩

end Go.Proofs.YtpafcocciggfpaaGreat
