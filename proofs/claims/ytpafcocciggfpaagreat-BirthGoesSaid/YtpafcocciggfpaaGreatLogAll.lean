/- Log.All and its closure meet the iterator's contract. Condition: the log is made. -/
import Derived.Test.YtpafcocciggfpaaGreatLog2
import Derived.Test.YtpafcocciggfpaaGreatRange
namespace Go.Proofs.YtpafcocciggfpaaGreat
open Go.RowKit Go.Shelf
set_option maxRecDepth 100000
attribute [local go_sem] Oper.semAt_some

/-! ### All -/
/-- The entries of a log with their slot numbers, from slot i on. -/
def liveFrom : Nat → List (Option Ent) → List (Nat × Ent)
  | _, [] => []
  | i, none :: L => liveFrom (i + 1) L
  | i, some e :: L => (i, e) :: liveFrom (i + 1) L
def live (L : List (Option Ent)) : List (Nat × Ent) := liveFrom 0 L
theorem liveFrom_append (A B : List (Option Ent)) : ∀ i, liveFrom i (A ++ B) = liveFrom i A ++ liveFrom (i + A.length) B := by
  induction A with
  | nil => intro i; simp [liveFrom]
  | cons o A ih =>
    intro i
    cases o <;> simp [liveFrom, ih, Nat.add_assoc, Nat.add_comm 1]

theorem liveFrom_length (L : List (Option Ent)) : ∀ i, (liveFrom i L).length ≤ L.length := by
  induction L with
  | nil => intro i; simp [liveFrom]
  | cons o L ih => intro i; cases o <;> simp [liveFrom] <;> have := ih (i + 1) <;> omega
theorem live_length (L : List (Option Ent)) : (live L).length ≤ L.length := liveFrom_length L 0
theorem drop_cons' {α : Type} {L : List α} {n : Nat} {a : α} (h : L[n]? = some a) : L.drop n = a :: L.drop (n + 1) := by
  obtain ⟨hlt, rfl⟩ := List.getElem?_eq_some_iff.1 h
  exact List.drop_eq_getElem_cons hlt
theorem live_none {M : List (Option Ent × Value)} {n : Nat} {v : Value} (h : M[n]? = some (none, v)) : liveFrom n ((M.map Prod.fst).drop n) = liveFrom (n + 1) ((M.map Prod.fst).drop (n + 1)) := by
  rw [drop_cons' (L := M.map Prod.fst) (n := n) (a := none) (by simp [h])]
  rfl
theorem live_some {M : List (Option Ent × Value)} {n : Nat} {x : Ent} {v : Value} (h : M[n]? = some (some x, v)) : liveFrom n ((M.map Prod.fst).drop n) = (n, x) :: liveFrom (n + 1) ((M.map Prod.fst).drop (n + 1)) := by
  rw [drop_cons' (L := M.map Prod.fst) (n := n) (a := some x) (by simp [h])]
  rfl

theorem liveFrom_mem {L : List (Option Ent)} : ∀ {i : Nat} {g : Nat × Ent}, g ∈ liveFrom i L → i ≤ g.1 ∧ L[g.1 - i]? = some (some g.2) := by
  induction L with
  | nil => intro i g h; cases h
  | cons o L ih =>
    intro i g h
    cases o with
    | none =>
      obtain ⟨h1, h2⟩ := ih (i := i + 1) h
      refine ⟨by omega, ?_⟩
      rw [show g.1 - i = (g.1 - (i + 1)) + 1 by omega]; simpa using h2
    | some e =>
      rcases List.mem_cons.1 h with rfl | h
      · simp
      · obtain ⟨h1, h2⟩ := ih (i := i + 1) h
        refine ⟨by omega, ?_⟩
        rw [show g.1 - i = (g.1 - (i + 1)) + 1 by omega]; simpa using h2
theorem live_mem {L : List (Option Ent)} {g : Nat × Ent} (h : g ∈ live L) : L[g.1]? = some (some g.2) := by simpa using (liveFrom_mem h).2

abbrev Given := Nat × Ent × Value
abbrev encG (g : Given) : Array Value := #[.int .u32 g.1, .agg #[.string g.2.1.key, g.2.2, .int .u64 g.2.1.dl, .int .u64 g.2.1.birth]]
def keyG (g : Given) : Nat × Ent := (g.1, g.2.1)
/-- What All promises of an element: it is the next one, its value is a slice of its own in a new block. -/
def promise (N : Nat) (L : List (Option Ent)) (pre : List Given) (x : Given) (W : World) : Prop :=
  (∃ post, live L = pre.map keyG ++ keyG x :: post) ∧ BytesAt W x.2.2 (bytesOf x.2.1.val) ∧ ∀ k, x.2.2.ownBlock = some k → N ≤ k

/-- The blocks of an iterator over a log's copy: its variable, the row, the values. -/
def iterBlocks (B : Nat) (sv : Value) (M : List (Option Ent × Value)) (k : Nat) : Prop := k = B ∨ sv.ownBlock = some k ∨ ∃ e v, (some e, v) ∈ M ∧ v.ownBlock = some k

structure IterAt (w : World) (B : Nat) (sv : Value) (M : List (Option Ent × Value)) : Prop where
  box : w.heap[B]? = some (.cells #[sv] 29 (0, 0))
  row : w.ownsRow 0 42 4 sv M.length (M.flatMap slotCells)
  vals : ∀ e v, (some e, v) ∈ M → BytesAt w v (bytesOf e.val)
  ok : LogOk (M.map Prod.fst)
theorem IterAt.keeps {w w' : World} {B : Nat} {sv : Value} {M : List (Option Ent × Value)} (h : IterAt w B sv M) (hk : KeepsIt (iterBlocks B sv M) w w') : IterAt w' B sv M := by
  refine ⟨?_, ?_, fun e v hm => ?_, h.ok⟩
  · exact (hk.2 B (.inl rfl) (lt_of_block h.box)).trans h.box
  · exact owns_heap h.row (fun g hg hlt => hk.2 g (.inr (.inl hg)) hlt)
  · exact owns_heap (h.vals e v hm) (fun g hg hlt => hk.2 g (.inr (.inr ⟨e, v, hm, hg⟩)) hlt)

theorem IterAt.slot {w : World} {B : Nat} {sv : Value} {M : List (Option Ent × Value)} (h : IterAt w B sv M) {i : Nat} {m : Option Ent × Value} (hi : M[i]? = some m) :
    ∃ g c, sv = .slice (some ⟨g, 0, none⟩) M.length c ∧ g < w.heap.size ∧ (∀ j u, (slotCells m)[j]? = some u → w.cell? ⟨g, i * 4 + j, none⟩ = some u) := by
  have hlt : i < M.length := (List.getElem?_eq_some_iff.1 hi).1
  obtain ⟨g, c, rfl, _, hg, hc, hf, _⟩ := owns_at h.row (by omega)
  refine ⟨g, c, rfl, hg, fun j u hu => hc _ _ ?_⟩
  have hj : j < 4 := by rw [← slotCells_length m]; exact (List.getElem?_eq_some_iff.1 hu).1
  rw [flat_get slotCells 4 slotCells_length j hj, hi]
  exact hu

/-- Ahead of a round of All. -/
def AllInv (J : List Given → World → Prop) (N B : Nat) (sv : Value) (M : List (Option Ent × Value)) (k : Value) (wr : World) : Prop :=
  ∃ (n : Nat) (pre : List Given), n ≤ M.length ∧ k = .int .i64 n ∧ J pre wr ∧ IterAt wr B sv M ∧ live (M.map Prod.fst) = pre.map keyG ++ liveFrom n ((M.map Prod.fst).drop n) ∧ N ≤ wr.heap.size

theorem LogRow.quiet {N : Nat} {A B : World} {D : Nat → Prop} {p : Nat} {sv : Value} {M : List (Option Ent × Value)} (h : LogRow A D p sv M) (hq : Quiet N A B) : LogRow B D p sv M :=
  ⟨hq.cells h.box, hq.owns h.row, fun e v hv => hq.owns (h.vals e v hv), h.dd, h.ok⟩
theorem promise.quiet {N N' : Nat} {L : List (Option Ent)} {pre : List Given} {x : Given} {A B : World} (h : promise N L pre x A) (hq : Quiet N' A B) : promise N L pre x B := ⟨h.1, hq.owns h.2.1, h.2.2⟩

set_option maxHeartbeats 1000000 in
theorem All_iter {w : World} {B : Nat} {sv : Value} {M : List (Option Ent × Value)} (h : IterAt w B sv M) (N : Nat) (hN : N ≤ w.heap.size) :
    IterOk Tryz.prog 149 #[.pointer (some ⟨B, 0, none⟩)] encG (iterBlocks B sv M) (promise N (M.map Prod.fst)) (fun xs => xs.map keyG = live (M.map Prod.fst)) w := by
  intro l J Jx W hW hJ hJx hY h0
  have hA := h.keeps (KeepsIt.of_pure hW)
  obtain ⟨a, c, rfl, _⟩ := owns_form h.row
  have hlen := h.ok.len
  rw [List.length_map] at hlen
  have hB := cell_of_row W B 0 _ _ _ hA.box
  simp at hB
  have HA := Lib.hid hA
  have HY := Lib.hid hY
  have HJ := Lib.hid hJ
  have HN : Hid (N ≤ W.heap.size) := Nat.le_trans hN hW.size
  clear hA hY hJ hJx h hW
  refine callsIn_of_wp Tryz.func149 rfl trivial ?_ rfl
  simp only [Tryz.ntmps149, List.size_toArray, List.length_cons, List.length_nil, Nat.reduceAdd, Nat.reduceSub, Array.replicate_succ, Array.replicate_zero, List.push_toArray, List.append_toArray, List.nil_append, List.cons_append]
  gi_wp2
  gi_loopw [3, 4, 7] (fun i b k wr => AllInv J N B (.slice a M.length c) M k wr)
    (fun _ _ k _ => M.length - (intOf k).toNat)
  case atStart => exact ⟨0, [], Nat.zero_le _, rfl, h0, HA.out, by simp [live], HN⟩
  case round =>
    obtain ⟨n, pre, hn, rfl, hJs, hI, hl, hNw⟩ := hrel
    by_cases hlt : n < M.length
    · have he := List.getElem?_eq_getElem hlt
      generalize M[n] = m at he
      obtain ⟨o, v⟩ := m
      obtain ⟨g, c', hsv, hg, hc⟩ := hI.slot he
      cases hsv
      have hn0 : (0 : Int) ≤ (n : Int) := by omega
      have hn1 : (n : Int) < (M.length : Int) := by omega
      have hn2 : n ≤ 4194304 := by omega
      cases o with
      | none =>
        have s0 : wr.cell? ⟨g, n * 4, none⟩ = _ := hc 0 _ rfl; have s1 := hc 1 _ rfl; have s2 := hc 2 _ rfl; have s3 := hc 3 _ rfl
        have HI := Lib.hid hI
        have HL := Lib.hid hl
        have HJS := Lib.hid hJs
        have HNW := Lib.hid hNw
        clear hc hI hl hJs hNw
        gi_wp2
        go_roundw
        case rel =>
          have hP : Pure wr (wr.alloc (.cells #[.string ⟨#[]⟩, .slice none 0 0, .int .u64 0, .int .u64 0] 42)) := (Mod.refl _ wr).alloc _
          unfold AllInv
          exact ⟨n + 1, pre, by omega, by go_num, HJ.out _ _ _ HJS.out hP, HI.out.keeps (KeepsIt.of_pure hP), by rw [HL.out, live_none he], by have := HNW.out; simp; omega⟩
        case measure => simp [intOf]; omega
      | some x =>
        have s0 : wr.cell? ⟨g, n * 4, none⟩ = _ := hc 0 _ rfl; have s1 := hc 1 _ rfl; have s2 := hc 2 _ rfl; have s3 := hc 3 _ rfl
        have hx := (hI.vals x v (List.mem_of_getElem? he)).read (bytesOf_one _)
        have hok := hI.ok.ent x (List.mem_map.2 ⟨_, List.mem_of_getElem? he, rfl⟩)
        obtain ⟨va, vn, vc, rfl, hvl, _⟩ := id hx
        have hvn : vn ≤ 140737488355328 := by have := hok.v1; rw [bytesOf_length] at hvl; omega
        have hb : (x.birth == 0) = false := by have := hok.b0; simp; omega
        have hb2 : (x.birth != 0) = true := by have := hok.b0; simp; omega
        have hP : Pure wr (wr.alloc (.cells #[.string x.key, .slice va vn vc, .int .u64 x.dl, .int .u64 x.birth] 42)) := (Mod.refl _ wr).alloc _
        have HX := Lib.hid (hx.frame hP (fun _ _ h => h))
        have HI := Lib.hid hI
        have HL := Lib.hid hl
        have HJS := Lib.hid hJs
        have HNW := Lib.hid hNw
        have HP := Lib.hid hP
        have HOK := Lib.hid hok
        clear hc hI hl hJs hNw hx hvl hP hok
        have HPR := Lib.hid (fun (w1 : World) (v' : Value) (hp : Pure wr w1) (hr : BytesAt w1 v' (bytesOf x.val)) (hf : ∀ k, v'.ownBlock = some k → N ≤ k) =>
          HY.out pre (n, x, v') w1 (HJ.out _ _ _ HJS.out hp) ⟨⟨_, by rw [HL.out, live_some he]; rfl⟩, hr, hf⟩)
        gi_wp2_with (gi_at_call 90; refine (callsIn_wide.2 (entry_Copy x.key va vn vc _ _ _ _ HX.out hvn)).mono ?_; rintro e w1 ⟨a', n', c'', rfl, hr, hfr, hp⟩; obtain ⟨fn, tmps, assign, body, hy, hR⟩ := HPR.out w1 (.slice a' n' c'') (HP.out.trans hp) (bytesAt_of hr) (fun k e => (by have := hfr k e; have := HNW.out; simp at *; omega)); dsimp only [encG] at hy; have hRR := Lib.hid hR; clear hR)
        refine hRR.out.mono ?_
        rintro e W' (⟨rfl, hJ', hk⟩ | ⟨rfl, hJx'⟩)
        · have HJ' := Lib.hid hJ'
          have HK := Lib.hid hk
          clear hJ' hk
          gi_wp2
          go_roundw
          case rel =>
            unfold AllInv
            exact ⟨n + 1, pre ++ [(n, x, .slice a' n' c'')], by omega, by go_num, HJ'.out, (HI.out.keeps (KeepsIt.of_pure (HP.out.trans hp))).keeps HK.out, by rw [HL.out, live_some he]; simp [keyG], by have := HNW.out; have := HK.out.1; have := (HP.out.trans hp).size; omega⟩
          case measure => simp [intOf]; omega
        · gi_wp2
          refine bodyPost_ret (results_none rfl _ _ _) rfl ?_
          exact ⟨⟨_, rfl⟩, .inr ⟨_, hJx'⟩⟩
    · have hend : M.length = n := by omega
      have hge : (M.length : Int) ≤ (n : Int) := by omega
      have HI := Lib.hid hI
      have HL := Lib.hid hl
      have HJS := Lib.hid hJs
      clear hI hl hJs
      have HE := Lib.hid hend
      clear hend
      gi_wp2
      go_end0
      refine ⟨⟨_, rfl⟩, .inl ⟨pre, ?_, HJS.out⟩⟩
      rw [HL.out, ← HE.out, List.drop_eq_nil_of_le (by simp)]
      simp [liveFrom]

def allPost (w : World) (M : List (Option Ent × Value)) (e : Ending) (w' : World) : Prop :=
  ∃ B a c, e = .returned (.func (.func 149) #[] #[.pointer (some ⟨B, 0, none⟩)]) ∧ IterAt w' B (.slice a M.length c) M ∧ Pure w w' ∧ w.heap.size ≤ B ∧ Fresh w (.slice a M.length c)
set_option maxHeartbeats 400000 in
theorem All_any {w : World} {D : Nat → Prop} {p : Nat} {sv : Value} {M : List (Option Ent × Value)} (h : LogRow w D p sv M) :
    Calls Tryz.prog 92 #[.pointer (some ⟨p, 0, none⟩)] w (allPost w M) := by
  obtain ⟨c0, c1, c2, cf⟩ := h.cells
  obtain ⟨a, c, rfl, _⟩ := owns_form h.row
  have hP : Pure w (w.alloc (.cells #[.slice none 0 0] 29)) := (Mod.refl _ w).alloc _
  have HR := Lib.hid ((h.pure hP).read)
  have HL := Lib.hid h
  have hn : M.length ≤ 4294967295 := by have := h.ok.len; rw [List.length_map] at this; omega
  have hlp : p < w.heap.size := lt_of_block h.box
  have hlp1 : p < w.heap.size + 1 := by omega
  clear h hP
  go_enter Tryz.func92, Tryz.ntmps92
  go_wp2_with (first
    | (go_at_call 86; refine Calls.mono (zero_made p true _ (by simpa [go_sem, hlp] using c0)) ?_; rintro e w' ⟨rfl, rfl⟩)
    | (go_at_call 148; refine Calls.mono (clone_entries a M.length c _ _ HR.out hn) ?_; rintro e w1 ⟨a', n', c', rfl, hr, hf, hp⟩; obtain ⟨hpc, hpf⟩ := hp.cells))
  go_ret
  obtain rfl := owns_len hr (by decide) (flat_length slotCells 4 slotCells_length M)
  have hq := hp.heap (fun h => h) (heap_new (w := w) (o := .cells #[.slice none 0 0] 29 (0, 0)) rfl)
  have hm : Mod (fun k => k = w.heap.size) w1 (w1.setCell ⟨w.heap.size, 0, none⟩ (.slice a' M.length c')) := (Mod.refl (fun k => k = w.heap.size) w1).setCell (p := ⟨w.heap.size, 0, none⟩) (fun _ => rfl) _
  have hall : Pure w (w1.setCell ⟨w.heap.size, 0, none⟩ (.slice a' M.length c')) := by
    (repeat' (first | (with_reducible exact Mod.refl _ _) | (with_reducible refine Mod.alloc ?_ _) | (with_reducible refine Mod.drew ?_) | (with_reducible refine Mod.drewN ?_ _) | (with_reducible refine Mod.setCell ?_ ?_ _) | (refine Mod.then ?_ (by with_reducible assumption) ?_)))
    (all_goals (intros; first | (exfalso; assumption) | omega | (simp at *; done) | (simp at *; omega)))
  refine ⟨w.heap.size, a', c', rfl, ⟨heap_setCell_same w1 _ 0 _ _ _ hq, owns_mod hr hm (fun g e h => ?_), fun e v hv => owns_mod (HL.out.vals e v hv) hall (fun _ _ h => h), HL.out.ok⟩, hall, Nat.le_refl _, fun g e => ?_⟩
  · have := hf g e; simp at this; omega
  · have := hf g e; simp at this; omega
end Go.Proofs.YtpafcocciggfpaaGreat
