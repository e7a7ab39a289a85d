/- Lemmas and contracts of functions, strung together out of 4 texts. No condition. -/
import Derived.Test.YtapplindfijngaaGreatJPfDictOf2
/- Log.All and its closure meet the iterator's contract. Condition: the log is made. -/
namespace Go.Proofs.YtapplindfijngaaGreat
open Go.RowKit Go.Shelf
set_option maxRecDepth 100000
attribute [local go_sem] Oper.semAt_some

/-! ### All -/
/-- The entries of a log with their slot numbers, from slot i on. -/
def liveFrom : Nat → List (Option Ent) → List (Nat × Ent)
  | _, [] => []
  | i, none :: L => liveFrom (i + 1) L
  | i, some e :: L => (i, e) :: liveFrom (i + 1) L
def live (L : List (Option Ent)) : List (Nat × Ent) := liveFrom 0 L
theorem liveFrom_append (A B : List (Option Ent)) : ∀ i, liveFrom i (A ++ B) = liveFrom i A ++ liveFrom (i + A.length) B := by
  induction A with
  | nil => intro i; simp [liveFrom]
  | cons o A ih =>
    intro i
    cases o <;> simp [liveFrom, ih, Nat.add_assoc, Nat.add_comm 1]

theorem liveFrom_length (L : List (Option Ent)) : ∀ i, (liveFrom i L).length ≤ L.length := by
  induction L with
  | nil => intro i; simp [liveFrom]
  | cons o L ih => intro i; cases o <;> simp [liveFrom] <;> have := ih (i + 1) <;> omega
theorem live_length (L : List (Option Ent)) : (live L).length ≤ L.length := liveFrom_length L 0
theorem drop_cons' {α : Type} {L : List α} {n : Nat} {a : α} (h : L[n]? = some a) : L.drop n = a :: L.drop (n + 1) := by
  obtain ⟨hlt, rfl⟩ := List.getElem?_eq_some_iff.1 h
  exact List.drop_eq_getElem_cons hlt
theorem live_none {M : List (Option Ent × Value)} {n : Nat} {v : Value} (h : M[n]? = some (none, v)) : liveFrom n ((M.map Prod.fst).drop n) = liveFrom (n + 1) ((M.map Prod.fst).drop (n + 1)) := by
  rw [drop_cons' (L := M.map Prod.fst) (n := n) (a := none) (by simp [h])]
  rfl
theorem live_some {M : List (Option Ent × Value)} {n : Nat} {x : Ent} {v : Value} (h : M[n]? = some (some x, v)) : liveFrom n ((M.map Prod.fst).drop n) = (n, x) :: liveFrom (n + 1) ((M.map Prod.fst).drop (n + 1)) := by
  rw [drop_cons' (L := M.map Prod.fst) (n := n) (a := some x) (by simp [h])]
  rfl

theorem liveFrom_mem {L : List (Option Ent)} : ∀ {i : Nat} {g : Nat × Ent}, g ∈ liveFrom i L → i ≤ g.1 ∧ L[g.1 - i]? = some (some g.2) := by
  induction L with
  | nil => intro i g h; cases h
  | cons o L ih =>
    intro i g h
    cases o with
    | none =>
      obtain ⟨h1, h2⟩ := ih (i := i + 1) h
      refine ⟨by omega, ?_⟩
      rw [show g.1 - i = (g.1 - (i + 1)) + 1 by omega]; simpa using h2
    | some e =>
      rcases List.mem_cons.1 h with rfl | h
      · simp
      · obtain ⟨h1, h2⟩ := ih (i := i + 1) h
        refine ⟨by omega, ?_⟩
        rw [show g.1 - i = (g.1 - (i + 1)) + 1 by omega]; simpa using h2
theorem live_mem {L : List (Option Ent)} {g : Nat × Ent} (h : g ∈ live L) : L[g.1]? = some (some g.2) := by simpa using (liveFrom_mem h).2

abbrev Given := Nat × Ent × Value
abbrev encG (g : Given) : Array Value := #[.int .u32 g.1, .agg #[.string g.2.1.key, g.2.2, .int .u64 g.2.1.dl, .int .u64 g.2.1.birth]]
def keyG (g : Given) : Nat × Ent := (g.1, g.2.1)
/-- What All promises of an element: it is the next one, its value is a slice of its own in a new block. -/
def promise (N : Nat) (L : List (Option Ent)) (pre : List Given) (x : Given) (W : World) : Prop :=
  (∃ post, live L = pre.map keyG ++ keyG x :: post) ∧ BytesAt W x.2.2 (bytesOf x.2.1.val) ∧ ∀ k, x.2.2.ownBlock = some k → N ≤ k

/-- The blocks of an iterator over a log's copy: its variable, the row, the values. -/
def iterBlocks (B : Nat) (sv : Value) (M : List (Option Ent × Value)) (k : Nat) : Prop := k = B ∨ sv.ownBlock = some k ∨ ∃ e v, (some e, v) ∈ M ∧ v.ownBlock = some k

structure IterAt (w : World) (B : Nat) (sv : Value) (M : List (Option Ent × Value)) : Prop where
  box : w.heap[B]? = some (.cells #[sv] 29 (0, 0))
  row : w.ownsRow 0 42 4 sv M.length (M.flatMap slotCells)
  vals : ∀ e v, (some e, v) ∈ M → BytesAt w v (bytesOf e.val)
  ok : LogOk (M.map Prod.fst)
theorem IterAt.keeps {w w' : World} {B : Nat} {sv : Value} {M : List (Option Ent × Value)} (h : IterAt w B sv M) (hk : KeepsIt (iterBlocks B sv M) w w') : IterAt w' B sv M := by
  refine ⟨?_, ?_, fun e v hm => ?_, h.ok⟩
  · exact (hk.2 B (.inl rfl) (lt_of_block h.box)).trans h.box
  · exact owns_heap h.row (fun g hg hlt => hk.2 g (.inr (.inl hg)) hlt)
  · exact owns_heap (h.vals e v hm) (fun g hg hlt => hk.2 g (.inr (.inr ⟨e, v, hm, hg⟩)) hlt)

theorem IterAt.slot {w : World} {B : Nat} {sv : Value} {M : List (Option Ent × Value)} (h : IterAt w B sv M) {i : Nat} {m : Option Ent × Value} (hi : M[i]? = some m) :
    ∃ g c, sv = .slice (some ⟨g, 0, none⟩) M.length c ∧ g < w.heap.size ∧ (∀ j u, (slotCells m)[j]? = some u → w.cell? ⟨g, i * 4 + j, none⟩ = some u) := by
  have hlt : i < M.length := (List.getElem?_eq_some_iff.1 hi).1
  obtain ⟨g, c, rfl, _, hg, hc, hf, _⟩ := owns_at h.row (by omega)
  refine ⟨g, c, rfl, hg, fun j u hu => hc _ _ ?_⟩
  have hj : j < 4 := by rw [← slotCells_length m]; exact (List.getElem?_eq_some_iff.1 hu).1
  rw [flat_get slotCells 4 slotCells_length j hj, hi]
  exact hu

/-- Ahead of a round of All. -/
def AllInv (J : List Given → World → Prop) (N B : Nat) (sv : Value) (M : List (Option Ent × Value)) (k : Value) (wr : World) : Prop :=
  ∃ (n : Nat) (pre : List Given), n ≤ M.length ∧ k = .int .i64 n ∧ J pre wr ∧ IterAt wr B sv M ∧ live (M.map Prod.fst) = pre.map keyG ++ liveFrom n ((M.map Prod.fst).drop n) ∧ N ≤ wr.heap.size

theorem LogRow.quiet {N : Nat} {A B : World} {D : Nat → Prop} {p : Nat} {sv : Value} {M : List (Option Ent × Value)} (h : LogRow A D p sv M) (hq : Quiet N A B) : LogRow B D p sv M :=
  ⟨hq.cells h.box, hq.owns h.row, fun e v hv => hq.owns (h.vals e v hv), h.dd, h.ok⟩
theorem promise.quiet {N N' : Nat} {L : List (Option Ent)} {pre : List Given} {x : Given} {A B : World} (h : promise N L pre x A) (hq : Quiet N' A B) : promise N L pre x B := ⟨h.1, hq.owns h.2.1, h.2.2⟩

set_option maxHeartbeats 1000000 in
theorem All_iter {w : World} {B : Nat} {sv : Value} {M : List (Option Ent × Value)} (h : IterAt w B sv M) (N : Nat) (hN : N ≤ w.heap.size) :
    IterOk Tryz.prog 127 #[.pointer (some ⟨B, 0, none⟩)] encG (iterBlocks B sv M) (promise N (M.map Prod.fst)) (fun xs => xs.map keyG = live (M.map Prod.fst)) w := by
  intro l J Jx W hW hJ hJx hY h0
  have hA := h.keeps (KeepsIt.of_pure hW)
  obtain ⟨a, c, rfl, _⟩ := owns_form h.row
  have hlen := h.ok.len
  rw [List.length_map] at hlen
  have hB := cell_of_row W B 0 _ _ _ hA.box
  simp at hB
  have HA := Lib.hid hA
  have HY := Lib.hid hY
  have HJ := Lib.hid hJ
  have HN : Hid (N ≤ W.heap.size) := Nat.le_trans hN hW.size
  clear hA hY hJ hJx h hW
  refine callsIn_of_wp Tryz.func127 rfl trivial ?_ rfl
  simp only [Tryz.ntmps127, List.size_toArray, List.length_cons, List.length_nil, Nat.reduceAdd, Nat.reduceSub, Array.replicate_succ, Array.replicate_zero, List.push_toArray, List.append_toArray, List.nil_append, List.cons_append]
  gi_wp2
  gi_loopw [3, 4, 7] (fun i b k wr => AllInv J N B (.slice a M.length c) M k wr)
    (fun _ _ k _ => M.length - (intOf k).toNat)
  case atStart => exact ⟨0, [], Nat.zero_le _, rfl, h0, HA.out, by simp [live], HN⟩
  case round =>
    obtain ⟨n, pre, hn, rfl, hJs, hI, hl, hNw⟩ := hrel
    by_cases hlt : n < M.length
    · have he := List.getElem?_eq_getElem hlt
      generalize M[n] = m at he
      obtain ⟨o, v⟩ := m
      obtain ⟨g, c', hsv, hg, hc⟩ := hI.slot he
      cases hsv
      have hn0 : (0 : Int) ≤ (n : Int) := by omega
      have hn1 : (n : Int) < (M.length : Int) := by omega
      have hn2 : n ≤ 4194304 := by omega
      cases o with
      | none =>
        have s0 : wr.cell? ⟨g, n * 4, none⟩ = _ := hc 0 _ rfl; have s1 := hc 1 _ rfl; have s2 := hc 2 _ rfl; have s3 := hc 3 _ rfl
        have HI := Lib.hid hI
        have HL := Lib.hid hl
        have HJS := Lib.hid hJs
        have HNW := Lib.hid hNw
        clear hc hI hl hJs hNw
        gi_wp2
        go_roundw
        case rel =>
          have hP : Pure wr (wr.alloc (.cells #[.string ⟨#[]⟩, .slice none 0 0, .int .u64 0, .int .u64 0] 42)) := (Mod.refl _ wr).alloc _
          unfold AllInv
          exact ⟨n + 1, pre, by omega, by go_num, HJ.out _ _ _ HJS.out hP, HI.out.keeps (KeepsIt.of_pure hP), by rw [HL.out, live_none he], by have := HNW.out; simp; omega⟩
        case measure => simp [intOf]; omega
      | some x =>
        have s0 : wr.cell? ⟨g, n * 4, none⟩ = _ := hc 0 _ rfl; have s1 := hc 1 _ rfl; have s2 := hc 2 _ rfl; have s3 := hc 3 _ rfl
        have hx := (hI.vals x v (List.mem_of_getElem? he)).read (bytesOf_one _)
        have hok := hI.ok.ent x (List.mem_map.2 ⟨_, List.mem_of_getElem? he, rfl⟩)
        obtain ⟨va, vn, vc, rfl, hvl, _⟩ := id hx
        have hvn : vn ≤ 140737488355328 := by have := hok.v1; rw [bytesOf_length] at hvl; omega
        have hb : (x.birth == 0) = false := by have := hok.b0; simp; omega
        have hb2 : (x.birth != 0) = true := by have := hok.b0; simp; omega
        have hP : Pure wr (wr.alloc (.cells #[.string x.key, .slice va vn vc, .int .u64 x.dl, .int .u64 x.birth] 42)) := (Mod.refl _ wr).alloc _
        have HX := Lib.hid (hx.frame hP (fun _ _ h => h))
        have HI := Lib.hid hI
        have HL := Lib.hid hl
        have HJS := Lib.hid hJs
        have HNW := Lib.hid hNw
        have HP := Lib.hid hP
        have HOK := Lib.hid hok
        clear hc hI hl hJs hNw hx hvl hP hok
        have HPR := Lib.hid (fun (w1 : World) (v' : Value) (hp : Pure wr w1) (hr : BytesAt w1 v' (bytesOf x.val)) (hf : ∀ k, v'.ownBlock = some k → N ≤ k) =>
          HY.out pre (n, x, v') w1 (HJ.out _ _ _ HJS.out hp) ⟨⟨_, by rw [HL.out, live_some he]; rfl⟩, hr, hf⟩)
        gi_wp2_with (gi_at_call 74; refine (callsIn_wide.2 (entry_Copy x.key va vn vc _ _ _ _ HX.out hvn)).mono ?_; rintro e w1 ⟨a', n', c'', rfl, hr, hfr, hp⟩; obtain ⟨fn, tmps, assign, body, hy, hR⟩ := HPR.out w1 (.slice a' n' c'') (HP.out.trans hp) (bytesAt_of hr) (fun k e => (by have := hfr k e; have := HNW.out; simp at *; omega)); dsimp only [encG] at hy; have hRR := Lib.hid hR; clear hR)
        refine hRR.out.mono ?_
        rintro e W' (⟨rfl, hJ', hk⟩ | ⟨rfl, hJx'⟩)
        · have HJ' := Lib.hid hJ'
          have HK := Lib.hid hk
          clear hJ' hk
          gi_wp2
          go_roundw
          case rel =>
            unfold AllInv
            exact ⟨n + 1, pre ++ [(n, x, .slice a' n' c'')], by omega, by go_num, HJ'.out, (HI.out.keeps (KeepsIt.of_pure (HP.out.trans hp))).keeps HK.out, by rw [HL.out, live_some he]; simp [keyG], by have := HNW.out; have := HK.out.1; have := (HP.out.trans hp).size; omega⟩
          case measure => simp [intOf]; omega
        · gi_wp2
          refine bodyPost_ret (results_none rfl _ _ _) rfl ?_
          exact ⟨⟨_, rfl⟩, .inr ⟨_, hJx'⟩⟩
    · have hend : M.length = n := by omega
      have hge : (M.length : Int) ≤ (n : Int) := by omega
      have HI := Lib.hid hI
      have HL := Lib.hid hl
      have HJS := Lib.hid hJs
      clear hI hl hJs
      have HE := Lib.hid hend
      clear hend
      gi_wp2
      go_end0
      refine ⟨⟨_, rfl⟩, .inl ⟨pre, ?_, HJS.out⟩⟩
      rw [HL.out, ← HE.out, List.drop_eq_nil_of_le (by simp)]
      simp [liveFrom]

def allPost (w : World) (M : List (Option Ent × Value)) (e : Ending) (w' : World) : Prop :=
  ∃ B a c, e = .returned (.func (.func 127) #[] #[.pointer (some ⟨B, 0, none⟩)]) ∧ IterAt w' B (.slice a M.length c) M ∧ Pure w w' ∧ w.heap.size ≤ B ∧ Fresh w (.slice a M.length c)
set_option maxHeartbeats 400000 in
theorem All_any {w : World} {D : Nat → Prop} {p : Nat} {sv : Value} {M : List (Option Ent × Value)} (h : LogRow w D p sv M) :
    Calls Tryz.prog 76 #[.pointer (some ⟨p, 0, none⟩)] w (allPost w M) := by
  obtain ⟨c0, c1, c2, cf⟩ := h.cells
  obtain ⟨a, c, rfl, _⟩ := owns_form h.row
  have hP : Pure w (w.alloc (.cells #[.slice none 0 0] 29)) := (Mod.refl _ w).alloc _
  have HR := Lib.hid ((h.pure hP).read)
  have HL := Lib.hid h
  have hn : M.length ≤ 4294967295 := by have := h.ok.len; rw [List.length_map] at this; omega
  have hlp : p < w.heap.size := lt_of_block h.box
  have hlp1 : p < w.heap.size + 1 := by omega
  clear h hP
  go_enter Tryz.func76, Tryz.ntmps76
  go_wp2_with (first
    | (go_at_call 70; refine Calls.mono (zero_made p true _ (by simpa [go_sem, hlp] using c0)) ?_; rintro e w' ⟨rfl, rfl⟩)
    | (go_at_call 126; refine Calls.mono (clone_entries a M.length c _ _ HR.out hn) ?_; rintro e w1 ⟨a', n', c', rfl, hr, hf, hp⟩; obtain ⟨hpc, hpf⟩ := hp.cells))
  go_ret
  obtain rfl := owns_len hr (by decide) (flat_length slotCells 4 slotCells_length M)
  have hq := hp.heap (fun h => h) (heap_new (w := w) (o := .cells #[.slice none 0 0] 29 (0, 0)) rfl)
  have hm : Mod (fun k => k = w.heap.size) w1 (w1.setCell ⟨w.heap.size, 0, none⟩ (.slice a' M.length c')) := (Mod.refl (fun k => k = w.heap.size) w1).setCell (p := ⟨w.heap.size, 0, none⟩) (fun _ => rfl) _
  have hall : Pure w (w1.setCell ⟨w.heap.size, 0, none⟩ (.slice a' M.length c')) := by
    (repeat' (first | (with_reducible exact Mod.refl _ _) | (with_reducible refine Mod.alloc ?_ _) | (with_reducible refine Mod.drew ?_) | (with_reducible refine Mod.drewN ?_ _) | (with_reducible refine Mod.setCell ?_ ?_ _) | (refine Mod.then ?_ (by with_reducible assumption) ?_)))
    (all_goals (intros; first | (exfalso; assumption) | omega | (simp at *; done) | (simp at *; omega)))
  refine ⟨w.heap.size, a', c', rfl, ⟨heap_setCell_same w1 _ 0 _ _ _ hq, owns_mod hr hm (fun g e h => ?_), fun e v hv => owns_mod (HL.out.vals e v hv) hall (fun _ _ h => h), HL.out.ok⟩, hall, Nat.le_refl _, fun g e => ?_⟩
  · have := hf g e; simp at this; omega
  · have := hf g e; simp at this; omega
end Go.Proofs.YtapplindfijngaaGreat

/- The contracts of the log of layer 9 on lists of entries. Conditions: the log is made (LogAt), the bounds that each theorem names. -/
namespace Go.Proofs.YtapplindfijngaaGreat
open Go.RowKit Go.Shelf
set_option maxRecDepth 100000

/-! ## The log's contracts in words of its entries alone -/
abbrev logPtr (p : Nat) : Value := .pointer (some ⟨p, 0, none⟩)
abbrev entV (x : Ent) (v : Value) : Value := .agg #[.string x.key, v, .int .u64 x.dl, .int .u64 x.birth]
theorem LogRow.toAt {w : World} {D : Nat → Prop} {p : Nat} {sv : Value} {M : List (Option Ent × Value)} (h : LogRow w D p sv M) : LogAt w D p (M.map Prod.fst) := ⟨sv, M, rfl, h⟩
theorem LogAt.pure {w w' : World} {D : Nat → Prop} {p : Nat} {L : List (Option Ent)} (h : LogAt w D p L) (hm : Pure w w') : LogAt w' D p L := by
  obtain ⟨sv, M, rfl, h⟩ := h
  exact (h.pure hm).toAt
theorem LogAt.lt {w : World} {D : Nat → Prop} {p : Nat} {L : List (Option Ent)} (h : LogAt w D p L) {k : Nat} (hk : D k) : k < w.heap.size := by
  obtain ⟨sv, M, rfl, h⟩ := h
  exact h.lt hk
theorem LogAt.ok {w : World} {D : Nat → Prop} {p : Nat} {L : List (Option Ent)} (h : LogAt w D p L) : LogOk L := by
  obtain ⟨sv, M, rfl, h⟩ := h
  exact h.ok
/-- A log's blocks are of two types. -/
theorem LogAt.types {w : World} {D : Nat → Prop} {p : Nat} {L : List (Option Ent)} (h : LogAt w D p L) {k : Nat} (hk : D k) {cs : Array Value} {T : TypeId} {fz : Nat × Nat} (e : w.heap[k]? = some (.cells cs T fz)) : T = 131 ∨ T = 42 := by
  obtain ⟨sv, M, rfl, h⟩ := h
  rcases (h.dd k).1 hk with rfl | e'
  · rw [h.box] at e; cases e; exact .inl rfl
  · obtain ⟨c, e2⟩ := owns_type h.row e'; rw [e2] at e; cases e; exact .inr rfl
theorem LogAt.frame {w w' : World} {D S : Nat → Prop} {p : Nat} {L : List (Option Ent)} (h : LogAt w D p L) (hm : Mod S w w') (hD : ∀ k, D k → ¬ S k) (hS : ∀ k, k < w.heap.size → S k → ∀ cs fz, w.heap[k]? ≠ some (.cells cs 5 fz)) : LogAt w' D p L := by
  obtain ⟨sv, M, rfl, h⟩ := h
  exact (h.frame hm hD hS).toAt
/-- A log behind a change of another one. -/
theorem LogAt.beside {w w' : World} {D S : Nat → Prop} {p q : Nat} {L K : List (Option Ent)} (h : LogAt w D p L) (k : LogAt w S q K) (hm : Mod S w w') (hD : ∀ k, D k → ¬ S k) : LogAt w' D p L :=
  h.frame hm hD (fun i _ hi cs fz e => by rcases k.types hi e with e | e <;> cases e)
/-- A row of another type behind a change of a log. -/
theorem LogAt.owns {w w' : World} {S : Nat → Prop} {q : Nat} {K : List (Option Ent)} (h : LogAt w S q K) (hm : Mod S w w') {T k n : Nat} {v : Value} {xs : List Value} (ho : w.ownsRow 0 T k v n xs) (h1 : T ≠ 131) (h2 : T ≠ 42) : w'.ownsRow 0 T k v n xs :=
  owns_mod ho hm (fun g hg hs => by
    obtain ⟨c, e⟩ := owns_type ho hg
    rcases h.types hs e with e | e
    · exact h1 e
    · exact h2 e)
theorem LogAt.box {w w' : World} {S : Nat → Prop} {q : Nat} {K : List (Option Ent)} (h : LogAt w S q K) (hm : Mod S w w') {b : Nat} {cs : Array Value} {T : TypeId} {fz : Nat × Nat} (hb : w.heap[b]? = some (.cells cs T fz)) (h1 : T ≠ 131) (h2 : T ≠ 42) : w'.heap[b]? = some (.cells cs T fz) :=
  hm.heap (fun hs => by rcases h.types hs hb with e | e; exact h1 e; exact h2 e) hb

def newA (w : World) (e : Ending) (w' : World) : Prop := e = .returned (logPtr w.heap.size) ∧ LogAt w' (fun k => k = w.heap.size) w.heap.size [] ∧ Pure w w' ∧ w.heap.size < w'.heap.size
theorem newA_ok (w : World) : Calls Tryz.prog 21 #[] w (newA w) := by
  refine Calls.mono (entrylog_New w) ?_
  rintro e w' ⟨rfl, rfl⟩
  exact ⟨rfl, (logNew_row (heap_new rfl)).toAt, (Mod.refl _ _).alloc _, by simp⟩

def appendA (w : World) (D : Nat → Prop) (p : Nat) (L : List (Option Ent)) (x : Ent) (e : Ending) (w' : World) : Prop :=
  e = .returned (.tuple #[.int .u32 L.length, .int .i64 0]) ∧ ∃ D', LogAt w' D' p (L ++ [some x]) ∧ Mod D w w' ∧ Grew D D' w
theorem appendA_ok {w : World} {D : Nat → Prop} {p : Nat} {L : List (Option Ent)} (h : LogAt w D p L) (hL : L.length < 4194304) (x : Ent) (hok : x.Ok) (a : Option Addr) (n c : Nat) (hx : ReadAt w (.slice a n c) 1 (bytesOf x.val)) :
    Calls Tryz.prog 22 #[logPtr p, entV x (.slice a n c)] w (appendA w D p L x) := by
  obtain ⟨sv, M, rfl, h⟩ := h
  rw [List.length_map] at hL
  refine Calls.mono (Append_ok h hL x hok a n c hx) ?_
  rintro e w' ⟨rfl, D', sv', v', h1, h2, h3⟩
  refine ⟨by rw [List.length_map], D', ?_, h2, h3⟩
  have := h1.toAt
  rw [List.map_append] at this
  exact this

def removeA (w : World) (D : Nat → Prop) (p i : Nat) (L : List (Option Ent)) (x : Ent) (e : Ending) (w' : World) : Prop :=
  ∃ a n c, e = .returned (.tuple #[entV x (.slice a n c), .int .i64 0]) ∧ BytesAt w' (.slice a n c) (bytesOf x.val) ∧ Fresh w (.slice a n c) ∧ LogAt w' D p (L.set i none) ∧ Mod D w w'
theorem removeA_ok {w : World} {D : Nat → Prop} {p : Nat} {L : List (Option Ent)} (h : LogAt w D p L) (i : Nat) (x : Ent) (hi : L[i]? = some (some x)) :
    Calls Tryz.prog 24 #[logPtr p, .int .u32 i] w (removeA w D p i L x) := by
  obtain ⟨sv, M, rfl, h⟩ := h
  rw [List.getElem?_map] at hi
  cases hm : M[i]? with
  | none => rw [hm] at hi; cases hi
  | some m =>
    obtain ⟨o, v⟩ := m
    rw [hm] at hi
    cases hi
    refine Calls.mono (Remove_hit h hm) ?_
    rintro e w' ⟨a, n, c, rfl, h1, h2, h3, h4⟩
    refine ⟨a, n, c, rfl, h1, h2, ?_, h4⟩
    have := h3.toAt
    rw [List.map_set] at this
    exact this

theorem lenA {w : World} {D : Nat → Prop} {p : Nat} {L : List (Option Ent)} (h : LogAt w D p L) : Calls Tryz.prog 28 #[logPtr p] w fun e w' => e = .returned (.int .i64 L.length) ∧ w = w' := by
  obtain ⟨sv, M, rfl, h⟩ := h
  rw [List.length_map]
  exact Len_any h
theorem liveA {w : World} {D : Nat → Prop} {p : Nat} {L : List (Option Ent)} (h : LogAt w D p L) : Calls Tryz.prog 69 #[logPtr p] w fun e w' => e = .returned (.int .i64 (liveOf L)) ∧ w = w' := by
  obtain ⟨sv, M, rfl, h⟩ := h
  exact Live_any h

/-! ### the key of a slot -/
def keyL (L : List (Option Ent)) (s : Nat) : ByteArray := match L[s]? with
  | some (some e) => e.key
  | _ => ⟨#[]⟩
def hasL (L : List (Option Ent)) (s : Nat) : Bool := match L[s]? with
  | some (some _) => true
  | _ => false
def noL (L : List (Option Ent)) (s : Nat) : Int := if hasL L s then 0 else 9
theorem Key_any {w : World} {D : Nat → Prop} {p : Nat} {L : List (Option Ent)} (h : LogAt w D p L) (i : Nat) (hu : i ≤ 4294967295) :
    Calls Tryz.prog 56 #[logPtr p, .int .u32 i] w fun e w' => e = .returned (.tuple #[.string (keyL L i), .int .i64 (noL L i)]) ∧ w = w' := by
  obtain ⟨sv, M, rfl, h⟩ := h
  cases hi : slotOf M i with
  | none =>
    have HA := Lib.hid (h.miss hu hi)
    have e1 : keyL (M.map Prod.fst) i = ⟨#[]⟩ ∧ noL (M.map Prod.fst) i = 9 := by
      unfold noL hasL keyL
      unfold slotOf at hi
      rw [List.getElem?_map]
      cases hm : M[i]? with
      | none => simp
      | some m =>
        obtain ⟨o, v⟩ := m
        rw [hm] at hi
        have : o = none := by simpa using hi
        subst this
        simp
    rw [e1.1, e1.2]
    clear e1 hi h
    go_enter Tryz.func56, Tryz.ntmps56
    go_wp2_with (go_at_call 73; refine Calls.mono (HA.out _ (Mod.refl _ _)) ?_; rintro e w' ⟨rfl, rfl⟩)
    go_ret2
    exact ⟨rfl, rfl⟩
  | some x =>
    obtain ⟨v, hm⟩ : ∃ v, M[i]? = some (some x, v) := by
      unfold slotOf at hi
      cases hm : M[i]? with
      | none => rw [hm] at hi; cases hi
      | some m =>
        obtain ⟨o, v⟩ := m
        rw [hm] at hi
        have : o = some x := by simpa using hi
        subst this
        exact ⟨v, rfl⟩
    have e1 : keyL (M.map Prod.fst) i = x.key ∧ noL (M.map Prod.fst) i = 0 := by
      unfold noL hasL keyL
      rw [List.getElem?_map, hm]
      simp
    rw [e1.1, e1.2]
    clear e1 hi
    obtain ⟨g, c, rfl, hg, ng, hlt, hn, hc, hf⟩ := h.slot hm
    obtain ⟨c0, c1, c2, cf⟩ := h.cells
    have hok := h.ok.ent x (List.mem_map.2 ⟨_, List.mem_of_getElem? hm, rfl⟩)
    have hb : (x.birth == 0) = false := by have := hok.b0; simp; omega
    have s0 : w.cell? ⟨g, i * 4, none⟩ = _ := hc 0 _ rfl; have s3 := hc 3 _ rfl
    clear h hc hok
    go_enter Tryz.func56, Tryz.ntmps56
    go_wp2_with (go_at_call 73; refine Calls.mono (at_hit p g _ c i x.birth _ c0 c1 hlt hn s3 hb) ?_; rintro e w' ⟨rfl, rfl⟩)
    go_ret2
    exact ⟨rfl, rfl⟩

def getA (w : World) (L : List (Option Ent)) (i : Nat) (e : Ending) (w' : World) : Prop :=
  match L[i]? with
  | some (some x) => ∃ a n c, e = .returned (.tuple #[.agg #[.string x.key, .slice a n c, .int .u64 x.dl, .int .u64 x.birth], .int .i64 0]) ∧ BytesAt w' (.slice a n c) (bytesOf x.val) ∧ Fresh w (.slice a n c) ∧ Pure w w'
  | _ => e = .returned (.tuple #[.agg #[.string ⟨#[]⟩, .slice none 0 0, .int .u64 0, .int .u64 0], .int .i64 9]) ∧ Pure w w'
theorem Get_any {w : World} {D : Nat → Prop} {p : Nat} {L : List (Option Ent)} (h : LogAt w D p L) (i : Nat) (hu : i ≤ 4294967295) :
    Calls Tryz.prog 97 #[logPtr p, .int .u32 i] w (getA w L i) := by
  obtain ⟨sv, M, rfl, h⟩ := h
  unfold getA
  rw [List.getElem?_map]
  cases hm : M[i]? with
  | none =>
    refine Calls.mono (Get_miss h hu (by unfold slotOf; rw [hm]; rfl)) ?_
    intro e w' he
    exact he
  | some m =>
    obtain ⟨o, v⟩ := m
    cases o with
    | none =>
      refine Calls.mono (Get_miss h hu (by unfold slotOf; rw [hm]; rfl)) ?_
      intro e w' he
      exact he
    | some x => exact Get_hit h hm
def copyA (w : World) (L : List (Option Ent)) (e : Ending) (w' : World) : Prop :=
  ∃ q D', e = .returned (logPtr q) ∧ LogAt w' D' q L ∧ Pure w w' ∧ ∀ k, D' k → w.heap.size ≤ k
theorem copyA_ok {w : World} {D : Nat → Prop} {p : Nat} {L : List (Option Ent)} (h : LogAt w D p L) : Calls Tryz.prog 75 #[logPtr p] w (copyA w L) := by
  obtain ⟨sv, M, rfl, h⟩ := h
  refine Calls.mono (Copy_any h) ?_
  rintro e w' ⟨q, sv', D', rfl, h1, h2, h3⟩
  exact ⟨q, D', rfl, h1.toAt, h2, h3⟩
def allA (w : World) (L : List (Option Ent)) (e : Ending) (w' : World) : Prop :=
  ∃ M B a c, M.map Prod.fst = L ∧ e = .returned (.func (.func 127) #[] #[.pointer (some ⟨B, 0, none⟩)]) ∧ IterAt w' B (.slice a M.length c) M ∧ Pure w w' ∧ w.heap.size ≤ B ∧ Fresh w (.slice a M.length c)
theorem allA_ok {w : World} {D : Nat → Prop} {p : Nat} {L : List (Option Ent)} (h : LogAt w D p L) : Calls Tryz.prog 76 #[logPtr p] w (allA w L) := by
  obtain ⟨sv, M, rfl, h⟩ := h
  refine Calls.mono (All_any h) ?_
  rintro e w' ⟨B, a, c, h1, h2, h3, h4, h5⟩
  exact ⟨M, B, a, c, rfl, h1, h2, h3, h4, h5⟩
end Go.Proofs.YtapplindfijngaaGreat

/- The reference of layer 4: ValidKey, Check, Copy, Equal. Conditions: the bytes are read as cells (ReadAt), the lengths are small. -/
namespace Go.Proofs.YtapplindfijngaaGreat
open Go.RowKit
set_option maxRecDepth 100000

theorem ref_ValidKey (s : ByteArray) (w : World) (h0 : 0 < s.size) (h1 : s.size ≤ 250) : Calls Tryz.prog 108 #[.string s] w fun e w' => e = .returned (.bool true) ∧ w = w' := by
  have h2 : (1 : Int) ≤ s.size := by omega
  have h3 : (s.size : Int) ≤ 250 := by omega
  go_enter Tryz.func108, Tryz.ntmps108
  go_wp2
  go_ret
  exact ⟨by simp <;> omega, rfl⟩
theorem ref_Check_ok (s : ByteArray) (a : Option Addr) (n c : Nat) (b : Int) (w : World) (h0 : 0 < s.size) (h1 : s.size ≤ 250) (hn : n ≤ 65536) (hb : (b == 0) = false) :
    Calls Tryz.prog 53 #[.string s, .slice a n c, .int .u64 b] w fun e w' => e = .returned (.int .i64 0) ∧ w = w' := by
  have hn' : (n : Int) ≤ 65536 := by omega
  go_enter Tryz.func53, Tryz.ntmps53
  go_wp2_with (go_at_call 108; refine Calls.mono (ref_ValidKey s _ h0 h1) ?_; rintro e w1 ⟨rfl, rfl⟩)
  go_ret
  exact ⟨by simp, rfl⟩

set_option maxHeartbeats 1000000 in
theorem ref_Copy (k : ByteArray) (a : Option Addr) (n c : Nat) (d b : Int) (xs : List Value) (w : World) (hx : ReadAt w (.slice a n c) 1 xs) (hn : n ≤ 65536) :
    Calls Tryz.prog 72 #[.agg #[.string k, .slice a n c, .int .u64 d, .int .u64 b]] w (copyPost k xs d b w) := by
  obtain ⟨i0, hi, iz0, iz1, iz2⟩ := info_parts info_u8
  have hl := read_length hx
  have HX := Lib.hid hx
  clear hx
  go_enter Tryz.func72, Tryz.ntmps72
  go_wp2
  have hP : Pure w ((w.alloc (.cells #[.string k, .slice a n c, .int .u64 d, .int .u64 b] 42)).alloc (.cells #[.string ⟨#[]⟩, .slice none 0 0, .int .u64 0, .int .u64 0] 42)) := ((Mod.refl _ w).alloc _).alloc _
  have H := Lib.hid (HX.out.frame hP (fun _ _ h => h))
  have hA := heap_keep (o := .cells #[.string ⟨#[]⟩, .slice none 0 0, .int .u64 0, .int .u64 0] 42 (0, 0)) (heap_new (w := w) (o := .cells #[.string k, .slice a n c, .int .u64 d, .int .u64 b] 42 (0, 0)) rfl)
  have hB := heap_new (w := w.alloc (.cells #[.string k, .slice a n c, .int .u64 d, .int .u64 b] 42)) (o := .cells #[.string ⟨#[]⟩, .slice none 0 0, .int .u64 0, .int .u64 0] 42 (0, 0)) (n := w.heap.size + 1) (by simp)
  generalize (w.alloc (.cells #[.string k, .slice a n c, .int .u64 d, .int .u64 b] 42)).alloc (.cells #[.string ⟨#[]⟩, .slice none 0 0, .int .u64 0, .int .u64 0] 42) = W at hP H hA hB ⊢
  have hlB := lt_of_block hB
  have r0 := cell_of_row W _ 0 _ _ _ hA; have r1 := cell_of_row W _ 1 _ _ _ hA; have r2 := cell_of_row W _ 2 _ _ _ hA; have r3 := cell_of_row W _ 3 _ _ _ hA
  simp at r0 r1 r2 r3
  have d0 : W.drew.cell? ⟨w.heap.size, 0, none⟩ = some (.string k) := r0; have d1 : W.drew.cell? ⟨w.heap.size, 1, none⟩ = some (.slice a n c) := r1; have d2 : W.drew.cell? ⟨w.heap.size, 2, none⟩ = some (.int .u64 d) := r2; have d3 : W.drew.cell? ⟨w.heap.size, 3, none⟩ = some (.int .u64 b) := r3
  have HB := Lib.hid hB
  have HP := Lib.hid hP
  clear hA hB hP HX
  go_region_held3 (fun w' => w'.cell? ⟨w.heap.size, 0, none⟩ = some (.string k) ∧ w'.cell? ⟨w.heap.size, 1, none⟩ = some (.slice a n c) ∧ w'.cell? ⟨w.heap.size, 2, none⟩ = some (.int .u64 d) ∧ w'.cell? ⟨w.heap.size, 3, none⟩ = some (.int .u64 b))
    (first | exact ⟨by with_reducible assumption, by with_reducible assumption, by with_reducible assumption, by with_reducible assumption⟩ | exact ⟨by simpa [go_sem] using hp2.cell (fun h => h) r0, by simpa [go_sem] using hp2.cell (fun h => h) r1, by simpa [go_sem] using hp2.cell (fun h => h) r2, by simpa [go_sem] using hp2.cell (fun h => h) r3⟩)
    (first | (refine step_append_read _ (by rfl) _ _ 33 (by rfl) 5 i0 _ 1 1 Tryz.underlying33 hi iz0 iz1 iz2 rfl (by decide) (.slice none 0 0) 0 [] (by rfl) (World.ownsRow_nil _ _ _ _) _ xs n (by rfl) H.out hl (by unfold maxLen; omega) (by omega) ?_; intro a2 c2 w2 hown2 hgrow2 hat2; have hp2 : Pure W w2 := Mod.of_drew (Mod.of_grown (S := fun _ => False) hgrow2 (fun k e _ => (by cases e))); obtain ⟨g5, f5⟩ := hp2.box HB.out (fun h => h); have g50 := g5 0; have g51 := g5 1; have g52 := g5 2; have g53 := g5 3; simp at g50 g51 g52 g53; clear g5; have q0 := hp2.cell (fun h => h) r0; have q1 := hp2.cell (fun h => h) r1; have q2 := hp2.cell (fun h => h) r2; have q3 := hp2.cell (fun h => h) r3))
  simp only [List.nil_append, Nat.zero_add] at hown2 hat2
  have hm : Mod (fun k => k = w.heap.size + 1) w2 ((((w2.setCell ⟨w.heap.size + 1, 0, none⟩ (.string k)).setCell ⟨w.heap.size + 1, 1, none⟩ (.slice a2 n c2)).setCell ⟨w.heap.size + 1, 2, none⟩ (.int .u64 d)).setCell ⟨w.heap.size + 1, 3, none⟩ (.int .u64 b)) :=
    ((((Mod.refl (fun k => k = w.heap.size + 1) w2).setCell (p := ⟨w.heap.size + 1, 0, none⟩) (fun _ => rfl) _).setCell (p := ⟨w.heap.size + 1, 1, none⟩) (fun _ => rfl) _).setCell (p := ⟨w.heap.size + 1, 2, none⟩) (fun _ => rfl) _).setCell (p := ⟨w.heap.size + 1, 3, none⟩) (fun _ => rfl) _
  have hb2 : ∀ g, (Value.slice a2 n c2).ownBlock = some g → w.heap.size + 1 < g := by
    intro g hg
    rcases hat2 with e | e <;> rw [e] at hg
    · cases hg
    · simp at hg; omega
  have z := heap_setCell_same _ _ 3 _ _ (.int .u64 b) (heap_setCell_same _ _ 2 _ _ (.int .u64 d) (heap_setCell_same _ _ 1 _ _ (.slice a2 n c2) (heap_setCell_same w2 _ 0 _ _ (.string k) (hp2.heap (fun h => h) HB.out))))
  have z0 := cell_of_row _ _ 0 _ _ _ z; have z1 := cell_of_row _ _ 1 _ _ _ z; have z2 := cell_of_row _ _ 2 _ _ _ z; have z3 := cell_of_row _ _ 3 _ _ _ z
  simp at z0 z1 z2 z3
  clear z
  go_wp2
  refine bodyPost_ret (v := .agg #[.string k, .slice a2 n c2, .int .u64 d, .int .u64 b]) (by simp [results, Tryz.results72, go_sem, z0, z1, z2, z3]) rfl ⟨a2, n, c2, rfl, owns_mod hown2 hm (fun g hg h => by have := hb2 g hg; omega), fun g hg => by have := hb2 g hg; omega, ?_⟩
  exact (HP.out.trans hp2).then hm (fun i hi h => by omega)
end Go.Proofs.YtapplindfijngaaGreat

/- compact.Log: the log of the entries and their old slot numbers. Condition: the log is made (LogRow). -/
namespace Go.Proofs.YtapplindfijngaaGreat
open Go.RowKit Go.Shelf
set_option maxRecDepth 100000
attribute [local go_sem] Oper.semAt_some

theorem info_u32 : (Tryz.prog.info? 43).map (fun i => (i.zero, i.size, i.bytes)) = some (some (.int .u32 0), 1, 4) := by kernel_rfl

/-! ### compact.Log -/
def compactPost (w : World) (L : List (Option Ent)) (e : Ending) (w' : World) : Prop :=
  ∃ q a c D sv M', e = .returned (.tuple #[.pointer (some ⟨q, 0, none⟩), .agg #[.slice a (live L).length c, .int .i64 L.length], .int .i64 0]) ∧ LogRow w' D q sv M' ∧
    M'.map Prod.fst = (live L).map (fun g => some g.2) ∧ w'.ownsRow 0 43 1 (.slice a (live L).length c) (live L).length ((live L).map fun g => .int .u32 g.1) ∧
    Pure w w' ∧ (∀ k, D k → w.heap.size ≤ k) ∧ Fresh w (.slice a (live L).length c)

/-- Above the results' boxes, and no box of ours nor block of the iterator. -/
def farC (w : World) (b5 b6 : Nat) (It : Nat → Prop) (k : Nat) : Prop := w.heap.size + 1 + 1 < k ∧ k ≠ b5 ∧ k ≠ b6 ∧ ¬ It k
/-- Between two rounds of the loop over All. -/
structure CInv (w : World) (b5 b6 q : Nat) (len : Int) (It : Nat → Prop) (D : Nat → Prop) (pre : List Given) (W : World) : Prop where
  r0 : W.heap[w.heap.size]? = some (.cells #[.pointer none] 58 (0, 0))
  r1 : W.heap[w.heap.size + 1]? = some (.cells #[.slice none 0 0, .int .i64 0] 81 (0, 0))
  r2 : W.heap[w.heap.size + 1 + 1]? = some (.cells #[.int .i64 0] 44 (0, 0))
  o5 : W.heap[b5]? = some (.cells #[.pointer (some ⟨q, 0, none⟩)] 58 (0, 0))
  o6 : ∃ a c, W.heap[b6]? = some (.cells #[.slice a pre.length c, .int .i64 len] 81 (0, 0)) ∧ W.ownsRow 0 43 1 (.slice a pre.length c) pre.length (pre.map fun g => .int .u32 g.1) ∧ ∀ k, (Value.slice a pre.length c).ownBlock = some k → farC w b5 b6 It k ∧ ¬ D k
  lg : ∃ sv M', LogRow W D q sv M' ∧ M'.map Prod.fst = pre.map (fun g => some g.2.1)
  dd : ∀ k, D k → farC w b5 b6 It k
  pu : Pure w W
theorem CInv.quiet {w : World} {b5 b6 q : Nat} {len : Int} {It D : Nat → Prop} {pre : List Given} {A B : World} (h : CInv w b5 b6 q len It D pre A) {N : Nat} (hN : w.heap.size ≤ N) (hq : Quiet N A B) : CInv w b5 b6 q len It D pre B := by
  obtain ⟨a, c, h1, h2, h3⟩ := h.o6
  obtain ⟨sv, M', h4, h5⟩ := h.lg
  exact ⟨hq.cells h.r0, hq.cells h.r1, hq.cells h.r2, hq.cells h.o5, ⟨a, c, hq.cells h1, hq.owns h2, h3⟩, ⟨sv, M', h4.quiet hq, h5⟩, h.dd, hq.mod h.pu hN⟩

/-- Behind the round's assignments. -/
def CAx (w : World) (p q q2 : Nat) (len : Int) (B : Nat) (It : Nat → Prop) (L : List (Option Ent)) (N : Nat) (pre : List Given) (x : Given) (a' : Act) (W : World) : Prop :=
  ∃ D b8 va vn vc, x.2.2 = .slice va vn vc ∧ CInv w (q + 1) (q + 1 + 1) q len It D pre W ∧ promise N L pre x W ∧ W.heap[b8]? = some (.cells #[.string x.2.1.key, x.2.2, .int .u64 x.2.1.dl, .int .u64 x.2.1.birth] 42 (0, 0)) ∧ ¬ D b8 ∧ ¬ It b8 ∧ N ≤ b8 ∧ N ≤ W.heap.size ∧
    a' = { tmps := #[.pointer (some ⟨p, 0, none⟩), undef, .pointer (some ⟨w.heap.size, 0, none⟩), .pointer (some ⟨w.heap.size + 1, 0, none⟩), .pointer (some ⟨w.heap.size + 1 + 1, 0, none⟩), .pointer (some ⟨q + 1, 0, none⟩), .pointer (some ⟨q + 1 + 1, 0, none⟩),
      .int .u32 x.1, .pointer (some ⟨b8, 0, none⟩), undef, undef, .pointer (some ⟨p, 0, none⟩), .pointer (some ⟨q2, 0, none⟩), .bool false, undef, .pointer (some ⟨q, 0, none⟩), .pointer (some ⟨p, 0, none⟩), .int .i64 len, .agg #[.slice none 0 0, .int .i64 len],
      .pointer (some ⟨p, 0, none⟩), .func (.func 127) #[] #[.pointer (some ⟨B, 0, none⟩)], .int .u32 x.1, .agg #[.string x.2.1.key, x.2.2, .int .u64 x.2.1.dl, .int .u64 x.2.1.birth],
      undef, undef, undef, undef, undef, undef, undef, undef, undef, undef, undef, undef, undef, undef, undef, undef, undef, undef], defers := [] }
theorem CAx.quiet {w : World} {p q q2 : Nat} {len : Int} {B : Nat} {It : Nat → Prop} {L : List (Option Ent)} {N : Nat} {pre : List Given} {x : Given} {a' : Act} {A W : World} (h : CAx w p q q2 len B It L N pre x a' A) (hN : w.heap.size ≤ N) (hq : Quiet N A W) : CAx w p q q2 len B It L N pre x a' W := by
  obtain ⟨D, b8, va, vn, vc, h1, h2, h3, h4, h5, h6, h7, h8, h9⟩ := h
  exact ⟨D, b8, va, vn, vc, h1, h2.quiet hN hq, h3.quiet hq, hq.cells h4, h5, h6, h7, Nat.le_trans h8 (Mod.size hq), h9⟩

set_option maxHeartbeats 1000000 in
theorem compact_Log {w : World} {D : Nat → Prop} {p : Nat} {sv : Value} {M : List (Option Ent × Value)} (h : LogRow w D p sv M) :
    Calls Tryz.prog 87 #[.pointer (some ⟨p, 0, none⟩)] w (compactPost w (M.map Prod.fst)) := by
  have HL := Lib.hid h
  have hlp : p < w.heap.size := lt_of_block h.box
  clear h
  refine (callsIn_wide (n := 0)).1 (callsIn_of_wp_marks Tryz.func87 rfl trivial ?_ rfl)
  simp only [Tryz.ntmps87, List.size_toArray, List.length_cons, List.length_nil, Nat.reduceAdd, Nat.reduceSub, Array.replicate_succ, Array.replicate_zero, List.push_toArray, List.append_toArray, List.nil_append, List.cons_append]
  gi_wp2_with (first
    | (gi_at_call 75; refine (callsIn_wide.2 (Copy_any (HL.out.pure (by (repeat' (first | (with_reducible exact Mod.refl _ _) | (with_reducible refine Mod.alloc ?_ _) | (with_reducible refine Mod.drew ?_) | (with_reducible refine Mod.drewN ?_ _) | (with_reducible refine Mod.setCell ?_ ?_ _) | (refine Mod.then ?_ (by with_reducible assumption) ?_))) <;> (all_goals (intros; first | (exfalso; assumption) | omega | (simp at *; done) | (simp at *; omega))))))).mono ?_; rintro e w1 ⟨q2, sv', D', rfl, _, hp, _⟩)
    | (gi_at_call 21; refine (callsIn_wide.2 (entrylog_New _)).mono ?_; rintro e w2 ⟨rfl, rfl⟩)
    | (gi_at_call 28; refine (callsIn_wide.2 (Len_any (HL.out.pure (by (repeat' (first | (with_reducible exact Mod.refl _ _) | (with_reducible refine Mod.alloc ?_ _) | (with_reducible refine Mod.drew ?_) | (with_reducible refine Mod.drewN ?_ _) | (with_reducible refine Mod.setCell ?_ ?_ _) | (refine Mod.then ?_ (by with_reducible assumption) ?_))) <;> (all_goals (intros; first | (exfalso; assumption) | omega | (simp at *; done) | (simp at *; omega))))))).mono ?_; rintro e w2 ⟨rfl, rfl⟩)
    | (gi_at_call 76; refine (callsIn_wide.2 (All_any (HL.out.pure (by (repeat' (first | (with_reducible exact Mod.refl _ _) | (with_reducible refine Mod.alloc ?_ _) | (with_reducible refine Mod.drew ?_) | (with_reducible refine Mod.drewN ?_ _) | (with_reducible refine Mod.setCell ?_ ?_ _) | (refine Mod.then ?_ (by with_reducible assumption) ?_))) <;> (all_goals (intros; first | (exfalso; assumption) | omega | (simp at *; done) | (simp at *; omega))))))).mono ?_; rintro e w3 ⟨B, a, c, rfl, hit, hp3, hB, hfr⟩))
  have hz : w.heap.size + 1 + 1 < w1.heap.size := by have := hp.size; simp at this; omega
  have hcl : ∀ W, Pure ((((w1.alloc (.cells #[.bool true, .slice none 0 0, .int .i64 0] 131)).alloc (.cells #[.pointer (some ⟨w1.heap.size, 0, none⟩)] 58)).alloc (.cells #[.slice none 0 0, .int .i64 M.length] 81))) W →
      CInv w (w1.heap.size + 1) (w1.heap.size + 1 + 1) w1.heap.size M.length (iterBlocks B (.slice a M.length c) M) (fun k => k = w1.heap.size) [] W := by
    intro W hW
    have hlow : ∀ k, k < w1.heap.size → ∀ o, w1.heap[k]? = some o → W.heap[k]? = some o := fun k hk o ho => hW.heap (fun h => h) (heap_keep (heap_keep (heap_keep ho)))
    refine ⟨hlow _ (by omega) _ (hp.heap (fun h => h) (heap_keep (heap_keep (heap_new rfl)))), hlow _ (by omega) _ (hp.heap (fun h => h) (heap_keep (heap_new (by simp)))), hlow _ (by omega) _ (hp.heap (fun h => h) (heap_new (by simp))),
      hW.heap (fun h => h) (heap_keep (heap_new (by simp))), ⟨none, 0, hW.heap (fun h => h) (heap_new (by simp)), World.ownsRow_nil _ _ _ _, (fun k e => by cases e)⟩, ⟨_, [], logNew_row (hW.heap (fun h => h) (heap_keep (heap_keep (heap_new rfl)))), rfl⟩, ?_, ?_⟩
    · rintro k rfl
      refine ⟨by omega, by omega, by omega, ?_⟩
      simp at hB
      rintro (h | h | ⟨e, v, hm, h⟩)
      · omega
      · have := hfr _ h; simp at this; omega
      · have := owns_lt (HL.out.vals e v hm) h; omega
    · (repeat' (first | (with_reducible exact Mod.refl _ _) | (with_reducible refine Mod.alloc ?_ _) | (with_reducible refine Mod.drew ?_) | (with_reducible refine Mod.drewN ?_ _) | (with_reducible refine Mod.setCell ?_ ?_ _) | (refine Mod.then ?_ (by with_reducible assumption) ?_)))
      (all_goals (intros; first | (exfalso; assumption) | omega | (simp at *; done) | (simp at *; omega)))
  have hlive : (live (M.map Prod.fst)).length ≤ 4194304 := Nat.le_trans (live_length _) HL.out.ok.len
  have hIq : ∀ k, w.heap.size ≤ k → k ≤ w1.heap.size + 1 + 1 → ¬ iterBlocks B (.slice a M.length c) M k := by
    simp at hB
    rintro k h1 h2 (h | h | ⟨e, v, hm, h⟩)
    · omega
    · have := hfr _ h; simp at this; omega
    · have := owns_lt (HL.out.vals e v hm) h; omega
  have HC := Lib.hid hcl
  have HI := Lib.hid hit
  have hlv := HL.out.vals
  have hItlt : ∀ k, iterBlocks B (.slice a M.length c) M k → k < w3.heap.size := by
    rintro k (rfl | h | ⟨e, v, hm, h⟩)
    · exact lt_of_block hit.box
    · exact owns_lt hit.row h
    · exact owns_lt (hit.vals e v hm) h
  have hw3 : w1.heap.size + 1 + 1 < w3.heap.size := by have := hp3.size; simp at this; omega
  have hI0 : CInv w (w1.heap.size + 1) (w1.heap.size + 1 + 1) w1.heap.size M.length (iterBlocks B (.slice a M.length c) M) (fun k => k = w1.heap.size) [] w3 := hcl w3 hp3
  have hlw : w.heap.size ≤ w3.heap.size := by omega
  clear hcl hit hlv hp hp3 hB hfr
  have HIQ := Lib.hid hIq
  clear hIq
  generalize hIt : iterBlocks B (.slice a M.length c) M = It at *
  generalize w1.heap.size = q at *
  refine wp_range (gf := 127) (lb := #[.pointer (some ⟨B, 0, none⟩)]) rfl (enters_of Tryz.func127 (by kernel_rfl) rfl) (It := It) (hIt ▸ All_iter HI.out w3.heap.size (Nat.le_refl _)) hItlt (fun _ => rfl)
    (fun pre W => (∃ D, CInv w (q + 1) (q + 1 + 1) q M.length It D pre W) ∧ w3.heap.size ≤ W.heap.size) (fun _ _ _ => False) ?hI ?hIx ⟨⟨_, hI0⟩, Nat.le_refl _⟩ (CAx w p q q2 M.length B It (M.map Prod.fst) w3.heap.size) ?hAx ?assign ?body ?done ?stop
  case hI => exact fun pre A B ⟨⟨D, h⟩, hz⟩ hq => ⟨⟨D, h.quiet hlw hq⟩, Nat.le_trans hz (Mod.size hq)⟩
  case hIx => exact fun _ _ _ _ h _ => h
  case hAx => exact fun _ _ _ _ _ h hq => h.quiet hlw hq
  case assign =>
    rintro l pre ⟨i, x, v⟩ W K ⟨⟨D, hI⟩, hWs⟩ hG hK
    obtain ⟨va, vc, hv, _⟩ := owns_form hG.2.1
    dsimp only at hv
    subst hv
    dsimp only [encG]
    have HCI := Lib.hid hI
    have HG := Lib.hid hG
    have HK := Lib.hid hK
    have HIT := Lib.hid hItlt
    clear hI hG hK HC hI0 HI hItlt
    gi_wp2
    have hP : Pure W (W.alloc (.cells #[.string x.key, .slice va (bytesOf x.val).length vc, .int .u64 x.dl, .int .u64 x.birth] 42)) := (Mod.refl _ W).alloc _
    refine HK.out _ _ hP ⟨D, W.heap.size, va, _, vc, rfl, HCI.out.quiet hlw (Quiet.of_pure hP), HG.out.quiet (Quiet.of_pure (N := 0) hP), heap_new rfl, fun h => ?_, fun h => ?_, hWs, Nat.le_trans hWs hP.size, rfl⟩
    · obtain ⟨_, _, h1, _⟩ := HCI.out.lg
      exact absurd (h1.lt h) (Nat.lt_irrefl _)
    · have := HIT.out _ h; omega
  case body =>
    rintro l pre ⟨i, x, v⟩ a' W hl hlr ⟨D, b8, va, vn, vc, rfl, hI, hG, hb8, hD8, hI8, hN8, hWs, rfl⟩
    obtain ⟨⟨post, hpost⟩, hv, hvf⟩ := hG
    dsimp only at hpost hv hvf
    have hmem := live_mem (g := (i, x)) (by rw [hpost]; simp [keyG])
    have hxok : x.Ok := HL.out.ok.ent x (List.mem_of_getElem? hmem)
    have hxi : i < M.length := by simpa using (List.getElem?_eq_some_iff.1 hmem).1
    have hpl : pre.length < 4194304 := by have := hlive; rw [hpost] at this; simp at this; omega
    obtain ⟨sv1, M1, hlg, hM1⟩ := hI.lg
    have hM1l : M1.length = pre.length := by rw [← List.length_map (f := Prod.fst), hM1, List.length_map]
    have h5 := hI.o5
    obtain ⟨a6, c6, h6, hr6, hf6⟩ := hI.o6
    have hx1 := hv.read (bytesOf_one _)
    obtain ⟨va', vn', vc', hve, hvl, _⟩ := id hx1
    cases hve
    have e5 := cell_of_row W _ 0 _ _ _ h5; have e6 := cell_of_row W _ 0 _ _ _ h6; have e61 := cell_of_row W _ 1 _ _ _ h6
    have e8 := cell_of_row W _ 0 _ _ _ hb8; have e81 := cell_of_row W _ 1 _ _ _ hb8; have e82 := cell_of_row W _ 2 _ _ _ hb8; have e83 := cell_of_row W _ 3 _ _ _ hb8
    simp at e5 e6 e61 e8 e81 e82 e83
    have HCI := Lib.hid hI
    have HM1 := Lib.hid hM1
    have HPOST := Lib.hid hpost
    have HR6 := Lib.hid hr6
    have HF6 := Lib.hid hf6
    have HLG := Lib.hid hlg
    have HX1 := Lib.hid hx1
    have HML : Hid (M1.length < 4194304) := by rw [hM1l]; exact hpl
    clear hI hM1 hpost hr6 hf6 hlg hx1 hv hvf hmem hvl HC hI0 HI hlive
    obtain ⟨i0, hi, iz0, iz1, iz2⟩ := info_parts info_u32
    have hlW : q + 1 + 1 < W.heap.size := by omega
    have nD : ∀ k, (k ≤ w.heap.size + 1 + 1 ∨ k = q + 1 ∨ k = q + 1 + 1) → ¬ D k := fun k hk hd => by obtain ⟨f1, f2, f3, _⟩ := HCI.out.dd k hd; omega
    have nd5 := nD (q + 1) (by omega); have nd6 := nD (q + 1 + 1) (by omega)
    have ND := Lib.hid nD
    clear nD
    gi_wp2_with (first
      | (gi_at_call 22; refine CallsIn.mono (CallsIn.inRound l (callsIn_wide.2 (Append_ok HLG.out HML.out x hxok va vn vc HX1.out))) ?_; rintro e w4 ⟨rfl, D', sv2, v2, hlg2, hmd, hgr⟩; have M6 := Lib.hid (Mod.heap hmd nd6 h6); have m6 := cell_of_row w4 _ 0 _ _ _ M6.out; have hz4 : q + 1 + 1 < w4.heap.size := Nat.lt_of_lt_of_le hlW hmd.size)
      | (gi_at_builtin; refine wpListIn_append_read _ rfl _ _ 34 rfl 43 i0 (.int .u32 0) 1 4 Tryz.underlying34 hi iz0 iz1 iz2 rfl (by decide) (.slice a6 pre.length c6) pre.length _ rfl (owns_mod (owns_mod HR6.out hmd (fun g hg => (HF6.out g hg).2)) ((Mod.refl (fun _ => False) _).alloc _) (fun _ _ h => h)) _ [.int .u32 i] 1 rfl (ReadAt.of_block 1 1 1 (heap_new rfl) (by rfl) (by simp [Value.oneCell'])) rfl (by unfold maxLen; omega) (by omega) ?_; intro a7 c7 w5 hr7 hg7 hb7; have M7 := Lib.hid (Mod.heap (Mod.of_grown (S := fun k => (Value.slice a6 pre.length c6).ownBlock = some k) hg7 (fun k e _ => e)) (fun e => (HF6.out _ e).1.2.2.1 rfl) (heap_keep M6.out)); have m7 := cell_of_row w5 _ 0 _ _ _ M7.out; have fr7 := (fun j => frozen_of_row w5 _ j _ _ M7.out)))
    have hlt5 : q + 1 + 1 < w5.heap.size := lt_of_block M7.out
    have hsz5 : w4.heap.size < w5.heap.size := by have := hg7.size; simp at this; omega
    have o6 : ∀ k, (Value.slice a6 pre.length c6).ownBlock = some k → k < W.heap.size := fun k e => owns_lt HR6.out e
    have hA : Mod D W (w4.alloc (.cells #[.int .u32 i] 43)) := hmd.alloc _
    have hB5 : Mod (fun k => (Value.slice a6 pre.length c6).ownBlock = some k ∨ k = q + 1 + 1) w4 (w5.setCell ⟨q + 1 + 1, 0, none⟩ (.slice a7 (pre.length + 1) c7)) :=
      (((Mod.refl _ _).alloc (.cells #[.int .u32 i] 43)).then (Mod.of_grown (S := fun k => (Value.slice a6 pre.length c6).ownBlock = some k) hg7 (fun k e _ => e)) (fun _ _ h => .inl h)).setCell (fun _ => .inr rfl) _
    have hM6 : Mod (fun k => D k ∨ (Value.slice a6 pre.length c6).ownBlock = some k ∨ k = q + 1 + 1) W (w5.setCell ⟨q + 1 + 1, 0, none⟩ (.slice a7 (pre.length + 1) c7)) :=
      (hmd.mono (fun _ _ h => .inl h)).then hB5 (fun _ _ h => .inr h)
    have hfar : ∀ k, (Value.slice a7 (pre.length + 1) c7).ownBlock = some k → farC w (q + 1) (q + 1 + 1) It k ∧ ¬ D' k := by
      intro k hk
      rcases hb7 with e | e <;> rw [e] at hk
      · refine ⟨(HF6.out k hk).1, fun hd => ?_⟩
        rcases hgr k hd with h | h
        · exact (HF6.out k hk).2 h
        · have := o6 k hk; omega
      · have hk2 : w4.heap.size + 1 = k := by simpa using hk
        exact ⟨⟨by omega, by omega, by omega, fun h => by have := hItlt k h; have := hmd.size; omega⟩, fun hd => by have := hlg2.lt hd; omega⟩
    have hTf : ∀ k, (D k ∨ (Value.slice a6 pre.length c6).ownBlock = some k ∨ k = q + 1 + 1) → w.heap.size + 1 + 1 < k ∧ k ≠ q + 1 ∧ ¬ It k := by
      rintro k (h | h | rfl)
      · obtain ⟨f1, f2, _, f3⟩ := HCI.out.dd k h; exact ⟨f1, f2, f3⟩
      · obtain ⟨f1, f2, _, f3⟩ := (HF6.out k h).1; exact ⟨f1, f2, f3⟩
      · exact ⟨by omega, by omega, HIQ.out _ (by omega) (by omega)⟩
    have kp : ∀ k o, (k ≤ w.heap.size + 1 + 1 ∨ k = q + 1) → W.heap[k]? = some o → (w5.setCell ⟨q + 1 + 1, 0, none⟩ (.slice a7 (pre.length + 1) c7)).heap[k]? = some o := fun k o hk ho => hM6.heap (fun h => by obtain ⟨f1, f2, _⟩ := hTf k h; omega) ho
    have hns6 : ∀ k, (Value.slice a7 (pre.length + 1) c7).ownBlock = some k → ¬ k = q + 1 + 1 := fun k hk => (hfar k hk).1.2.2.1
    refine ⟨KeepsRec.of_mod hM6 ?_, KeepsIt.of_mod hM6 (fun k hk h => (hTf k h).2.2 hk), ⟨D', kp _ _ (by omega) HCI.out.r0, kp _ _ (by omega) HCI.out.r1, kp _ _ (by omega) HCI.out.r2, kp _ _ (by omega) HCI.out.o5, ⟨a7, c7, ?_, ?_, ?_⟩, ⟨sv2, _, hlg2.frame hB5 ?_ ?_, ?_⟩, ?_, ?_⟩, ?_⟩
    · intro k _ h o ho
      rcases h with h | h | rfl
      · rcases (HLG.out.dd k).1 h with rfl | e
        · rw [HLG.out.box] at ho; cases ho; rfl
        · obtain ⟨c, e⟩ := owns_type HLG.out.row e; rw [e] at ho; cases ho; rfl
      · obtain ⟨c, e⟩ := owns_type HR6.out h; rw [e] at ho; cases ho; rfl
      · rw [h6] at ho; cases ho; rfl
    · rw [List.length_append]
      simpa using heap_setCell_same w5 _ 0 _ _ (.slice a7 (pre.length + 1) c7) M7.out
    · rw [List.length_append, List.map_append]
      exact owns_mod hr7 ((Mod.refl (fun k => k = q + 1 + 1) w5).setCell (fun _ => rfl) _) hns6
    · rw [List.length_append]; exact hfar
    · rintro k hd (h | rfl)
      · rcases hgr k hd with h' | h'
        · exact (HF6.out k h).2 h'
        · have := o6 k h; omega
      · rcases hgr _ hd with h' | h'
        · exact ND.out _ (by omega) h'
        · omega
    · rintro k hk (h | rfl) cs fz e
      · obtain ⟨c, e'⟩ := owns_type (owns_mod HR6.out hmd (fun g hg => (HF6.out g hg).2)) h
        rw [e'] at e; cases e
      · rw [M6.out] at e; cases e
    · rw [List.map_append, HM1.out, List.map_append]; rfl
    · intro k hd
      rcases hgr k hd with h | h
      · exact HCI.out.dd k h
      · exact ⟨by omega, by omega, by omega, fun h' => by have := hItlt k h'; omega⟩
    · exact HCI.out.pu.then hM6 (fun k hk h => by have := (hTf k h).1; omega)
    · exact Nat.le_trans hWs hM6.size
  case done =>
    rintro l xs W hl hS ⟨⟨D, hI⟩, hWs⟩ hK
    have h0 := hI.r0
    have h1 := hI.r1
    have h2 := hI.r2
    have h5 := hI.o5
    obtain ⟨a6, c6, h6, hr6, hf6⟩ := hI.o6
    have HCI := Lib.hid hI
    have HS := Lib.hid hS
    have HK := Lib.hid hK
    have HR6 := Lib.hid hr6
    have HF6 := Lib.hid hf6
    have e0 := cell_of_row W _ 0 _ _ _ h0; have e1 := cell_of_row W _ 0 _ _ _ h1; have e11 := cell_of_row W _ 1 _ _ _ h1; have e2 := cell_of_row W _ 0 _ _ _ h2
    have e5 := cell_of_row W _ 0 _ _ _ h5; have e6 := cell_of_row W _ 0 _ _ _ h6; have e61 := cell_of_row W _ 1 _ _ _ h6
    simp at e0 e1 e11 e2 e5 e6 e61
    have hlt := lt_of_block h0; have hlt1 := lt_of_block h1; have hlt2 := lt_of_block h2
    clear hI hS hK hr6 hf6 HC hI0 HI hItlt
    have fr0 := fun j => frozen_of_row W _ j _ _ h0; have fr1 := fun j => frozen_of_row W _ j _ _ h1; have fr2 := fun j => frozen_of_row W _ j _ _ h2
    gi_wp2
    gi_region
    gi_wp2
    obtain ⟨Wf, hWf⟩ : ∃ Wf, ((((W.setCell ⟨w.heap.size, 0, none⟩ (.pointer (some ⟨q, 0, none⟩))).setCell ⟨w.heap.size + 1, 0, none⟩ (.slice a6 xs.length c6)).setCell ⟨w.heap.size + 1, 1, none⟩ (.int .i64 M.length)).setCell ⟨w.heap.size + 1 + 1, 0, none⟩ (.int .i64 0)).drew = Wf := ⟨_, rfl⟩
    have k0 : Wf.heap[w.heap.size]? = some (.cells #[.pointer (some ⟨q, 0, none⟩)] 58 (0, 0)) := by
      rw [← hWf]
      exact heap_set_other (heap_set_other (heap_set_other (heap_setCell_same W _ 0 _ _ (.pointer (some ⟨q, 0, none⟩)) h0) (by simp)) (by simp)) (by dsimp only; omega)
    have k1 : Wf.heap[w.heap.size + 1]? = some (.cells #[.slice a6 xs.length c6, .int .i64 M.length] 81 (0, 0)) := by
      rw [← hWf]
      exact heap_set_other (heap_setCell_same _ _ 1 _ _ (.int .i64 M.length) (heap_setCell_same _ _ 0 _ _ (.slice a6 xs.length c6) (heap_set_other h1 (by simp)))) (by simp)
    have k2 : Wf.heap[w.heap.size + 1 + 1]? = some (.cells #[.int .i64 0] 44 (0, 0)) := by
      rw [← hWf]
      exact heap_setCell_same _ _ 0 _ _ (.int .i64 0) (heap_set_other (heap_set_other (heap_set_other h2 (by dsimp only; omega)) (by simp)) (by simp))
    have hMf : Mod (fun k => w.heap.size ≤ k ∧ k ≤ w.heap.size + 1 + 1) W Wf := by
      rw [← hWf]
      exact (((((Mod.refl _ W).setCell (fun _ => ⟨by dsimp only; omega, by dsimp only; omega⟩) _).setCell (fun _ => ⟨by dsimp only; omega, by dsimp only; omega⟩) _).setCell (fun _ => ⟨by dsimp only; omega, by dsimp only; omega⟩) _).setCell (fun _ => ⟨by dsimp only; omega, by dsimp only; omega⟩) _).drew
    rw [hWf]
    have hKf : Wf.heap[l]? = some (.deferred (some [])) := hMf.heap (by omega) HK.out
    clear hWf h0 h1 h2 h5 h6 e0 e1 e11 e2 e5 e6 e61 fr0 fr1 fr2
    have hq : Quiet w3.heap.size Wf (Wf.putObj l (.deferred none)) := Quiet.putObj _ hl hKf rfl
    have z0 := cell_of_row _ _ 0 _ _ _ (hq.cells k0)
    have z1 := cell_of_row _ _ 0 _ _ _ (hq.cells k1)
    have z11 := cell_of_row _ _ 1 _ _ _ (hq.cells k1)
    have z2 := cell_of_row _ _ 0 _ _ _ (hq.cells k2)
    simp at z0 z1 z11 z2
    have hxs : (live (M.map Prod.fst)).length = xs.length := by rw [← HS.out, List.length_map]
    have hnot : ∀ k, w.heap.size + 1 + 1 < k → ¬ (w.heap.size ≤ k ∧ k ≤ w.heap.size + 1 + 1) := fun k h1 h2 => by omega
    refine bodyPostM_drained (v := .tuple #[.pointer (some ⟨q, 0, none⟩), .agg #[.slice a6 xs.length c6, .int .i64 M.length], .int .i64 0]) hKf (by simp [results, Tryz.results87, go_sem, z0, z1, z11, z2]) ?_
    obtain ⟨sv1, M1, hlg, hM1⟩ := HCI.out.lg
    refine ⟨q, a6, c6, D, sv1, M1, by rw [hxs, List.length_map], (hlg.frame hMf (fun k hk => hnot k (HCI.out.dd k hk).1) (fun k _ hk cs fz e => ?_)).quiet hq, ?_, ?_, ?_, fun k hk => by have := (HCI.out.dd k hk).1; omega, ?_⟩
    · have : k = w.heap.size ∨ k = w.heap.size + 1 ∨ k = w.heap.size + 1 + 1 := by omega
      rcases this with rfl | rfl | rfl
      · rw [HCI.out.r0] at e; cases e
      · rw [HCI.out.r1] at e; cases e
      · rw [HCI.out.r2] at e; cases e
    · rw [hM1, ← HS.out, List.map_map]; rfl
    · rw [hxs, ← HS.out, List.map_map]
      exact hq.owns (owns_mod HR6.out hMf (fun g hg => hnot g (HF6.out g hg).1.1))
    · exact hq.mod (HCI.out.pu.then hMf (fun k hk h => by omega)) hlw
    · rw [hxs]
      exact fun k hk => by have := (HF6.out k hk).1.1; omega
  case stop => exact fun _ _ _ _ _ h _ => h.elim
end Go.Proofs.YtapplindfijngaaGreat
