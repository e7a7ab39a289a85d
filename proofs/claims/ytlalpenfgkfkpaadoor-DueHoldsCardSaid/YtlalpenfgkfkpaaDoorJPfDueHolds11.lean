/- Lemmas and contracts of functions, strung together out of 10 texts. No condition. -/
import Derived.Test.YtlalpenfgkfkpaaDoorJPfDueHolds10
import Derived.Test.YtlalpenfgkfkpaaDoorJPfDueHolds8
import Derived.Deep.CutBlock
import Derived.Test.YtlalpenfgkfkpaaDoorJPfDueHolds2
import Derived.Deep.Slices
import Derived.Deep.Fields
import Derived.ChangeSame
/- law20.CascadeHolds by plain lists. No condition. -/
namespace Go.Proofs.YtlalpenfgkfkpaaDoor
section
variable {now one two tt : Nat} {L tk : List Td}
theorem takeWhile_split (h : one ≤ two) : ∀ (L : List Td), dueL one L ++ dueL two (restL one L) = dueL two L ∧ restL two (restL one L) = restL two L
  | [] => ⟨rfl, rfl⟩
  | a :: L => by
    have ih := takeWhile_split h L
    unfold dueL restL at *
    by_cases c : a.dl ≤ one
    · have c2 : a.dl ≤ two := by omega
      simp only [List.takeWhile_cons, List.dropWhile_cons, c, c2, decide_true, if_true, List.cons_append, ih.1, ih.2, and_self]
    · simp only [List.takeWhile_cons, List.dropWhile_cons, c, decide_false, Bool.false_eq_true, if_false, List.nil_append, and_self]
theorem aOut_all (hn : ∀ x ∈ L, now < x.dl) (h : now ≤ tt) : aOut now tt L = dueL tt L ∧ aRest now tt L = restL tt L ∧ aNow now tt = tt ∧ aErr now tt = 0 := by
  unfold aOut aRest aNow aErr
  by_cases c : now < tt
  · rw [if_pos c, if_pos c, if_pos c, if_neg (by omega)]
    exact ⟨rfl, rfl, rfl, rfl⟩
  · have e : now = tt := by omega
    subst e
    rw [if_neg c, if_neg c, if_neg c, if_neg c]
    unfold dueL restL
    have hz : ∀ (A : List Td), (∀ x ∈ A, now < x.dl) → A.takeWhile (fun x => decide (x.dl ≤ now)) = [] ∧ A.dropWhile (fun x => decide (x.dl ≤ now)) = A := fun A hA => by
      cases A with
      | nil => exact ⟨rfl, rfl⟩
      | cons a A =>
        have := hA a List.mem_cons_self
        have c : ¬ a.dl ≤ now := by omega
        simp [c]
    exact ⟨(hz L hn).1.symm, (hz L hn).2.symm, rfl, rfl⟩
theorem rest_gt (hs : L.Pairwise bef) : ∀ x ∈ restL tt L, tt < x.dl := fun x hx => by
  unfold restL at hx
  rw [(takeWhile_filter hs).2] at hx
  have := (List.mem_filter.1 hx).2
  simp at this
  omega
theorem due_le (hs : L.Pairwise bef) {x : Td} : x ∈ dueL tt L ↔ x ∈ L ∧ x.dl ≤ tt := by
  unfold dueL
  rw [(takeWhile_filter hs).1, List.mem_filter]
  simp
theorem rest_mem (hs : L.Pairwise bef) {x : Td} : x ∈ restL tt L ↔ x ∈ L ∧ tt < x.dl := by
  unfold restL
  rw [(takeWhile_filter hs).2, List.mem_filter]
  simp
theorem holds_sum (hs : L.Pairwise bef) (hn : ∀ x ∈ L, now < x.dl) (h1 : now ≤ one) (h2 : one ≤ two) : dueL one L ++ dueL two (restL one L) = dueL two L := (takeWhile_split h2 L).1
theorem due_pos (hs : L.Pairwise bef) (h2 : one ≤ two) {i : Nat} {x : Td} (hx : (dueL two L)[i]? = some x) : (i < (dueL one L).length → x.dl ≤ one) ∧ ((dueL one L).length ≤ i → one < x.dl) := by
  rw [← (takeWhile_split h2 L).1] at hx
  constructor
  · intro h
    rw [List.getElem?_append_left h] at hx
    exact ((due_le hs).1 (List.mem_of_getElem? hx)).2
  · intro h
    rw [List.getElem?_append_right h] at hx
    have := List.mem_of_getElem? hx
    unfold dueL at this
    exact rest_gt hs x ((List.takeWhile_sublist _).subset this)
theorem all_while {p : Td → Bool} : ∀ (A : List Td), (∀ x ∈ A, p x = true) → A.takeWhile p = A ∧ A.dropWhile p = []
  | [], _ => ⟨rfl, rfl⟩
  | a :: A, h => by
    obtain ⟨i1, i2⟩ := all_while A (fun x hx => h x (List.mem_cons_of_mem _ hx))
    have := h a List.mem_cons_self
    simp [this, i1, i2]
theorem due_never (h : ∀ x ∈ L, x.dl < 18446744073709551615) : dueL 18446744073709551615 L = L ∧ restL 18446744073709551615 L = [] :=
  all_while L (fun x hx => by have := h x hx; simp; omega)
theorem due_rest_len : (dueL tt L).length + (restL tt L).length = L.length := by
  unfold dueL restL
  rw [← List.length_append, List.takeWhile_append_dropWhile]
theorem find_first (hu : ∀ x ∈ L, ∀ y ∈ L, x.slot = y.slot → x = y) (hnd : L.Nodup) {i : Nat} {x : Td} (hx : L[i]? = some x) : findR (L.take i) x.slot = -1 := by
  apply find_spec0
  intro j y hy e
  rw [List.getElem?_take] at hy
  split at hy
  · rename_i hj
    have hi := (List.getElem?_eq_some_iff.1 hx).1
    have hxm := List.mem_of_getElem? hx
    have hym := List.mem_of_getElem? hy
    have := hu y hym x hxm e
    subst this
    have hjl := (List.getElem?_eq_some_iff.1 hy).1
    have e1 := (List.getElem?_eq_some_iff.1 hx).2
    have e2 := (List.getElem?_eq_some_iff.1 hy).2
    exact (List.pairwise_iff_getElem.1 hnd) j i hjl hi hj (by rw [e1, e2])
  · cases hy
theorem find_in {s : Nat} (h : ∃ x ∈ L, x.slot = s) : 0 ≤ findR L s := by
  have := hasB_iff.2 h
  unfold findR
  rw [if_pos this]
  omega
theorem find_out {s : Nat} (h : ∀ x ∈ L, x.slot ≠ s) : findR L s = -1 := by
  unfold findR
  rw [if_neg]
  intro hh
  obtain ⟨x, hx, e⟩ := hasB_iff.1 hh
  exact h x hx e
theorem get_in (hu : ∀ x ∈ L, ∀ y ∈ L, x.slot = y.slot → x = y) {x : Td} (hx : x ∈ L) (hs : x.slot < 4194304) : getT L x.slot = (x, 0) := by
  rcases getT_cases L x.slot with ⟨_, _, y, e1, e2, e3, _⟩ | ⟨h1 | h1, _⟩
  · rw [e1, hu y (List.mem_of_getElem? e3) x hx e2]
  · exact absurd hs h1
  · have := hasB_iff.2 ⟨x, hx, rfl⟩
    rw [h1] at this
    cases this
theorem get_out {s : Nat} (h : ∀ x ∈ L, x.slot ≠ s) (hs : s < 4194304) : getT L s = (zTd, 9) := by
  refine getT_miss hs (find_none ?_)
  cases hh : hasB L s with
  | false => rfl
  | true => obtain ⟨x, hx, e⟩ := hasB_iff.1 hh; exact absurd e (h x hx)
/-- What was taken so far. -/
structure Tak (now i : Nat) (tk L : List Td) : Prop where
  perm : tk.Perm L
  slots : ∀ x ∈ tk, x.slot < i ∧ x.birth = x.slot + 1
  len : tk.length ≤ i
theorem Tak.new (now : Nat) : Tak now 0 [] [] := ⟨List.Perm.refl _, (fun _ h => by cases h), Nat.le_refl _⟩
theorem Tak.next {i d : Nat} (h : Tak now i tk L) (hi : i < 4194304) : (schR now L ⟨i, d, i + 1⟩ = 0 ∧ Tak now (i + 1) (tk ++ [⟨i, d, i + 1⟩]) (schL now L ⟨i, d, i + 1⟩)) ∨ (schR now L ⟨i, d, i + 1⟩ ≠ 0 ∧ Tak now (i + 1) tk (schL now L ⟨i, d, i + 1⟩)) := by
  have n1 : hasB L i = false := by
    cases hh : hasB L i with
    | false => rfl
    | true =>
      obtain ⟨y, hy, e⟩ := hasB_iff.1 hh
      have := (h.slots y (h.perm.mem_iff.2 hy)).1
      omega
  have n2 : bornB L (i + 1) = false := by
    cases hh : bornB L (i + 1) with
    | false => rfl
    | true =>
      obtain ⟨y, hy, e⟩ := bornB_iff.1 hh
      have := h.slots y (h.perm.mem_iff.2 hy)
      omega
  by_cases e : schE now ⟨i, d, i + 1⟩ = 0
  · have er : schR now L ⟨i, d, i + 1⟩ = 0 := by unfold schR; rw [if_pos e]; simp [n1, n2]
    refine .inl ⟨er, ?_, fun x hx => ?_, ?_⟩
    · unfold schL
      rw [if_pos er]
      exact (List.perm_append_comm.trans (h.perm.cons _)).trans putL_perm.symm
    · rcases List.mem_append.1 hx with hx | hx
      · have := h.slots x hx
        exact ⟨by omega, this.2⟩
      · rw [List.mem_singleton] at hx
        rw [hx]
        exact ⟨by show i < i + 1; omega, rfl⟩
    · rw [List.length_append]
      have := h.len
      simp
      omega
  · have er : schR now L ⟨i, d, i + 1⟩ ≠ 0 := by unfold schR; rw [if_neg e]; exact e
    refine .inr ⟨er, ?_, fun x hx => ?_, by have := h.len; omega⟩
    · unfold schL
      rw [if_neg er]
      exact h.perm
    · have := h.slots x hx
      exact ⟨by omega, this.2⟩
end
end Go.Proofs.YtlalpenfgkfkpaaDoor

/- law20.CascadeJumps, CascadePlays: the cascade and the reference's wheel side by side. Condition: the lists are read. -/
namespace Go.Proofs.YtlalpenfgkfkpaaDoor
open Go.RowKit Go.Shelf
set_option maxRecDepth 100000
abbrev u64w (l : List Nat) : List Value := l.map (fun x : Nat => (.int .u64 x : Value))
theorem u64w_read {W : World} {a : Option Addr} {n c : Nat} {xs : List Nat} (h : ReadAt W (.slice a n c) 1 (u64w xs)) {j y : Nat} (hy : xs[j]? = some y) : ∃ ad, a = some ad ∧ W.cell? (ad.add j) = some (.int .u64 y) := by
  obtain ⟨a', n', c', e, hl, _, h0, hc⟩ := h
  injection e with e1 e2 e3
  subst e1 e2 e3
  have hj := (List.getElem?_eq_some_iff.1 hy).1
  cases a with
  | none =>
    have := h0 rfl
    subst this
    have : xs = [] := by simpa [u64w] using hl
    subst this
    cases hy
  | some ad => exact ⟨ad, rfl, hc ad rfl j _ (by unfold u64w; rw [List.getElem?_map, hy]; rfl)⟩
section
variable {w0 w wr w5 w6 : World} {D D' : Nat → Prop} {p now now' tt b n c n' c' : Nat} {a a' : Option Addr} {L L' : List Td}
/-- The cascade, the reference's wheel in block b. -/
structure JmI (w0 wr : World) (p now b : Nat) (a : Option Addr) (n c : Nat) (D : Nat → Prop) (L : List Td) : Prop where
  ks : KnS w0 wr D p now L
  rd : RdL wr a n c L
  off : ∀ g, rdBlock (.slice a n c) = some g → ¬ D g ∧ g ≠ b
  box : wr.heap[b]? = some (.cells #[.int .u64 now, .slice a n c] 45 (0, 0))
  nb : ¬ D b
  bw : w0.heap.size ≤ b
  w00 : 0 < w0.heap.size
theorem JmI.pure (h : JmI w0 wr p now b a n c D L) (hp : Pure wr w5) : JmI w0 w5 p now b a n c D L :=
  ⟨h.ks.pure hp, h.rd.pure hp, h.off, hp.heap (fun h => h) h.box, h.nb, h.bw, h.w00⟩
theorem JmI.next (h : JmI w0 wr p now b a n c D L) (hp : Pure wr w5) (hr : RdL w5 a' n' c' L') (hk : Kept wr a n c a' n' c') (hks : KnS w0 w6 D' p now' L') (hg : grewD D D' w5) (hm : Mod D w5 w6) :
    JmI w0 ((w6.setCell ⟨b, 0, none⟩ (.int .u64 now')).setCell ⟨b, 1, none⟩ (.slice a' n' c')) p now' b a' n' c' D' L' := by
  have hbl := lt_of_block h.box
  have hsz := hp.size
  have hDlt : ∀ k, D k → k < wr.heap.size := fun k hk => h.ks.lt hk
  have key : ∀ g, rdBlock (.slice a' n' c') = some g → ¬ D g ∧ g ≠ b ∧ g < w5.heap.size := fun g hg' => by
    have hlt := hr.lt hg'
    rcases hk.rd hg' with e | e
    · exact ⟨(h.off g e).1, (h.off g e).2, hlt⟩
    · exact ⟨fun hd => by have := hDlt g hd; omega, by omega, hlt⟩
  have nb' : ¬ D' b := fun hd => by
    rcases hg b hd with e | e
    · exact h.nb e
    · omega
  have hms := Mod.set2 (w := w6) b 0 1 (.int .u64 now') (.slice a' n' c')
  refine ⟨⟨hks.t.frame hms (fun k hk e => by subst e; exact nb' hk) (fun e => by have := h.bw; have := h.w00; omega), hks.ge, hks.pu.then hms (fun k hk e => by have := h.bw; omega)⟩, (hr.frame hm (fun g hg' => (key g hg').1)).frame hms (fun g hg' => (key g hg').2.1), fun g hg' => ⟨fun hd => ?_, (key g hg').2.1⟩, ?_, nb', h.bw, h.w00⟩
  · rcases hg g hd with e | e
    · exact (key g hg').1 e
    · have := (key g hg').2.2; omega
  · exact heap_set12 (hm.heap h.nb (hp.heap (fun h => h) h.box))
theorem JmI.rdn (h : JmI w0 wr p now b a n c D L) (hr : RdL w5 a' n' c' L') (hk : Kept wr a n c a' n' c') (hm : Mod D w5 w6) : RdL w6 a' n' c' L' :=
  hr.frame hm (fun g hg' hd => by
    rcases hk.rd hg' with e | e
    · exact (h.off g e).1 hd
    · have := h.ks.lt hd; omega)
/-- A block beside. -/
theorem JmI.beside (h : JmI w0 wr p now b a n c D L) (hp : Pure wr w5) (hg : grewD D D' w5) {k : Nat} (hk : k < wr.heap.size) (hn : ¬ D k) : ¬ D' k := fun hd => by
  rcases hg k hd with e | e
  · exact hn e
  · have := hp.size; omega
theorem radv_any (h : RdL w a n c L) (hl : n ≤ 4194304) (hn : ∀ x ∈ L, now < x.dl) :
    Calls Tryd.prog 21 #[whV now a n c, .int .u64 tt] w fun e w' => ∃ a1 n1 c1 a2 n2 c2, e = .returned (.tuple #[whV (aNow now tt) a1 n1 c1, .slice a2 n2 c2, .int .i64 (aErr now tt)]) ∧ RdL w' a1 n1 c1 (aRest now tt L) ∧ Kept w a n c a1 n1 c1 ∧ RdL w' a2 n2 c2 (aOut now tt L) ∧ (∀ g, rdBlock (.slice a2 n2 c2) = some g → w.heap.size ≤ g) ∧ Pure w w' := by
  by_cases ht : tt < now
  · have e1 : aNow now tt = now := by unfold aNow; rw [if_neg (by omega)]
    have e2 : aErr now tt = 3 := by unfold aErr; rw [if_pos ht]
    have e3 : aRest now tt L = L := by unfold aRest; rw [if_neg (by omega)]
    have e4 : aOut now tt L = [] := by unfold aOut; rw [if_neg (by omega)]
    rw [e1, e2, e3, e4]
    refine (radv_no ht).mono ?_
    rintro e w' ⟨rfl, hp⟩
    exact ⟨a, n, c, none, 0, 0, rfl, h.pure hp, .inl ⟨rfl, rfl, rfl⟩, ⟨ReadAt.nil _ _, rfl, Nat.le_refl _, fun _ => rfl⟩, fun g hg => (by cases hg), hp⟩
  · obtain ⟨e1, e2, e3, e4⟩ := aOut_all (tt := tt) hn (by omega)
    rw [e1, e2, e3, e4]
    refine (radv_ok h hl (by omega)).mono ?_
    rintro e w' ⟨a1, c1, a2, c2, rfl, h1, h2, h3, h4, hp⟩
    exact ⟨a1, _, c1, a2, _, c2, rfl, RdL.of_row h1, .inr h3, RdL.of_row h2, fun g hg => h4 g (rdBlock_own hg), hp⟩
theorem KnS.schedM2 (h : KnS w0 w D p now L) {x : Td} (h32 : x.slot ≤ 4294967295) (hd : x.dl ≤ 18446744073709551615) (hb : x.birth ≤ 18446744073709551615) :
    Calls Tryd.prog 13 #[lkP p, tdV x] w fun e w' => e = .returned (.int .i64 (schR now L x)) ∧ ∃ D', KnS w0 w' D' p now (schL now L x) ∧ grewD D D' w ∧ Mod D w w' := by
  refine (h.t.at_.sched h32 hd hb (by have := h.t.at_.count; unfold maxLen; omega)).mono ?_
  rintro e w' ⟨rfl, ⟨D', hc, hg⟩, hm⟩
  exact ⟨rfl, D', h.step (h.t.next hc hg hm) hg hm, hg, hm⟩
theorem KnS.advM2 (h : KnS w0 w D p now L) (ht : tt < 18446744073709551616) {a2 : Option Addr} {n2 c2 : Nat} (hr : RdL w a2 n2 c2 (aOut now tt L)) (hwD : ∀ g, rdBlock (.slice a2 n2 c2) = some g → ¬ D g) :
    Calls Tryd.prog 22 #[lkP p, .int .u64 tt, .slice a2 n2 c2, .int .i64 (aErr now tt)] w fun e w' => e = .returned (.bool true) ∧ ∃ D', KnS w0 w' D' p (aNow now tt) (aRest now tt L) ∧ grewD D D' w ∧ Mod D w w' := by
  refine (advances_ok h.t ht hr.len.symm hr.rd hwD rfl).mono ?_
  rintro e w' ⟨rfl, ⟨D', hc, hg⟩, hm⟩
  exact ⟨rfl, D', h.step hc hg hm, hg, hm⟩
end
end Go.Proofs.YtlalpenfgkfkpaaDoor

/- law20.step: Schedule. Conditions: the cascade lies in memory, the reference's list is read. -/
namespace Go.Proofs.YtlalpenfgkfkpaaDoor
open Go.RowKit Go.Shelf
set_option maxRecDepth 100000
structure Act20 where
  what : Int
  slot : Nat
  birth : Nat
  time : Nat
def actV (t : Act20) : Value := .agg #[.int .i64 t.what, .int .u32 t.slot, .int .u64 t.birth, .int .u64 t.time]
structure ActOk (t : Act20) : Prop where
  s : t.slot ≤ 4294967295
  b : t.birth ≤ 18446744073709551615
  t : t.time ≤ 18446744073709551615
section
variable {w0 w w5 w6 : World} {D D' : Nat → Prop} {p p' now now' n c n' c' b2 : Nat} {a a' : Option Addr} {L L' : List Td} {t : Act20}
/-- The cascade and the reference's list. -/
structure StI (w0 w : World) (p now : Nat) (a : Option Addr) (n c : Nat) (D : Nat → Prop) (L : List Td) : Prop where
  ks : KnS w0 w D p now L
  rd : RdL w a n c L
  off : ∀ g, rdBlock (.slice a n c) = some g → ¬ D g
theorem StI.pure (h : StI w0 w p now a n c D L) (hp : Pure w w5) : StI w0 w5 p now a n c D L := ⟨h.ks.pure hp, h.rd.pure hp, h.off⟩
def StP (w0 w : World) (a : Option Addr) (n c : Nat) (D : Nat → Prop) (e : Ending) (w' : World) : Prop :=
  ∃ p' now' a' n' c' D' L', e = .returned (.tuple #[lkP p', whV now' a' n' c', .bool true]) ∧ StI w0 w' p' now' a' n' c' D' L' ∧ grewD D D' w ∧ Kept w a n c a' n' c' ∧ Mod D w w'
theorem StI.fin (h : StI w0 w p now a n c D L) (hp : Pure w w5) (hr : RdL w5 a' n' c' L') (hk : Kept w a n c a' n' c') (hks : KnS w0 w6 D' p' now' L') (hg : grewD D D' w5) (hm : Mod D w5 w6) (hb : w.heap.size ≤ b2) (hb5 : b2 < w5.heap.size) (hrb : ∀ g, rdBlock (.slice a' n' c') = some g → g ≠ b2) (v0 v1 : Value) :
    StI w0 ((w6.setCell ⟨b2, 0, none⟩ v0).setCell ⟨b2, 1, none⟩ v1) p' now' a' n' c' D' L' ∧ grewD D D' w ∧ Mod D w ((w6.setCell ⟨b2, 0, none⟩ v0).setCell ⟨b2, 1, none⟩ v1) := by
  have hsz := hp.size
  have hDlt : ∀ k, D k → k < w.heap.size := fun k hk => h.ks.lt hk
  have key : ∀ g, rdBlock (.slice a' n' c') = some g → ¬ D g ∧ g < w5.heap.size := fun g hg' => by
    have hlt := hr.lt hg'
    rcases hk.rd hg' with e | e
    · exact ⟨h.off g e, hlt⟩
    · exact ⟨fun hd => by have := hDlt g hd; omega, hlt⟩
  have nb' : ¬ D' b2 := fun hd => by
    rcases hg b2 hd with e | e
    · have := hDlt _ e; omega
    · omega
  have hms := Mod.set2 (w := w6) b2 0 1 v0 v1
  have hpu := h.ks.pu.size
  have hw0 := h.ks.pu
  have h00 : 0 < w.heap.size := h.ks.t.tab.lt
  refine ⟨⟨⟨hks.t.frame hms (fun k hk e => by subst e; exact nb' hk) (fun e => by omega), hks.ge, hks.pu.then hms (fun k hk e => by omega)⟩, (hr.frame hm (fun g hg' => (key g hg').1)).frame hms (fun g hg' => hrb g hg'), fun g hg' hd => ?_⟩, fun k hd => ?_, ((Mod.of_pure hp).trans hm).then hms (fun k hk e => by omega)⟩
  · rcases hg g hd with e | e
    · exact (key g hg').1 e
    · have := (key g hg').2; omega
  · rcases hg k hd with e | e
    · exact .inl e
    · exact .inr (Nat.le_trans hsz e)
/-- Three boxes: a wheel, an act, a wheel's result. -/
def boxA (w : World) (now : Nat) (a : Option Addr) (n c : Nat) (t : Act20) : World := ((w.alloc (.cells #[.int .u64 now, .slice a n c] 45)).alloc (.cells #[.int .i64 t.what, .int .u32 t.slot, .int .u64 t.birth, .int .u64 t.time] 68)).alloc (.cells #[.int .u64 0, .slice none 0 0] 45)
structure BoxA (w W : World) (b0 b1 b2 : Nat) (now : Nat) (a : Option Addr) (n c : Nat) (t : Act20) : Prop where
  pure : Pure w W
  z0 : w.heap.size ≤ b0
  z1 : w.heap.size ≤ b1
  z2 : w.heap.size ≤ b2
  h0 : W.heap[b0]? = some (.cells #[.int .u64 now, .slice a n c] 45 (0, 0))
  h1 : W.heap[b1]? = some (.cells #[.int .i64 t.what, .int .u32 t.slot, .int .u64 t.birth, .int .u64 t.time] 68 (0, 0))
  h2 : W.heap[b2]? = some (.cells #[.int .u64 0, .slice none 0 0] 45 (0, 0))
  ne12 : b1 ≠ b2
  ne02 : b0 ≠ b2
theorem boxA_ok : ∃ W b0 b1 b2, boxA w now a n c t = W ∧ w.heap.size = b0 ∧ w.heap.size + 1 = b1 ∧ w.heap.size + 1 + 1 = b2 ∧ BoxA w W b0 b1 b2 now a n c t := by
  refine ⟨_, _, _, _, rfl, rfl, rfl, rfl, ?_⟩
  have p1 := (Mod.refl (fun _ => False) w).alloc (.cells #[.int .u64 now, .slice a n c] 45)
  have p2 := (Mod.refl (fun _ => False) (w.alloc (.cells #[.int .u64 now, .slice a n c] 45))).alloc (.cells #[.int .i64 t.what, .int .u32 t.slot, .int .u64 t.birth, .int .u64 t.time] 68)
  have p3 := (Mod.refl (fun _ => False) ((w.alloc (.cells #[.int .u64 now, .slice a n c] 45)).alloc (.cells #[.int .i64 t.what, .int .u32 t.slot, .int .u64 t.birth, .int .u64 t.time] 68))).alloc (.cells #[.int .u64 0, .slice none 0 0] 45)
  refine ⟨(p1.trans p2).trans p3, Nat.le_refl _, by omega, by omega, ?_, ?_, ?_, by omega, by omega⟩
  · exact (p2.trans p3).heap (fun h => h) (heap_new rfl)
  · exact p3.heap (fun h => h) (heap_new (by simp))
  · exact heap_new (by simp)
theorem BoxA.cells {W u : World} {b0 b1 b2 : Nat} (h : BoxA w W b0 b1 b2 now a n c t) (hp : Pure W u) : u.cell? ⟨b0, 0, none⟩ = some (.int .u64 now) ∧ u.cell? ⟨b0, 1, none⟩ = some (.slice a n c) ∧ u.cell? ⟨b1, 0, none⟩ = some (.int .i64 t.what) ∧ u.cell? ⟨b1, 1, none⟩ = some (.int .u32 t.slot) ∧ u.cell? ⟨b1, 2, none⟩ = some (.int .u64 t.birth) ∧ u.cell? ⟨b1, 3, none⟩ = some (.int .u64 t.time) := by
  obtain ⟨x0, x1⟩ := whbox (hp.heap (fun h => h) h.h0)
  have h1 := hp.heap (fun h => h) h.h1
  exact ⟨x0, x1, by rw [cell_of_row _ _ 0 _ _ _ h1]; rfl, by rw [cell_of_row _ _ 1 _ _ _ h1]; rfl, by rw [cell_of_row _ _ 2 _ _ _ h1]; rfl, by rw [cell_of_row _ _ 3 _ _ _ h1]; rfl⟩
set_option maxHeartbeats 2000000 in
theorem step_sched (h : StI w0 w p now a n c D L) (ht : ActOk t) (h0 : t.what = 0) :
    Calls Tryd.prog 30 #[lkP p, whV now a n c, actV t] w (StP w0 w a n c D) := by
  unfold whV actV
  obtain ⟨W1, b0, b1, b2, hW, e0, e1, e2, hB⟩ := boxA_ok (w := w) (now := now) (a := a) (n := n) (c := c) (t := t)
  unfold boxA at hW
  have hx := hB.cells (Mod.refl _ W1)
  have hw : (t.what == 0) = true := by rw [h0]; rfl
  have htm := timed_ok t.slot t.time t.birth
  have hs1 := h.pure hB.pure
  have hlL := h.ks.t.at_.count
  rw [h.rd.len] at hlL
  have hrs := fun (W : World) (hp : Pure W1 W) => rsched_ok (now := now) (x := ⟨t.slot, t.time, t.birth⟩) (hs1.pure hp).rd hlL ht.s ht.t ht.b
  have hsc := fun (W : World) (hp : Pure W1 W) => (hs1.pure hp).ks.schedM2 (x := ⟨t.slot, t.time, t.birth⟩) ht.s ht.t ht.b
  obtain ⟨r, hr⟩ : ∃ r, schR now L ⟨t.slot, t.time, t.birth⟩ = r := ⟨_, rfl⟩
  obtain ⟨Ln, hLn⟩ : ∃ Ln, schL now L ⟨t.slot, t.time, t.birth⟩ = Ln := ⟨_, rfl⟩
  rw [hr, hLn] at hrs hsc
  unfold tdV at htm hrs hsc
  unfold whV at hrs
  dsimp only at htm hrs hsc
  have HB := Lib.hid hB; have HW := Lib.hid hW; have E0 := Lib.hid e0; have E1 := Lib.hid e1; have E2 := Lib.hid e2; have HTm := Lib.hid htm; have HRs := Lib.hid hrs; have HSc := Lib.hid hsc; have H1 := Lib.hid hs1; have HH := Lib.hid h
  have HK := Lib.hid (fun (u : World) (hp : Pure W1 u) => hB.cells hp)
  clear hB hW e0 e1 e2 htm hrs hsc hs1 h hr hLn hlL ht h0
  go_enter Tryd.func30, Tryd.ntmps30
  go_upto_region 1 with fail
  rw [HW.out, E2.out, E1.out, E0.out]
  clear HW E0 E1 E2
  obtain ⟨x0, x1, y0, y1, y2, y3⟩ := hx
  go_upto_region 3 with fail
  have HX := Lib.hid (HK.out W1 (Mod.refl _ _))
  go_cut [9, 10] (fun v9 v10 wx => ∃ (b9 : Nat) (a4 : Option Addr) (n4 c4 : Nat), v9 = .pointer (some ⟨b9, 0, none⟩) ∧ v10 = .int .i64 r ∧ Pure W1 wx ∧ W1.heap.size ≤ b9 ∧ wx.heap[b9]? = some (.cells #[.int .u64 now, .slice a4 n4 c4] 45 (0, 0)) ∧ RdL wx a4 n4 c4 Ln ∧ Kept W1 a n c a4 n4 c4)
  case first =>
    refine wp_region_held_drew (S := fun u => u.cell? ⟨b0, 0, none⟩ = some (.int .u64 now) ∧ u.cell? ⟨b0, 1, none⟩ = some (.slice a n c) ∧ u.cell? ⟨b1, 0, none⟩ = some (.int .i64 t.what) ∧ u.cell? ⟨b1, 1, none⟩ = some (.int .u32 t.slot) ∧ u.cell? ⟨b1, 2, none⟩ = some (.int .u64 t.birth) ∧ u.cell? ⟨b1, 3, none⟩ = some (.int .u64 t.time)) (by kernel_rfl) HX.out (fun hHeld => ?_)
    ((refine wpAnyH_take (i := 0) (v := ?_) rfl (by kernel_rfl) (by kernel_rfl) (by kernel_rfl) (fun _ _ _ h => h) (Or.inl ⟨by rfl, ?_⟩) hHeld ?_; rotate_left 1; focus (intro w hS; obtain ⟨s0, s1, s2, s3, s4, s5⟩ := hS; go_simp; try with_reducible rfl)); try simp only [Act.put, List.getElem_toArray, List.getElem_cons_zero, List.getElem_cons_succ, List.setIfInBounds_toArray, List.set_cons_zero, List.set_cons_succ])
    ((refine wpAnyH_take (i := 1) (v := ?_) rfl (by kernel_rfl) (by kernel_rfl) (by kernel_rfl) (fun _ _ _ h => h) (Yields.yieldsIf (Or.inl ⟨by rfl, ?_⟩)) hHeld ?_; rotate_left 1; focus (intro w; go_simp; try with_reducible rfl)); try simp only [Act.put, List.getElem_toArray, List.getElem_cons_zero, List.getElem_cons_succ, List.setIfInBounds_toArray, List.set_cons_zero, List.set_cons_succ])
    ((refine wpAnyH_take (i := 2) (v := ?_) rfl (by kernel_rfl) (by kernel_rfl) (by kernel_rfl) (fun _ _ _ h => h) (Or.inl ⟨by rfl, ?_⟩) hHeld ?_; rotate_left 1; focus (intro w hS; obtain ⟨s0, s1, s2, s3, s4, s5⟩ := hS; go_simp; try with_reducible rfl)); try simp only [Act.put, List.getElem_toArray, List.getElem_cons_zero, List.getElem_cons_succ, List.setIfInBounds_toArray, List.set_cons_zero, List.set_cons_succ])
    ((refine wpAnyH_take (i := 3) (v := ?_) rfl (by kernel_rfl) (by kernel_rfl) (by kernel_rfl) (fun _ _ _ h => h) (Yields.yieldsIf (Or.inl ⟨by rfl, ?_⟩)) hHeld ?_; rotate_left 1; focus (intro w; go_simp; try with_reducible rfl)); try simp only [Act.put, List.getElem_toArray, List.getElem_cons_zero, List.getElem_cons_succ, List.setIfInBounds_toArray, List.set_cons_zero, List.set_cons_succ])
    ((refine wpAnyH_take (i := 4) (v := ?_) rfl (by kernel_rfl) (by kernel_rfl) (by kernel_rfl) (fun _ _ _ h => h) (Or.inl ⟨by rfl, ?_⟩) hHeld ?_; rotate_left 1; focus (intro w hS; obtain ⟨s0, s1, s2, s3, s4, s5⟩ := hS; go_simp; try with_reducible rfl)); try simp only [Act.put, List.getElem_toArray, List.getElem_cons_zero, List.getElem_cons_succ, List.setIfInBounds_toArray, List.set_cons_zero, List.set_cons_succ])
    ((refine wpAnyH_take (i := 5) (v := ?_) rfl (by kernel_rfl) (by kernel_rfl) (by kernel_rfl) (fun _ _ _ h => h) (Yields.yieldsIf (Or.inl ⟨by rfl, ?_⟩)) hHeld ?_; rotate_left 1; focus (intro w; go_simp; try with_reducible rfl)); try simp only [Act.put, List.getElem_toArray, List.getElem_cons_zero, List.getElem_cons_succ, List.setIfInBounds_toArray, List.set_cons_zero, List.set_cons_succ])
    ((refine wpAnyH_take (i := 6) (v := ?_) rfl (by kernel_rfl) (by kernel_rfl) (by kernel_rfl) (fun _ _ _ h => h) (Or.inl ⟨by rfl, ?_⟩) hHeld ?_; rotate_left 1; focus (intro w hS; obtain ⟨s0, s1, s2, s3, s4, s5⟩ := hS; go_simp; try with_reducible rfl)); try simp only [Act.put, List.getElem_toArray, List.getElem_cons_zero, List.getElem_cons_succ, List.setIfInBounds_toArray, List.set_cons_zero, List.set_cons_succ])
    have hdr : Pure W1 W1.drew := (Mod.refl _ _).drew
    clear x0 x1 y0 y1 y2 y3
    refine wpAnyH_ready (rs := [7, 12]) (by kernel_rfl) (by simp) ?_
    refine AllReadyH.cons rfl (fun K hK => ?_) (AllReadyH.cons rfl (fun K hK => ?_) AllReadyH.nil)
    · go_simp
      refine Calls.mono (HTm.out _) ?_
      rintro e u1 ⟨rfl, hq1⟩
      have r1 : Pure W1 u1 := hdr.trans hq1
      refine hK.out _ _ (HK.out _ r1) (fun hHeld => ?_)
      clear hK K
      (try simp only [Act.put, List.getElem_toArray, List.getElem_cons_zero, List.getElem_cons_succ, List.setIfInBounds_toArray, List.set_cons_zero, List.set_cons_succ])
      refine wpAnyH_ready (rs := [8, 12]) (by kernel_rfl) (by simp) ?_
      refine AllReadyH.cons rfl (fun K hK => ?_) (AllReadyH.cons rfl (fun K hK => ?_) AllReadyH.nil)
      · go_simp
        refine Calls.mono (HRs.out _ r1) ?_
        rintro e u2 ⟨a4, n4, c4, rfl, hr4, hk4, hq2⟩
        have r2 : Pure W1 u2 := r1.trans hq2
        refine hK.out _ _ (HK.out _ r2) (fun hHeld => ?_)
        clear hK K
        (try simp only [Act.put, List.getElem_toArray, List.getElem_cons_zero, List.getElem_cons_succ, List.setIfInBounds_toArray, List.set_cons_zero, List.set_cons_succ])
        ((refine wpAnyH_take (i := 9) (v := ?_) rfl (by kernel_rfl) (by kernel_rfl) (by kernel_rfl) (fun _ _ _ h => h) (Yields.yieldsIf (Or.inl ⟨by rfl, ?_⟩)) hHeld ?_; rotate_left 1; focus (intro w; go_simp; try with_reducible rfl)); try simp only [Act.put, List.getElem_toArray, List.getElem_cons_zero, List.getElem_cons_succ, List.setIfInBounds_toArray, List.set_cons_zero, List.set_cons_succ])
        ((refine wpAnyH_take (i := 10) (v := ?_) rfl (by kernel_rfl) (by kernel_rfl) (by kernel_rfl) (fun _ _ _ h => h) (Yields.yieldsIf (Or.inl ⟨by rfl, ?_⟩)) hHeld ?_; rotate_left 1; focus (intro w; go_simp; try with_reducible rfl)); try simp only [Act.put, List.getElem_toArray, List.getElem_cons_zero, List.getElem_cons_succ, List.setIfInBounds_toArray, List.set_cons_zero, List.set_cons_succ])
        ((refine wpAnyH_take (i := 11) (v := ?_) rfl (by kernel_rfl) (by kernel_rfl) (by kernel_rfl) (fun _ _ _ h => h) (Yields.yieldsIf (Or.inl ⟨by rfl, ?_⟩)) hHeld ?_; rotate_left 1; focus (intro w; go_simp; try with_reducible rfl)); try simp only [Act.put, List.getElem_toArray, List.getElem_cons_zero, List.getElem_cons_succ, List.setIfInBounds_toArray, List.set_cons_zero, List.set_cons_succ])
        refine wpAnyH_ready (rs := [12]) (by kernel_rfl) (by simp) ?_
        refine AllReadyH.cons rfl (fun K hK => ?_) AllReadyH.nil
        go_simp
        have r3 := r2.alloc (.cells #[.int .u64 0, .slice none 0 0] 45)
        have hz := heap_new (w := u2) (o := .cells #[.int .u64 0, .slice none 0 0] 45 (0, 0)) rfl
        refine hK.out _ _ (HK.out _ r3) (fun hHeld => ?_)
        clear hK K
        (try simp only [Act.put, List.getElem_toArray, List.getElem_cons_zero, List.getElem_cons_succ, List.setIfInBounds_toArray, List.set_cons_zero, List.set_cons_succ])
        obtain ⟨b9, hb9⟩ : ∃ b, u2.heap.size = b := ⟨_, rfl⟩
        rw [hb9] at hz ⊢
        have hb9w : W1.heap.size ≤ b9 := by have := hdr.size; have := r2.size; omega
        have hne : ∀ g, rdBlock (.slice a4 n4 c4) = some g → g ≠ b9 := fun g hg => by have := hr4.lt hg; omega
        have hrl := hr4.pure ((Mod.refl _ u2).alloc (.cells #[.int .u64 now, .slice a4 n4 c4] 45))
        have hz_0 := cell_of_row _ _ 0 _ _ _ hz; have hz_1 := cell_of_row _ _ 1 _ _ _ hz; have hz_f := (fun j => frozen_of_row _ _ j _ _ hz); have hz_l := lt_of_block hz; simp at hz_0 hz_1; have H_hz := Lib.hid hz; clear hz
        have rS := r2.alloc (.cells #[.int .u64 now, .slice a4 n4 c4] 45)
        have hnw : (u2.alloc (.cells #[.int .u64 now, .slice a4 n4 c4] 45)).heap[b9]? = some (.cells #[.int .u64 now, .slice a4 n4 c4] 45 (0, 0)) := heap_new hb9.symm
        ((refine wpAnyH_ready (rs := [13]) (by kernel_rfl) (by simp) ?_; refine AllReadyH.cons rfl (fun K hK => ?_) AllReadyH.nil; go_simp; skip; refine hK.out _ _ ?_ (fun hHeld => ?_); (· exact HK.out _ rS); clear hK K); try simp only [Act.put, List.getElem_toArray, List.getElem_cons_zero, List.getElem_cons_succ, List.setIfInBounds_toArray, List.set_cons_zero, List.set_cons_succ])
        ((refine wpAnyH_take (i := 14) (v := ?_) rfl (by kernel_rfl) (by kernel_rfl) (by kernel_rfl) (fun _ _ _ h => h) (Yields.yieldsIf (Or.inl ⟨by rfl, ?_⟩)) hHeld ?_; rotate_left 1; focus (intro w; go_simp; try with_reducible rfl)); try simp only [Act.put, List.getElem_toArray, List.getElem_cons_zero, List.getElem_cons_succ, List.setIfInBounds_toArray, List.set_cons_zero, List.set_cons_succ])
        refine wpAnyH_done (by kernel_rfl) ?_ _
        (try go_wp2)
        go_meet
        exact ⟨b9, a4, n4, c4, rfl, rfl, rS, hb9w, hnw, hrl, hk4.mono r1.size⟩
      · go_simp
        have r3 := r1.alloc (.cells #[.int .u64 0, .slice none 0 0] 45)
        have hz := heap_new (w := u1) (o := .cells #[.int .u64 0, .slice none 0 0] 45 (0, 0)) rfl
        refine hK.out _ _ (HK.out _ r3) (fun hHeld => ?_)
        clear hK K
        (try simp only [Act.put, List.getElem_toArray, List.getElem_cons_zero, List.getElem_cons_succ, List.setIfInBounds_toArray, List.set_cons_zero, List.set_cons_succ])
        refine wpAnyH_ready (rs := [8]) (by kernel_rfl) (by simp) ?_
        refine AllReadyH.cons rfl (fun K hK => ?_) AllReadyH.nil
        go_simp
        refine Calls.mono (HRs.out _ r3) ?_
        rintro e u2 ⟨a4, n4, c4, rfl, hr4, hk4, hq2⟩
        have r2 : Pure W1 u2 := r3.trans hq2
        refine hK.out _ _ (HK.out _ r2) (fun hHeld => ?_)
        clear hK K
        (try simp only [Act.put, List.getElem_toArray, List.getElem_cons_zero, List.getElem_cons_succ, List.setIfInBounds_toArray, List.set_cons_zero, List.set_cons_succ])
        have lz := lt_of_block hz
        have hsz9 := r1.size
        have hz := hq2.heap (fun h => h) hz
        obtain ⟨b9, hb9⟩ : ∃ b, u1.heap.size = b := ⟨_, rfl⟩
        rw [hb9] at hz ⊢
        have hb9w : W1.heap.size ≤ b9 := by have := hdr.size; have := r1.size; omega
        have hne : ∀ g, rdBlock (.slice a4 n4 c4) = some g → g ≠ b9 := fun g hg => by rcases hk4.rd hg with e | e; (· have := HH.out.rd.lt e; have := HB.out.pure.size; have := hsz9; omega); (· have := lz; omega)
        have hrl := hr4
        have hz_0 := cell_of_row _ _ 0 _ _ _ hz; have hz_1 := cell_of_row _ _ 1 _ _ _ hz; have hz_f := (fun j => frozen_of_row _ _ j _ _ hz); have hz_l := lt_of_block hz; simp at hz_0 hz_1; have H_hz := Lib.hid hz; clear hz
        ((refine wpAnyH_take (i := 9) (v := ?_) rfl (by kernel_rfl) (by kernel_rfl) (by kernel_rfl) (fun _ _ _ h => h) (Yields.yieldsIf (Or.inl ⟨by rfl, ?_⟩)) hHeld ?_; rotate_left 1; focus (intro w; go_simp; try with_reducible rfl)); try simp only [Act.put, List.getElem_toArray, List.getElem_cons_zero, List.getElem_cons_succ, List.setIfInBounds_toArray, List.set_cons_zero, List.set_cons_succ])
        ((refine wpAnyH_take (i := 10) (v := ?_) rfl (by kernel_rfl) (by kernel_rfl) (by kernel_rfl) (fun _ _ _ h => h) (Yields.yieldsIf (Or.inl ⟨by rfl, ?_⟩)) hHeld ?_; rotate_left 1; focus (intro w; go_simp; try with_reducible rfl)); try simp only [Act.put, List.getElem_toArray, List.getElem_cons_zero, List.getElem_cons_succ, List.setIfInBounds_toArray, List.set_cons_zero, List.set_cons_succ])
        ((refine wpAnyH_take (i := 11) (v := ?_) rfl (by kernel_rfl) (by kernel_rfl) (by kernel_rfl) (fun _ _ _ h => h) (Yields.yieldsIf (Or.inl ⟨by rfl, ?_⟩)) hHeld ?_; rotate_left 1; focus (intro w; go_simp; try with_reducible rfl)); try simp only [Act.put, List.getElem_toArray, List.getElem_cons_zero, List.getElem_cons_succ, List.setIfInBounds_toArray, List.set_cons_zero, List.set_cons_succ])
        have hms := Mod.set2 (w := u2) b9 0 1 (.int .u64 now) (.slice a4 n4 c4)
        have rS := r2.then hms (fun k hk e => by omega)
        ((refine wpAnyH_ready (rs := [13]) (by kernel_rfl) (by simp) ?_; refine AllReadyH.cons rfl (fun K hK => ?_) AllReadyH.nil; go_simp; skip; refine hK.out _ _ ?_ (fun hHeld => ?_); (· exact HK.out _ rS); clear hK K); try simp only [Act.put, List.getElem_toArray, List.getElem_cons_zero, List.getElem_cons_succ, List.setIfInBounds_toArray, List.set_cons_zero, List.set_cons_succ])
        ((refine wpAnyH_take (i := 14) (v := ?_) rfl (by kernel_rfl) (by kernel_rfl) (by kernel_rfl) (fun _ _ _ h => h) (Yields.yieldsIf (Or.inl ⟨by rfl, ?_⟩)) hHeld ?_; rotate_left 1; focus (intro w; go_simp; try with_reducible rfl)); try simp only [Act.put, List.getElem_toArray, List.getElem_cons_zero, List.getElem_cons_succ, List.setIfInBounds_toArray, List.set_cons_zero, List.set_cons_succ])
        refine wpAnyH_done (by kernel_rfl) ?_ _
        (try go_wp2)
        go_meet
        exact ⟨b9, a4, n4, c4, rfl, rfl, rS, hb9w, heap_set12 H_hz.out, hrl.frame hms hne, hk4.mono r3.size⟩
    · go_simp
      have r3 := hdr.alloc (.cells #[.int .u64 0, .slice none 0 0] 45)
      have hz := heap_new (w := W1.drew) (o := .cells #[.int .u64 0, .slice none 0 0] 45 (0, 0)) rfl
      refine hK.out _ _ (HK.out _ r3) (fun hHeld => ?_)
      clear hK K
      (try simp only [Act.put, List.getElem_toArray, List.getElem_cons_zero, List.getElem_cons_succ, List.setIfInBounds_toArray, List.set_cons_zero, List.set_cons_succ])
      refine wpAnyH_ready (rs := [7]) (by kernel_rfl) (by simp) ?_
      refine AllReadyH.cons rfl (fun K hK => ?_) AllReadyH.nil
      go_simp
      refine Calls.mono (HTm.out _) ?_
      rintro e u1 ⟨rfl, hq1⟩
      have r1 : Pure W1 u1 := r3.trans hq1
      refine hK.out _ _ (HK.out _ r1) (fun hHeld => ?_)
      clear hK K
      (try simp only [Act.put, List.getElem_toArray, List.getElem_cons_zero, List.getElem_cons_succ, List.setIfInBounds_toArray, List.set_cons_zero, List.set_cons_succ])
      refine wpAnyH_ready (rs := [8]) (by kernel_rfl) (by simp) ?_
      refine AllReadyH.cons rfl (fun K hK => ?_) AllReadyH.nil
      go_simp
      refine Calls.mono (HRs.out _ r1) ?_
      rintro e u2 ⟨a4, n4, c4, rfl, hr4, hk4, hq2⟩
      have r2 : Pure W1 u2 := r1.trans hq2
      refine hK.out _ _ (HK.out _ r2) (fun hHeld => ?_)
      clear hK K
      (try simp only [Act.put, List.getElem_toArray, List.getElem_cons_zero, List.getElem_cons_succ, List.setIfInBounds_toArray, List.set_cons_zero, List.set_cons_succ])
      have lz := lt_of_block hz
      have hsz9 := hdr.size
      have hz := hq2.heap (fun h => h) (hq1.heap (fun h => h) hz)
      replace hz : u2.heap[W1.heap.size]? = some (.cells #[.int .u64 0, .slice none 0 0] 45 (0, 0)) := hz
      obtain ⟨b9, hb9⟩ : ∃ b, W1.heap.size = b := ⟨_, rfl⟩
      rw [hb9] at hz ⊢
      have hb9w : W1.heap.size ≤ b9 := by have := hdr.size; skip; omega
      have hne : ∀ g, rdBlock (.slice a4 n4 c4) = some g → g ≠ b9 := fun g hg => by rcases hk4.rd hg with e | e; (· have := HH.out.rd.lt e; have := HB.out.pure.size; have := hsz9; omega); (· have := hq1.size; have hsd : (W1.alloc (.cells #[.int .u64 0, .slice none 0 0] 45)).drew.heap.size = W1.heap.size + 1 := (show (W1.alloc (.cells #[.int .u64 0, .slice none 0 0] 45)).heap.size = W1.heap.size + 1 by simp); omega)
      have hrl := hr4
      have hz_0 := cell_of_row _ _ 0 _ _ _ hz; have hz_1 := cell_of_row _ _ 1 _ _ _ hz; have hz_f := (fun j => frozen_of_row _ _ j _ _ hz); have hz_l := lt_of_block hz; simp at hz_0 hz_1; have H_hz := Lib.hid hz; clear hz
      ((refine wpAnyH_take (i := 9) (v := ?_) rfl (by kernel_rfl) (by kernel_rfl) (by kernel_rfl) (fun _ _ _ h => h) (Yields.yieldsIf (Or.inl ⟨by rfl, ?_⟩)) hHeld ?_; rotate_left 1; focus (intro w; go_simp; try with_reducible rfl)); try simp only [Act.put, List.getElem_toArray, List.getElem_cons_zero, List.getElem_cons_succ, List.setIfInBounds_toArray, List.set_cons_zero, List.set_cons_succ])
      ((refine wpAnyH_take (i := 10) (v := ?_) rfl (by kernel_rfl) (by kernel_rfl) (by kernel_rfl) (fun _ _ _ h => h) (Yields.yieldsIf (Or.inl ⟨by rfl, ?_⟩)) hHeld ?_; rotate_left 1; focus (intro w; go_simp; try with_reducible rfl)); try simp only [Act.put, List.getElem_toArray, List.getElem_cons_zero, List.getElem_cons_succ, List.setIfInBounds_toArray, List.set_cons_zero, List.set_cons_succ])
      ((refine wpAnyH_take (i := 11) (v := ?_) rfl (by kernel_rfl) (by kernel_rfl) (by kernel_rfl) (fun _ _ _ h => h) (Yields.yieldsIf (Or.inl ⟨by rfl, ?_⟩)) hHeld ?_; rotate_left 1; focus (intro w; go_simp; try with_reducible rfl)); try simp only [Act.put, List.getElem_toArray, List.getElem_cons_zero, List.getElem_cons_succ, List.setIfInBounds_toArray, List.set_cons_zero, List.set_cons_succ])
      have hms := Mod.set2 (w := u2) b9 0 1 (.int .u64 now) (.slice a4 n4 c4)
      have rS := r2.then hms (fun k hk e => by omega)
      ((refine wpAnyH_ready (rs := [13]) (by kernel_rfl) (by simp) ?_; refine AllReadyH.cons rfl (fun K hK => ?_) AllReadyH.nil; go_simp; skip; refine hK.out _ _ ?_ (fun hHeld => ?_); (· exact HK.out _ rS); clear hK K); try simp only [Act.put, List.getElem_toArray, List.getElem_cons_zero, List.getElem_cons_succ, List.setIfInBounds_toArray, List.set_cons_zero, List.set_cons_succ])
      ((refine wpAnyH_take (i := 14) (v := ?_) rfl (by kernel_rfl) (by kernel_rfl) (by kernel_rfl) (fun _ _ _ h => h) (Yields.yieldsIf (Or.inl ⟨by rfl, ?_⟩)) hHeld ?_; rotate_left 1; focus (intro w; go_simp; try with_reducible rfl)); try simp only [Act.put, List.getElem_toArray, List.getElem_cons_zero, List.getElem_cons_succ, List.setIfInBounds_toArray, List.set_cons_zero, List.set_cons_succ])
      refine wpAnyH_done (by kernel_rfl) ?_ _
      (try go_wp2)
      go_meet
      exact ⟨b9, a4, n4, c4, rfl, rfl, rS, hb9w, heap_set12 H_hz.out, hrl.frame hms hne, hk4.mono r1.size⟩
  case rest =>
    clear x0 x1 y0 y1 y2 y3 HX HRs
    obtain ⟨b9, a4, n4, c4, rfl, rfl, hpx, hb9, h9, hrx, hkx⟩ := hcut
    have hlW : ∀ k, D k → k < w.heap.size := fun k hk => HH.out.ks.lt hk
    have hb2 := lt_of_block HB.out.h2
    have hb1 := lt_of_block HB.out.h1
    have n9 : ¬ (D b9 ∨ b9 = b2) := fun e => by
      rcases e with e | e
      · have := hlW _ e; have := HB.out.pure.size; omega
      · omega
    have n1 : ¬ (D b1 ∨ b1 = b2) := fun e => by
      rcases e with e | e
      · have := hlW _ e; have := HB.out.z1; omega
      · exact HB.out.ne12 e
    have n2 : ¬ D b2 := fun e => by have := hlW _ e; have := HB.out.z2; omega
    have hkm : ∀ u, Mod (fun k => D k ∨ k = b2) wc u → u.cell? ⟨b9, 0, none⟩ = some (.int .u64 now) ∧ u.cell? ⟨b9, 1, none⟩ = some (.slice a4 n4 c4) ∧ u.cell? ⟨b1, 1, none⟩ = some (.int .u32 t.slot) ∧ u.cell? ⟨b1, 2, none⟩ = some (.int .u64 t.birth) ∧ u.cell? ⟨b1, 3, none⟩ = some (.int .u64 t.time) := fun u hm => by
      obtain ⟨x0, x1⟩ := whbox (hm.heap n9 h9)
      obtain ⟨_, _, _, y1, y2, y3⟩ := HK.out wc hpx
      exact ⟨x0, x1, hm.cell n1 y1, hm.cell n1 y2, hm.cell n1 y3⟩
    have hrb : ∀ g, rdBlock (.slice a4 n4 c4) = some g → g ≠ b2 := fun g hg => by
      rcases hkx.rd hg with e | e
      · have := HH.out.rd.lt e; have := HB.out.z2; omega
      · omega
    have HKm := Lib.hid hkm; have HRb := Lib.hid hrb; have HPx := Lib.hid hpx; have HRx := Lib.hid hrx; have HKx := Lib.hid hkx; have HN2 := Lib.hid n2; have HB2 := Lib.hid hb2
    have HX := Lib.hid (hkm wc (Mod.refl _ _))
    clear hkm hrb hpx hrx hkx n2 n1 n9 hlW hb1 hb2 hb9 h9
    go_upto_region 4 with fail
    refine wp_region_held_drew (S := fun u => u.cell? ⟨b9, 0, none⟩ = some (.int .u64 now) ∧ u.cell? ⟨b9, 1, none⟩ = some (.slice a4 n4 c4) ∧ u.cell? ⟨b1, 1, none⟩ = some (.int .u32 t.slot) ∧ u.cell? ⟨b1, 2, none⟩ = some (.int .u64 t.birth) ∧ u.cell? ⟨b1, 3, none⟩ = some (.int .u64 t.time)) (by kernel_rfl) HX.out (fun hHeld => ?_)
    ((refine wpAnyH_take (i := 0) (v := ?_) rfl (by kernel_rfl) (by kernel_rfl) (by kernel_rfl) (fun _ _ _ h => h) (Yields.yieldsIf (Or.inl ⟨by rfl, ?_⟩)) hHeld ?_; rotate_left 1; focus (intro w; go_simp; try with_reducible rfl)); try simp only [Act.put, List.getElem_toArray, List.getElem_cons_zero, List.getElem_cons_succ, List.setIfInBounds_toArray, List.set_cons_zero, List.set_cons_succ])
    ((refine wpAnyH_take (i := 1) (v := ?_) rfl (by kernel_rfl) (by kernel_rfl) (by kernel_rfl) (fun _ _ _ h => h) (Or.inl ⟨by rfl, ?_⟩) hHeld ?_; rotate_left 1; focus (intro w hS; obtain ⟨s0, s1, s2, s3, s4⟩ := hS; go_simp; try with_reducible rfl)); try simp only [Act.put, List.getElem_toArray, List.getElem_cons_zero, List.getElem_cons_succ, List.setIfInBounds_toArray, List.set_cons_zero, List.set_cons_succ])
    ((refine wpAnyH_take (i := 2) (v := ?_) rfl (by kernel_rfl) (by kernel_rfl) (by kernel_rfl) (fun _ _ _ h => h) (Yields.yieldsIf (Or.inl ⟨by rfl, ?_⟩)) hHeld ?_; rotate_left 1; focus (intro w; go_simp; try with_reducible rfl)); try simp only [Act.put, List.getElem_toArray, List.getElem_cons_zero, List.getElem_cons_succ, List.setIfInBounds_toArray, List.set_cons_zero, List.set_cons_succ])
    ((refine wpAnyH_take (i := 3) (v := ?_) rfl (by kernel_rfl) (by kernel_rfl) (by kernel_rfl) (fun _ _ _ h => h) (Yields.yieldsIf (Or.inl ⟨by rfl, ?_⟩)) hHeld ?_; rotate_left 1; focus (intro w; go_simp; try with_reducible rfl)); try simp only [Act.put, List.getElem_toArray, List.getElem_cons_zero, List.getElem_cons_succ, List.setIfInBounds_toArray, List.set_cons_zero, List.set_cons_succ])
    ((refine wpAnyH_take (i := 4) (v := ?_) rfl (by kernel_rfl) (by kernel_rfl) (by kernel_rfl) (fun _ _ _ h => h) (Or.inl ⟨by rfl, ?_⟩) hHeld ?_; rotate_left 1; focus (intro w hS; obtain ⟨s0, s1, s2, s3, s4⟩ := hS; go_simp; try with_reducible rfl)); try simp only [Act.put, List.getElem_toArray, List.getElem_cons_zero, List.getElem_cons_succ, List.setIfInBounds_toArray, List.set_cons_zero, List.set_cons_succ])
    ((refine wpAnyH_take (i := 5) (v := ?_) rfl (by kernel_rfl) (by kernel_rfl) (by kernel_rfl) (fun _ _ _ h => h) (Yields.yieldsIf (Or.inl ⟨by rfl, ?_⟩)) hHeld ?_; rotate_left 1; focus (intro w; go_simp; try with_reducible rfl)); try simp only [Act.put, List.getElem_toArray, List.getElem_cons_zero, List.getElem_cons_succ, List.setIfInBounds_toArray, List.set_cons_zero, List.set_cons_succ])
    ((refine wpAnyH_take (i := 6) (v := ?_) rfl (by kernel_rfl) (by kernel_rfl) (by kernel_rfl) (fun _ _ _ h => h) (Or.inl ⟨by rfl, ?_⟩) hHeld ?_; rotate_left 1; focus (intro w hS; obtain ⟨s0, s1, s2, s3, s4⟩ := hS; go_simp; try with_reducible rfl)); try simp only [Act.put, List.getElem_toArray, List.getElem_cons_zero, List.getElem_cons_succ, List.setIfInBounds_toArray, List.set_cons_zero, List.set_cons_succ])
    ((refine wpAnyH_take (i := 7) (v := ?_) rfl (by kernel_rfl) (by kernel_rfl) (by kernel_rfl) (fun _ _ _ h => h) (Yields.yieldsIf (Or.inl ⟨by rfl, ?_⟩)) hHeld ?_; rotate_left 1; focus (intro w; go_simp; try with_reducible rfl)); try simp only [Act.put, List.getElem_toArray, List.getElem_cons_zero, List.getElem_cons_succ, List.setIfInBounds_toArray, List.set_cons_zero, List.set_cons_succ])
    ((refine wpAnyH_take (i := 8) (v := ?_) rfl (by kernel_rfl) (by kernel_rfl) (by kernel_rfl) (fun _ _ _ h => h) (Or.inl ⟨by rfl, ?_⟩) hHeld ?_; rotate_left 1; focus (intro w hS; obtain ⟨s0, s1, s2, s3, s4⟩ := hS; go_simp; try with_reducible rfl)); try simp only [Act.put, List.getElem_toArray, List.getElem_cons_zero, List.getElem_cons_succ, List.setIfInBounds_toArray, List.set_cons_zero, List.set_cons_succ])
    ((refine wpAnyH_take (i := 11) (v := ?_) rfl (by kernel_rfl) (by kernel_rfl) (by kernel_rfl) (fun _ _ _ h => h) (Yields.yieldsIf (Or.inl ⟨by rfl, ?_⟩)) hHeld ?_; rotate_left 1; focus (intro w; go_simp; try with_reducible rfl)); try simp only [Act.put, List.getElem_toArray, List.getElem_cons_zero, List.getElem_cons_succ, List.setIfInBounds_toArray, List.set_cons_zero, List.set_cons_succ])
    ((refine wpAnyH_ready (rs := [9]) (by kernel_rfl) (by simp) ?_; refine AllReadyH.cons rfl (fun K hK => ?_) AllReadyH.nil; go_simp; refine Calls.mono (HTm.out _) ?_; rintro e u1 ⟨rfl, hq1⟩; refine hK.out _ _ ?_ (fun hHeld => ?_); (· exact HKm.out _ (Mod.of_pure (Mod.of_drew hq1))); clear hK K); try simp only [Act.put, List.getElem_toArray, List.getElem_cons_zero, List.getElem_cons_succ, List.setIfInBounds_toArray, List.set_cons_zero, List.set_cons_succ])
    have hq : Pure wc u1 := Mod.of_drew hq1
    have HQ := Lib.hid hq
    clear hq hq1
    ((refine wpAnyH_ready (rs := [10]) (by kernel_rfl) (by simp) ?_; refine AllReadyH.cons rfl (fun K hK => ?_) AllReadyH.nil; go_simp; refine Calls.mono (HSc.out _ (HPx.out.trans HQ.out)) ?_; rintro e u2 ⟨rfl, D6, hs6, hg6, hm6⟩; refine hK.out _ _ ?_ (fun hHeld => ?_); (· exact HKm.out _ ((Mod.of_pure HQ.out).trans (hm6.mono (fun _ _ h => .inl h)))); clear hK K); try simp only [Act.put, List.getElem_toArray, List.getElem_cons_zero, List.getElem_cons_succ, List.setIfInBounds_toArray, List.set_cons_zero, List.set_cons_succ])
    have h26 := hm6.heap HN2.out ((HPx.out.trans HQ.out).heap (fun h => h) HB.out.h2)
    have HF := Lib.hid (HH.out.fin (HB.out.pure.trans (HPx.out.trans HQ.out)) (HRx.out.pure HQ.out) (HKx.out.mono HB.out.pure.size) hs6 hg6 hm6 HB.out.z2 (Nat.lt_of_lt_of_le HB2.out (HPx.out.trans HQ.out).size) HRb.out (.int .u64 now) (.slice a4 n4 c4))
    have HM6 := Lib.hid hm6
    clear hs6 hg6 hm6
    have h26_0 := cell_of_row _ _ 0 _ _ _ h26; have h26_1 := cell_of_row _ _ 1 _ _ _ h26; have h26_f := (fun j => frozen_of_row _ _ j _ _ h26); have h26_l := lt_of_block h26; simp at h26_0 h26_1; have H_h26 := Lib.hid h26; clear h26
    ((refine wpAnyH_take (i := 12) (v := ?_) rfl (by kernel_rfl) (by kernel_rfl) (by kernel_rfl) (fun _ _ _ h => h) (Yields.yieldsIf (Or.inl ⟨by rfl, ?_⟩)) hHeld ?_; rotate_left 1; focus (intro w; go_simp; try with_reducible rfl)); try simp only [Act.put, List.getElem_toArray, List.getElem_cons_zero, List.getElem_cons_succ, List.setIfInBounds_toArray, List.set_cons_zero, List.set_cons_succ])
    ((refine wpAnyH_take (i := 13) (v := ?_) rfl (by kernel_rfl) (by kernel_rfl) (by kernel_rfl) (fun _ _ _ h => h) (Yields.yieldsIf (Or.inl ⟨by rfl, ?_⟩)) hHeld ?_; rotate_left 1; focus (intro w; go_simp; try with_reducible rfl)); try simp only [Act.put, List.getElem_toArray, List.getElem_cons_zero, List.getElem_cons_succ, List.setIfInBounds_toArray, List.set_cons_zero, List.set_cons_succ])
    ((refine wpAnyH_ready (rs := [14]) (by kernel_rfl) (by simp) ?_; refine AllReadyH.cons rfl (fun K hK => ?_) AllReadyH.nil; go_simp; skip; refine hK.out _ _ ?_ (fun hHeld => ?_); (· exact HKm.out _ (((Mod.of_pure HQ.out).trans (HM6.out.mono (fun _ _ h => .inl h))).trans ((Mod.set2 b2 0 1 _ _).mono (fun _ _ h => .inr h)))); clear hK K); try simp only [Act.put, List.getElem_toArray, List.getElem_cons_zero, List.getElem_cons_succ, List.setIfInBounds_toArray, List.set_cons_zero, List.set_cons_succ])
    ((refine wpAnyH_take (i := 15) (v := ?_) rfl (by kernel_rfl) (by kernel_rfl) (by kernel_rfl) (fun _ _ _ h => h) (Yields.yieldsIf (Or.inl ⟨by rfl, ?_⟩)) hHeld ?_; rotate_left 1; focus (intro w; go_simp; try with_reducible rfl)); try simp only [Act.put, List.getElem_toArray, List.getElem_cons_zero, List.getElem_cons_succ, List.setIfInBounds_toArray, List.set_cons_zero, List.set_cons_succ])
    refine wpAnyH_done (by kernel_rfl) ?_ _
    clear hHeld
    go_wp2
    refine bodyPost_ret (v := .tuple #[lkP p, .agg #[.int .u64 now, .slice a4 n4 c4], .bool true]) (by simp [results, Tryd.results30, go_sem, h26_0, h26_1, h26_l]) rfl ⟨p, now, a4, n4, c4, D6, Ln, rfl, HF.out.1, HF.out.2.1, HKx.out.mono HB.out.pure.size, HF.out.2.2⟩
end
end Go.Proofs.YtlalpenfgkfkpaaDoor

/- law20.step: Cancel. Conditions: the cascade lies in memory, the reference's list is read. -/
namespace Go.Proofs.YtlalpenfgkfkpaaDoor
open Go.RowKit Go.Shelf
set_option maxRecDepth 100000
section
variable {w0 w w5 w6 : World} {D D' : Nat → Prop} {p p' now now' n c n' c' b2 : Nat} {a a' : Option Addr} {L L' : List Td} {t : Act20}
theorem KnS.cancelM2 (h : KnS w0 w D p now L) {s : Nat} (h32 : s ≤ 4294967295) :
    Calls Tryd.prog 24 #[lkP p, .int .u32 s] w fun e w' => e = .returned (.tuple #[tdV (getT L s).1, .int .i64 (getT L s).2]) ∧ ∃ D', KnS w0 w' D' p now (canL L s) ∧ grewD D D' w ∧ Mod D w w' := by
  refine (h.t.at_.cancel h32).mono ?_
  rintro e w' ⟨rfl, ⟨D', hc, hg⟩, hm⟩
  exact ⟨rfl, D', h.step (h.t.next hc hg hm) hg hm, hg, hm⟩
theorem StP.drew {e : Ending} {w' : World} (h : StP w0 w a n c D e w') : StP w0 w a n c D e w'.drew := by
  obtain ⟨p', now', a', n', c', D', L', h1, h2, h3, h4, h5⟩ := h
  exact ⟨p', now', a', n', c', D', L', h1, h2.pure (Mod.refl _ _).drew, h3, h4, h5.drew⟩
set_option maxHeartbeats 2000000 in
theorem step_cancel (h : StI w0 w p now a n c D L) (ht : ActOk t) (h0 : t.what = 1) :
    Calls Tryd.prog 30 #[lkP p, whV now a n c, actV t] w (StP w0 w a n c D) := by
  unfold whV actV
  obtain ⟨W1, b0, b1, b2, hW, e0, e1, e2, hB⟩ := boxA_ok (w := w) (now := now) (a := a) (n := n) (c := c) (t := t)
  unfold boxA at hW
  have hx := hB.cells (Mod.refl _ W1)
  have hw0 : (t.what == 0) = false := by rw [h0]; rfl
  have hw1 : (t.what == 1) = true := by rw [h0]; rfl
  have hs1 := h.pure hB.pure
  have hlL := h.ks.t.at_.count
  rw [h.rd.len] at hlL
  have hca := rcan_ok (now := now) hs1.rd hlL (s := t.slot) ht.s
  have hcc := fun (W : World) (hp : Pure W1 W) => (hs1.pure hp).ks.cancelM2 (s := t.slot) ht.s
  obtain ⟨y, hy⟩ : ∃ y, (getT L t.slot).1 = y := ⟨_, rfl⟩
  obtain ⟨er, her⟩ : ∃ y, (getT L t.slot).2 = y := ⟨_, rfl⟩
  obtain ⟨Ln, hLn⟩ : ∃ Ln, canL L t.slot = Ln := ⟨_, rfl⟩
  rw [hy, her, hLn] at hca
  rw [hy, her, hLn] at hcc
  unfold tdV at hca hcc
  unfold whV at hca
  have HB := Lib.hid hB; have HW := Lib.hid hW; have E0 := Lib.hid e0; have E1 := Lib.hid e1; have E2 := Lib.hid e2; have HCa := Lib.hid hca; have HCc := Lib.hid hcc; have HH := Lib.hid h
  have HK := Lib.hid (fun (u : World) (hp : Pure W1 u) => hB.cells hp)
  clear hB hW e0 e1 e2 hca hcc hs1 h hy her hLn hlL ht h0
  go_enter Tryd.func30, Tryd.ntmps30
  go_upto_region 1 with fail
  rw [HW.out, E2.out, E1.out, E0.out]
  clear HW E0 E1 E2
  obtain ⟨x0, x1, y0, y1, y2, y3⟩ := hx
  go_upto_region 7 with (first
    | (go_at_call 66; refine Calls.mono HCa.out ?_; rintro e w4 ⟨a4, n4, c4, rfl, hr4, hk4, hp4⟩
       have HP4 := Lib.hid hp4; have HR4 := Lib.hid hr4; have HK4 := Lib.hid hk4
       clear hp4 hr4 hk4 x0 x1 y0 y1 y2 y3))
  have pa := (Mod.refl (fun _ => False) w4).alloc (.cells #[.int .u64 now, .slice a4 n4 c4] 45)
  have pb := (Mod.refl (fun _ => False) (w4.alloc (.cells #[.int .u64 now, .slice a4 n4 c4] 45))).alloc (.cells #[.int .u32 y.slot, .int .u64 y.dl, .int .u64 y.birth] 31)
  have h11 := pb.heap (fun h => h) (heap_new (w := w4) (o := .cells #[.int .u64 now, .slice a4 n4 c4] 45 (0, 0)) rfl)
  have h12 : ((w4.alloc (.cells #[.int .u64 now, .slice a4 n4 c4] 45)).alloc (.cells #[.int .u32 y.slot, .int .u64 y.dl, .int .u64 y.birth] 31)).heap[w4.heap.size + 1]? = some (.cells #[.int .u32 y.slot, .int .u64 y.dl, .int .u64 y.birth] 31 (0, 0)) := heap_new (by simp)
  have pab := pa.trans pb
  obtain ⟨b11, hb11⟩ : ∃ b, w4.heap.size = b := ⟨_, rfl⟩
  rw [hb11] at h11 h12 ⊢
  obtain ⟨b12, hb12⟩ : ∃ b, b11 + 1 = b := ⟨_, rfl⟩
  rw [hb12] at h12 ⊢
  generalize (w4.alloc (.cells #[.int .u64 now, .slice a4 n4 c4] 45)).alloc (.cells #[.int .u32 y.slot, .int .u64 y.dl, .int .u64 y.birth] 31) = W5 at *
  have hw1s := HP4.out.size
  have hb2 := lt_of_block HB.out.h2
  have hlW : ∀ k, D k → k < w.heap.size := fun k hk => HH.out.ks.lt hk
  have hws := HB.out.pure.size
  have n11 : ¬ D b11 := fun e => by have := hlW _ e; omega
  have n12 : ¬ D b12 := fun e => by have := hlW _ e; omega
  have n2 : ¬ D b2 := fun e => by have := hlW _ e; have := HB.out.z2; omega
  have m11 : b2 ≠ b11 := by omega
  have m12 : b2 ≠ b12 := by omega
  have p5 := HP4.out.trans pab
  have hr5 := HR4.out.pure pab
  have hcc := HCc.out W5 p5
  obtain ⟨_, _, y0, y1, y2, y3⟩ := HK.out W5 p5
  have HP5 := Lib.hid p5; have HR5 := Lib.hid hr5; have HCc5 := Lib.hid hcc; have H11 := Lib.hid h11; have H12 := Lib.hid h12; have HN11 := Lib.hid n11; have HN12 := Lib.hid n12; have HN2 := Lib.hid n2
  have HLT5 := Lib.hid (And.intro (lt_of_block h11) (lt_of_block h12))
  clear pa pb pab hb11 hb12 h11 h12 hlW n11 n12 n2 p5 hr5 hcc HCc hw1s hws hb2
  go_upto_region 8 with (first
    | (go_at_call 24; refine Calls.mono HCc5.out ?_; rintro e w6 ⟨rfl, D6, hs6, hg6, hm6⟩
       have HS6 := Lib.hid hs6; have HG6 := Lib.hid hg6; have HM6 := Lib.hid hm6
       clear hs6 hg6 hm6 y0 y1 y2 y3))
  have pc := (Mod.refl (fun _ => False) w6).alloc (.cells #[.int .u32 y.slot, .int .u64 y.dl, .int .u64 y.birth] 31)
  have h14 := heap_new (w := w6) (o := .cells #[.int .u32 y.slot, .int .u64 y.dl, .int .u64 y.birth] 31 (0, 0)) rfl
  obtain ⟨b14, hb14⟩ : ∃ b, w6.heap.size = b := ⟨_, rfl⟩
  rw [hb14] at h14 ⊢
  generalize w6.alloc (.cells #[.int .u32 y.slot, .int .u64 y.dl, .int .u64 y.birth] 31) = W7 at *
  have hm7 : Mod D W5 W7 := HM6.out.trans (Mod.of_pure pc)
  have h117 := hm7.heap HN11.out H11.out
  have h127 := hm7.heap HN12.out H12.out
  have h27 := hm7.heap HN2.out (HP5.out.heap (fun h => h) HB.out.h2)
  have m14 : b2 ≠ b14 := by have := lt_of_block HB.out.h2; have := HP5.out.size; have := HM6.out.size; omega
  have hrb : ∀ g, rdBlock (.slice a4 n4 c4) = some g → g ≠ b2 := fun g hg => by
    rcases HK4.out.rd hg with e | e
    · have := HH.out.rd.lt e; have := HB.out.z2; omega
    · have := lt_of_block HB.out.h2; omega
  have hF := HH.out.fin (HB.out.pure.trans HP5.out) HR5.out (HK4.out.mono HB.out.pure.size) (HS6.out.pure pc) HG6.out hm7 HB.out.z2 (Nat.lt_of_lt_of_le (lt_of_block HB.out.h2) HP5.out.size) hrb (.int .u64 now) (.slice a4 n4 c4)
  have HF := Lib.hid hF
  have HST := Lib.hid (show StP w0 w a n c D (.returned (.tuple #[lkP p, whV now a4 n4 c4, .bool true])) ((W7.setCell ⟨b2, 0, none⟩ (.int .u64 now)).setCell ⟨b2, 1, none⟩ (.slice a4 n4 c4)) from ⟨p, now, a4, n4, c4, D6, Ln, rfl, hF.1, hF.2.1, HK4.out.mono HB.out.pure.size, hF.2.2⟩)
  clear pc hb14 hm7 hrb hF HF
  have h117_0 := cell_of_row _ _ 0 _ _ _ h117; have h117_1 := cell_of_row _ _ 1 _ _ _ h117; have h117_f := (fun j => frozen_of_row _ _ j _ _ h117); have h117_l := lt_of_block h117; simp at h117_0 h117_1; have H_h117 := Lib.hid h117; clear h117
  have h127_0 := cell_of_row _ _ 0 _ _ _ h127; have h127_1 := cell_of_row _ _ 1 _ _ _ h127; have h127_2 := cell_of_row _ _ 2 _ _ _ h127; have h127_f := (fun j => frozen_of_row _ _ j _ _ h127); have h127_l := lt_of_block h127; simp at h127_0 h127_1 h127_2; have H_h127 := Lib.hid h127; clear h127
  have h14_0 := cell_of_row _ _ 0 _ _ _ h14; have h14_1 := cell_of_row _ _ 1 _ _ _ h14; have h14_2 := cell_of_row _ _ 2 _ _ _ h14; have h14_f := (fun j => frozen_of_row _ _ j _ _ h14); have h14_l := lt_of_block h14; simp at h14_0 h14_1 h14_2; have H_h14 := Lib.hid h14; clear h14
  have h27_0 := cell_of_row _ _ 0 _ _ _ h27; have h27_1 := cell_of_row _ _ 1 _ _ _ h27; have h27_f := (fun j => frozen_of_row _ _ j _ _ h27); have h27_l := lt_of_block h27; simp at h27_0 h27_1; have H_h27 := Lib.hid h27; clear h27
  go_region
  all_goals
    go_wp2
    refine bodyPost_ret (v := .tuple #[lkP p, .agg #[.int .u64 now, .slice a4 n4 c4], .bool true]) (by simp [results, Tryd.results30, go_sem, h27_0, h27_1, h27_l]) rfl ?_
    first | exact HST.out | exact HST.out.drew
end
end Go.Proofs.YtlalpenfgkfkpaaDoor

/- law20.step: Reschedule. Conditions: the cascade lies in memory, the reference's list is read. -/
namespace Go.Proofs.YtlalpenfgkfkpaaDoor
open Go.RowKit Go.Shelf
set_option maxRecDepth 100000
section
variable {w0 w w5 w6 : World} {D D' : Nat → Prop} {p p' now now' n c n' c' b2 : Nat} {a a' : Option Addr} {L L' : List Td} {t : Act20}
theorem KnS.reschedM2 (h : KnS w0 w D p now L) {s dl : Nat} (h32 : s ≤ 4294967295) (hd : dl ≤ 18446744073709551615) :
    Calls Tryd.prog 25 #[lkP p, .int .u32 s, .int .u64 dl] w fun e w' => e = .returned (.int .i64 (resR now L s dl)) ∧ ∃ D', KnS w0 w' D' p now (resL now L s dl) ∧ grewD D D' w ∧ Mod D w w' := by
  refine (h.t.at_.resched h32 hd (by have := h.t.at_.count; unfold maxLen; omega)).mono ?_
  rintro e w' ⟨rfl, ⟨D', hc, hg⟩, hm⟩
  exact ⟨rfl, D', h.step (h.t.next hc hg hm) hg hm, hg, hm⟩
theorem pairwise_nodup (h : L.Pairwise bef) : L.Nodup := h.imp (fun {a b} hab e => by subst e; unfold bef at hab; omega)
set_option maxHeartbeats 2000000 in
theorem step_resched (h : StI w0 w p now a n c D L) (ht : ActOk t) (h0 : t.what = 2) :
    Calls Tryd.prog 30 #[lkP p, whV now a n c, actV t] w (StP w0 w a n c D) := by
  unfold whV actV
  obtain ⟨W1, b0, b1, b2, hW, e0, e1, e2, hB⟩ := boxA_ok (w := w) (now := now) (a := a) (n := n) (c := c) (t := t)
  unfold boxA at hW
  have hx := hB.cells (Mod.refl _ W1)
  have hw0 : (t.what == 0) = false := by rw [h0]; rfl
  have hw1 : (t.what == 1) = false := by rw [h0]; rfl
  have hw2 : (t.what == 2) = true := by rw [h0]; rfl
  have hs1 := h.pure hB.pure
  have hlL := h.ks.t.at_.count
  rw [h.rd.len] at hlL
  obtain ⟨u1, u2, u3⟩ := h.ks.t.at_.uniq
  have hca := rres_ok (now := now) hs1.rd hlL (s := t.slot) (dl := t.time) ht.s ht.t (fun y hy => (h.ks.t.at_.rng y hy).2.2.2) ⟨u1, u2, pairwise_nodup u3⟩
  have hcc := fun (W : World) (hp : Pure W1 W) => (hs1.pure hp).ks.reschedM2 (s := t.slot) (dl := t.time) ht.s ht.t
  obtain ⟨er, her⟩ : ∃ y, resR now L t.slot t.time = y := ⟨_, rfl⟩
  obtain ⟨Ln, hLn⟩ : ∃ Ln, resL now L t.slot t.time = Ln := ⟨_, rfl⟩
  rw [her, hLn] at hca
  rw [her, hLn] at hcc
  unfold whV at hca
  have HB := Lib.hid hB; have HW := Lib.hid hW; have E0 := Lib.hid e0; have E1 := Lib.hid e1; have E2 := Lib.hid e2; have HCa := Lib.hid hca; have HCc := Lib.hid hcc; have HH := Lib.hid h
  have HK := Lib.hid (fun (u : World) (hp : Pure W1 u) => hB.cells hp)
  clear hB hW e0 e1 e2 hca hcc hs1 h her hLn hlL ht h0 u1 u2 u3
  go_enter Tryd.func30, Tryd.ntmps30
  go_upto_region 1 with fail
  rw [HW.out, E2.out, E1.out, E0.out]
  clear HW E0 E1 E2
  obtain ⟨x0, x1, y0, y1, y2, y3⟩ := hx
  go_upto_region 11 with (first
    | (go_at_call 67; refine Calls.mono HCa.out ?_; rintro e w4 ⟨a4, n4, c4, rfl, hr4, hk4, hp4⟩
       have HP4 := Lib.hid hp4; have HR4 := Lib.hid hr4; have HK4 := Lib.hid hk4
       clear hp4 hr4 hk4 x0 x1 y0 y1 y2 y3))
  have pa := (Mod.refl (fun _ => False) w4).alloc (.cells #[.int .u64 now, .slice a4 n4 c4] 45)
  have h16 := heap_new (w := w4) (o := .cells #[.int .u64 now, .slice a4 n4 c4] 45 (0, 0)) rfl
  obtain ⟨b16, hb16⟩ : ∃ b, w4.heap.size = b := ⟨_, rfl⟩
  rw [hb16] at h16 ⊢
  generalize w4.alloc (.cells #[.int .u64 now, .slice a4 n4 c4] 45) = W5 at *
  have hlW : ∀ k, D k → k < w.heap.size := fun k hk => HH.out.ks.lt hk
  have hws := HB.out.pure.size
  have hw1s := HP4.out.size
  have hb2 := lt_of_block HB.out.h2
  have n9 : ¬ (D b16 ∨ b16 = b2) := fun e => by
    rcases e with e | e
    · have := hlW _ e; omega
    · omega
  have n1 : ¬ (D b1 ∨ b1 = b2) := fun e => by
    rcases e with e | e
    · have := hlW _ e; have := HB.out.z1; omega
    · exact HB.out.ne12 e
  have n2 : ¬ D b2 := fun e => by have := hlW _ e; have := HB.out.z2; omega
  have p5 := HP4.out.trans pa
  have hkm : ∀ u, Mod (fun k => D k ∨ k = b2) W5 u → u.cell? ⟨b16, 0, none⟩ = some (.int .u64 now) ∧ u.cell? ⟨b16, 1, none⟩ = some (.slice a4 n4 c4) ∧ u.cell? ⟨b1, 1, none⟩ = some (.int .u32 t.slot) ∧ u.cell? ⟨b1, 3, none⟩ = some (.int .u64 t.time) := fun u hm => by
    obtain ⟨x0, x1⟩ := whbox (hm.heap n9 h16)
    obtain ⟨_, _, _, y1, y2, y3⟩ := HK.out W5 p5
    exact ⟨x0, x1, hm.cell n1 y1, hm.cell n1 y3⟩
  have hrb : ∀ g, rdBlock (.slice a4 n4 c4) = some g → g ≠ b2 := fun g hg => by
    rcases HK4.out.rd hg with e | e
    · have := HH.out.rd.lt e; have := HB.out.z2; omega
    · omega
  have hr5 := HR4.out.pure pa
  have HKm := Lib.hid hkm; have HRb := Lib.hid hrb; have HPx := Lib.hid p5; have HRx := Lib.hid hr5; have HN2 := Lib.hid n2; have HB2 := Lib.hid hb2
  have HX := Lib.hid (hkm W5 (Mod.refl _ _))
  clear hkm hrb p5 hr5 n2 n1 n9 hlW hws hw1s hb2 h16 pa hb16
  refine wp_region_held_drew (S := fun u => u.cell? ⟨b16, 0, none⟩ = some (.int .u64 now) ∧ u.cell? ⟨b16, 1, none⟩ = some (.slice a4 n4 c4) ∧ u.cell? ⟨b1, 1, none⟩ = some (.int .u32 t.slot) ∧ u.cell? ⟨b1, 3, none⟩ = some (.int .u64 t.time)) (by kernel_rfl) HX.out (fun hHeld => ?_)
  ((refine wpAnyH_take (i := 0) (v := ?_) rfl (by kernel_rfl) (by kernel_rfl) (by kernel_rfl) (fun _ _ _ h => h) (Yields.yieldsIf (Or.inl ⟨by rfl, ?_⟩)) hHeld ?_; rotate_left 1; focus (intro w; go_simp; try with_reducible rfl)); try simp only [Act.put, List.getElem_toArray, List.getElem_cons_zero, List.getElem_cons_succ, List.setIfInBounds_toArray, List.set_cons_zero, List.set_cons_succ])
  ((refine wpAnyH_take (i := 1) (v := ?_) rfl (by kernel_rfl) (by kernel_rfl) (by kernel_rfl) (fun _ _ _ h => h) (Or.inl ⟨by rfl, ?_⟩) hHeld ?_; rotate_left 1; focus (intro w hS; obtain ⟨s0, s1, s2, s3⟩ := hS; go_simp; try with_reducible rfl)); try simp only [Act.put, List.getElem_toArray, List.getElem_cons_zero, List.getElem_cons_succ, List.setIfInBounds_toArray, List.set_cons_zero, List.set_cons_succ])
  ((refine wpAnyH_take (i := 2) (v := ?_) rfl (by kernel_rfl) (by kernel_rfl) (by kernel_rfl) (fun _ _ _ h => h) (Yields.yieldsIf (Or.inl ⟨by rfl, ?_⟩)) hHeld ?_; rotate_left 1; focus (intro w; go_simp; try with_reducible rfl)); try simp only [Act.put, List.getElem_toArray, List.getElem_cons_zero, List.getElem_cons_succ, List.setIfInBounds_toArray, List.set_cons_zero, List.set_cons_succ])
  ((refine wpAnyH_take (i := 3) (v := ?_) rfl (by kernel_rfl) (by kernel_rfl) (by kernel_rfl) (fun _ _ _ h => h) (Yields.yieldsIf (Or.inl ⟨by rfl, ?_⟩)) hHeld ?_; rotate_left 1; focus (intro w; go_simp; try with_reducible rfl)); try simp only [Act.put, List.getElem_toArray, List.getElem_cons_zero, List.getElem_cons_succ, List.setIfInBounds_toArray, List.set_cons_zero, List.set_cons_succ])
  ((refine wpAnyH_take (i := 4) (v := ?_) rfl (by kernel_rfl) (by kernel_rfl) (by kernel_rfl) (fun _ _ _ h => h) (Or.inl ⟨by rfl, ?_⟩) hHeld ?_; rotate_left 1; focus (intro w hS; obtain ⟨s0, s1, s2, s3⟩ := hS; go_simp; try with_reducible rfl)); try simp only [Act.put, List.getElem_toArray, List.getElem_cons_zero, List.getElem_cons_succ, List.setIfInBounds_toArray, List.set_cons_zero, List.set_cons_succ])
  ((refine wpAnyH_take (i := 5) (v := ?_) rfl (by kernel_rfl) (by kernel_rfl) (by kernel_rfl) (fun _ _ _ h => h) (Yields.yieldsIf (Or.inl ⟨by rfl, ?_⟩)) hHeld ?_; rotate_left 1; focus (intro w; go_simp; try with_reducible rfl)); try simp only [Act.put, List.getElem_toArray, List.getElem_cons_zero, List.getElem_cons_succ, List.setIfInBounds_toArray, List.set_cons_zero, List.set_cons_succ])
  ((refine wpAnyH_take (i := 6) (v := ?_) rfl (by kernel_rfl) (by kernel_rfl) (by kernel_rfl) (fun _ _ _ h => h) (Or.inl ⟨by rfl, ?_⟩) hHeld ?_; rotate_left 1; focus (intro w hS; obtain ⟨s0, s1, s2, s3⟩ := hS; go_simp; try with_reducible rfl)); try simp only [Act.put, List.getElem_toArray, List.getElem_cons_zero, List.getElem_cons_succ, List.setIfInBounds_toArray, List.set_cons_zero, List.set_cons_succ])
  ((refine wpAnyH_take (i := 8) (v := ?_) rfl (by kernel_rfl) (by kernel_rfl) (by kernel_rfl) (fun _ _ _ h => h) (Yields.yieldsIf (Or.inl ⟨by rfl, ?_⟩)) hHeld ?_; rotate_left 1; focus (intro w; go_simp; try with_reducible rfl)); try simp only [Act.put, List.getElem_toArray, List.getElem_cons_zero, List.getElem_cons_succ, List.setIfInBounds_toArray, List.set_cons_zero, List.set_cons_succ])
  have HQ : Hid (Pure W5 W5.drew) := Lib.hid (Mod.refl _ _).drew
  ((refine wpAnyH_ready (rs := [7]) (by kernel_rfl) (by simp) ?_; refine AllReadyH.cons rfl (fun K hK => ?_) AllReadyH.nil; go_simp; refine Calls.mono (HCc.out _ (HPx.out.trans HQ.out)) ?_; rintro e u2 ⟨rfl, D6, hs6, hg6, hm6⟩; refine hK.out _ _ ?_ (fun hHeld => ?_); (· exact HKm.out _ ((Mod.of_pure HQ.out).trans (hm6.mono (fun _ _ h => .inl h)))); clear hK K); try simp only [Act.put, List.getElem_toArray, List.getElem_cons_zero, List.getElem_cons_succ, List.setIfInBounds_toArray, List.set_cons_zero, List.set_cons_succ])
  have h26 := hm6.heap HN2.out ((HPx.out.trans HQ.out).heap (fun h => h) HB.out.h2)
  have HF := Lib.hid (HH.out.fin (HB.out.pure.trans (HPx.out.trans HQ.out)) (HRx.out.pure HQ.out) (HK4.out.mono HB.out.pure.size) hs6 hg6 hm6 HB.out.z2 (Nat.lt_of_lt_of_le HB2.out (HPx.out.trans HQ.out).size) HRb.out (.int .u64 now) (.slice a4 n4 c4))
  have HM6 := Lib.hid hm6
  clear hs6 hg6 hm6
  have h26_0 := cell_of_row _ _ 0 _ _ _ h26; have h26_1 := cell_of_row _ _ 1 _ _ _ h26; have h26_f := (fun j => frozen_of_row _ _ j _ _ h26); have h26_l := lt_of_block h26; simp at h26_0 h26_1; have H_h26 := Lib.hid h26; clear h26
  ((refine wpAnyH_take (i := 9) (v := ?_) rfl (by kernel_rfl) (by kernel_rfl) (by kernel_rfl) (fun _ _ _ h => h) (Yields.yieldsIf (Or.inl ⟨by rfl, ?_⟩)) hHeld ?_; rotate_left 1; focus (intro w; go_simp; try with_reducible rfl)); try simp only [Act.put, List.getElem_toArray, List.getElem_cons_zero, List.getElem_cons_succ, List.setIfInBounds_toArray, List.set_cons_zero, List.set_cons_succ])
  ((refine wpAnyH_take (i := 10) (v := ?_) rfl (by kernel_rfl) (by kernel_rfl) (by kernel_rfl) (fun _ _ _ h => h) (Yields.yieldsIf (Or.inl ⟨by rfl, ?_⟩)) hHeld ?_; rotate_left 1; focus (intro w; go_simp; try with_reducible rfl)); try simp only [Act.put, List.getElem_toArray, List.getElem_cons_zero, List.getElem_cons_succ, List.setIfInBounds_toArray, List.set_cons_zero, List.set_cons_succ])
  ((refine wpAnyH_ready (rs := [11]) (by kernel_rfl) (by simp) ?_; refine AllReadyH.cons rfl (fun K hK => ?_) AllReadyH.nil; go_simp; skip; refine hK.out _ _ ?_ (fun hHeld => ?_); (· exact HKm.out _ (((Mod.of_pure HQ.out).trans (HM6.out.mono (fun _ _ h => .inl h))).trans ((Mod.set2 b2 0 1 _ _).mono (fun _ _ h => .inr h)))); clear hK K); try simp only [Act.put, List.getElem_toArray, List.getElem_cons_zero, List.getElem_cons_succ, List.setIfInBounds_toArray, List.set_cons_zero, List.set_cons_succ])
  ((refine wpAnyH_take (i := 12) (v := ?_) rfl (by kernel_rfl) (by kernel_rfl) (by kernel_rfl) (fun _ _ _ h => h) (Yields.yieldsIf (Or.inl ⟨by rfl, ?_⟩)) hHeld ?_; rotate_left 1; focus (intro w; go_simp; try with_reducible rfl)); try simp only [Act.put, List.getElem_toArray, List.getElem_cons_zero, List.getElem_cons_succ, List.setIfInBounds_toArray, List.set_cons_zero, List.set_cons_succ])
  refine wpAnyH_done (by kernel_rfl) ?_ _
  clear hHeld
  go_wp2
  refine bodyPost_ret (v := .tuple #[lkP p, .agg #[.int .u64 now, .slice a4 n4 c4], .bool true]) (by simp [results, Tryd.results30, go_sem, h26_0, h26_1, h26_l]) rfl ⟨p, now, a4, n4, c4, D6, Ln, rfl, HF.out.1, HF.out.2.1, HK4.out.mono HB.out.pure.size, HF.out.2.2⟩
end
end Go.Proofs.YtlalpenfgkfkpaaDoor

/- law20.step: Advance, three kinds. Conditions: the cascade lies in memory, the reference's list is read. Printed by wip/gen_l20f.py. -/
namespace Go.Proofs.YtlalpenfgkfkpaaDoor
open Go.RowKit Go.Shelf
set_option maxRecDepth 100000
section
variable {w0 w w5 w6 : World} {D D' : Nat → Prop} {p p' now now' n c n' c' b2 : Nat} {a a' : Option Addr} {L L' : List Td} {t : Act20}
theorem nextD_lt (h : CasAt w D p now L) : nextD L < 18446744073709551616 := by
  cases L with
  | nil => show 18446744073709551615 < _; omega
  | cons x L => have := (h.rng x List.mem_cons_self).2.2.1; show x.dl < _; omega
set_option maxHeartbeats 2000000 in
theorem step_adv3 (h : StI w0 w p now a n c D L) (ht : ActOk t) (h0 : t.what = 3) :
    Calls Tryd.prog 30 #[lkP p, whV now a n c, actV t] w (StP w0 w a n c D) := by
  unfold whV actV
  obtain ⟨W1, b0, b1, b2, hW, e0, e1, e2, hB⟩ := boxA_ok (w := w) (now := now) (a := a) (n := n) (c := c) (t := t)
  unfold boxA at hW
  have hx := hB.cells (Mod.refl _ W1)
  have hw0 : (t.what == 0) = false := by rw [h0]; rfl
  have hw1 : (t.what == 1) = false := by rw [h0]; rfl
  have hw2 : (t.what == 2) = false := by rw [h0]; rfl
  have hw3 : (t.what == 3) = true := by rw [h0]; rfl
  have hw4 : (t.what == 4) = false := by rw [h0]; rfl
  have hw5 : (t.what == 5) = false := by rw [h0]; rfl
  have hs1 := h.pure hB.pure
  have hlL := h.ks.t.at_.count
  rw [h.rd.len] at hlL
  have h64 := h.ks.t.at_.now64
  have htt := ht.t
  obtain ⟨tt, hte⟩ : ∃ tt, t.time = tt := ⟨_, rfl⟩
  have ht64 : tt < 18446744073709551616 := by omega
  have hca := fun (W : World) (hp : Pure W1 W) => radv_any (tt := tt) (hs1.pure hp).rd hlL (fun x hx => (h.ks.t.at_.rng x hx).2.1)
  have hcc := fun (W : World) (hp : Pure W1 W) (a2 : Option Addr) (n2 c2 : Nat) (hr : RdL W a2 n2 c2 (aOut now tt L)) (hwD : ∀ g, rdBlock (.slice a2 n2 c2) = some g → ¬ D g) => (hs1.pure hp).ks.advM2 (tt := tt) ht64 hr hwD
  obtain ⟨nw', hnw'⟩ : ∃ x, aNow now tt = x := ⟨_, rfl⟩
  obtain ⟨er, her⟩ : ∃ x, aErr now tt = x := ⟨_, rfl⟩
  obtain ⟨Ln, hLn⟩ : ∃ x, aRest now tt L = x := ⟨_, rfl⟩
  obtain ⟨lo, hlo⟩ : ∃ x, aOut now tt L = x := ⟨_, rfl⟩
  rw [hnw', her, hLn, hlo] at hca
  rw [hnw', her, hLn, hlo] at hcc
  unfold whV at hca
  have HB := Lib.hid hB; have HW := Lib.hid hW; have E0 := Lib.hid e0; have E1 := Lib.hid e1; have E2 := Lib.hid e2; have HCa := Lib.hid hca; have HCc := Lib.hid hcc; have HH := Lib.hid h
  have HK := Lib.hid (fun (u : World) (hp : Pure W1 u) => hB.cells hp)
  clear hB hW e0 e1 e2 hca hcc hs1 h hnw' her hLn hlo hlL ht h0 h64 ht64 htt
  have HTE := Lib.hid hte
  clear hte
  go_enter Tryd.func30, Tryd.ntmps30
  go_upto_region 1 with fail
  rw [HW.out, E2.out, E1.out, E0.out]
  clear HW E0 E1 E2
  obtain ⟨x0, x1, y0, y1, y2, y3⟩ := hx
  rw [HTE.out] at y3
  go_upto_region 20 with fail
  have hca := HCa.out W1 (Mod.refl _ _)
  have HCa2 := Lib.hid hca
  clear hca HCa
  go_upto_region 21 with (first
    | (go_at_call 21; refine Calls.mono HCa2.out ?_; rintro e w4 ⟨a4, n4, c4, a5, n5, c5, rfl, hr4, hk4, hr5, hf5, hp4⟩
       have HP4 := Lib.hid (Mod.trans ((Mod.refl _ _) : Pure W1 W1) hp4); have HR4 := Lib.hid hr4; have HK4 := Lib.hid (hk4.mono (Mod.size ((Mod.refl _ _) : Pure W1 W1))); have HR5 := Lib.hid hr5
       have HF5 := Lib.hid (fun g hg => Nat.le_trans (Mod.size ((Mod.refl _ _) : Pure W1 W1)) (hf5 g hg))
       clear hp4 hr4 hk4 hr5 hf5 x0 x1 y0 y1 y2 y3))
  have pa := (Mod.refl (fun _ => False) w4).alloc (.cells #[.int .u64 nw', .slice a4 n4 c4] 45)
  have h16 := heap_new (w := w4) (o := .cells #[.int .u64 nw', .slice a4 n4 c4] 45 (0, 0)) rfl
  obtain ⟨b16, hb16⟩ : ∃ b, w4.heap.size = b := ⟨_, rfl⟩
  rw [hb16] at h16 ⊢
  generalize w4.alloc (.cells #[.int .u64 nw', .slice a4 n4 c4] 45) = W5 at *
  have hlW : ∀ k, D k → k < w.heap.size := fun k hk => HH.out.ks.lt hk
  have hws := HB.out.pure.size
  have hw1s := HP4.out.size
  have hb2 := lt_of_block HB.out.h2
  have n9 : ¬ (D b16 ∨ b16 = b2) := fun e => by
    rcases e with e | e
    · have := hlW _ e; omega
    · omega
  have n2 : ¬ D b2 := fun e => by have := hlW _ e; have := HB.out.z2; omega
  have p5 := HP4.out.trans pa
  have hkm : ∀ u, Mod (fun k => D k ∨ k = b2) W5 u → u.cell? ⟨b16, 0, none⟩ = some (.int .u64 nw') ∧ u.cell? ⟨b16, 1, none⟩ = some (.slice a4 n4 c4) := fun u hm => whbox (hm.heap n9 h16)
  have hrb : ∀ g, rdBlock (.slice a4 n4 c4) = some g → g ≠ b2 := fun g hg => by
    rcases HK4.out.rd hg with e | e
    · have := HH.out.rd.lt e; have := HB.out.z2; omega
    · omega
  have hr5 := HR4.out.pure pa
  have hcc := HCc.out W5.drew p5.drew a5 n5 c5 ((HR5.out.pure pa).pure (Mod.refl _ _).drew) (fun g hg hd => by have := HF5.out g hg; have := hlW g hd; omega)
  have HKm := Lib.hid hkm; have HRb := Lib.hid hrb; have HPx := Lib.hid p5; have HRx := Lib.hid hr5; have HN2 := Lib.hid n2; have HB2 := Lib.hid hb2; have HCc5 := Lib.hid hcc
  have HX := Lib.hid (hkm W5 (Mod.refl _ _))
  clear hkm hrb p5 hr5 n2 n9 hlW hws hw1s hb2 h16 pa hb16 hcc HCc
  refine wp_region_held_drew (S := fun u => u.cell? ⟨b16, 0, none⟩ = some (.int .u64 nw') ∧ u.cell? ⟨b16, 1, none⟩ = some (.slice a4 n4 c4)) (by kernel_rfl) HX.out (fun hHeld => ?_)
  ((refine wpAnyH_take (i := 0) (v := ?_) rfl (by kernel_rfl) (by kernel_rfl) (by kernel_rfl) (fun _ _ _ h => h) (Yields.yieldsIf (Or.inl ⟨by rfl, ?_⟩)) hHeld ?_; rotate_left 1; focus (intro w; go_simp; try with_reducible rfl)); try simp only [Act.put, List.getElem_toArray, List.getElem_cons_zero, List.getElem_cons_succ, List.setIfInBounds_toArray, List.set_cons_zero, List.set_cons_succ])
  ((refine wpAnyH_take (i := 1) (v := ?_) rfl (by kernel_rfl) (by kernel_rfl) (by kernel_rfl) (fun _ _ _ h => h) (Or.inl ⟨by rfl, ?_⟩) hHeld ?_; rotate_left 1; focus (intro w hS; obtain ⟨s0, s1⟩ := hS; go_simp; try with_reducible rfl)); try simp only [Act.put, List.getElem_toArray, List.getElem_cons_zero, List.getElem_cons_succ, List.setIfInBounds_toArray, List.set_cons_zero, List.set_cons_succ])
  ((refine wpAnyH_take (i := 2) (v := ?_) rfl (by kernel_rfl) (by kernel_rfl) (by kernel_rfl) (fun _ _ _ h => h) (Yields.yieldsIf (Or.inl ⟨by rfl, ?_⟩)) hHeld ?_; rotate_left 1; focus (intro w; go_simp; try with_reducible rfl)); try simp only [Act.put, List.getElem_toArray, List.getElem_cons_zero, List.getElem_cons_succ, List.setIfInBounds_toArray, List.set_cons_zero, List.set_cons_succ])
  ((refine wpAnyH_take (i := 3) (v := ?_) rfl (by kernel_rfl) (by kernel_rfl) (by kernel_rfl) (fun _ _ _ h => h) (Yields.yieldsIf (Or.inl ⟨by rfl, ?_⟩)) hHeld ?_; rotate_left 1; focus (intro w; go_simp; try with_reducible rfl)); try simp only [Act.put, List.getElem_toArray, List.getElem_cons_zero, List.getElem_cons_succ, List.setIfInBounds_toArray, List.set_cons_zero, List.set_cons_succ])
  ((refine wpAnyH_take (i := 4) (v := ?_) rfl (by kernel_rfl) (by kernel_rfl) (by kernel_rfl) (fun _ _ _ h => h) (Yields.yieldsIf (Or.inl ⟨by rfl, ?_⟩)) hHeld ?_; rotate_left 1; focus (intro w; go_simp; try with_reducible rfl)); try simp only [Act.put, List.getElem_toArray, List.getElem_cons_zero, List.getElem_cons_succ, List.setIfInBounds_toArray, List.set_cons_zero, List.set_cons_succ])
  ((refine wpAnyH_take (i := 5) (v := ?_) rfl (by kernel_rfl) (by kernel_rfl) (by kernel_rfl) (fun _ _ _ h => h) (Yields.yieldsIf (Or.inl ⟨by rfl, ?_⟩)) hHeld ?_; rotate_left 1; focus (intro w; go_simp; try with_reducible rfl)); try simp only [Act.put, List.getElem_toArray, List.getElem_cons_zero, List.getElem_cons_succ, List.setIfInBounds_toArray, List.set_cons_zero, List.set_cons_succ])
  have HQ : Hid (Pure W5 W5.drew) := Lib.hid (Mod.refl _ _).drew
  ((refine wpAnyH_ready (rs := [6]) (by kernel_rfl) (by simp) ?_; refine AllReadyH.cons rfl (fun K hK => ?_) AllReadyH.nil; go_simp; refine Calls.mono HCc5.out ?_; rintro e u2 ⟨rfl, D6, hs6, hg6, hm6⟩; refine hK.out _ _ ?_ (fun hHeld => ?_); (· exact HKm.out _ ((Mod.of_pure HQ.out).trans (hm6.mono (fun _ _ h => .inl h)))); clear hK K); try simp only [Act.put, List.getElem_toArray, List.getElem_cons_zero, List.getElem_cons_succ, List.setIfInBounds_toArray, List.set_cons_zero, List.set_cons_succ])
  have h26 := hm6.heap HN2.out ((HPx.out.trans HQ.out).heap (fun h => h) HB.out.h2)
  have HF := Lib.hid (HH.out.fin (HB.out.pure.trans (HPx.out.trans HQ.out)) (HRx.out.pure HQ.out) (HK4.out.mono HB.out.pure.size) hs6 hg6 hm6 HB.out.z2 (Nat.lt_of_lt_of_le HB2.out (HPx.out.trans HQ.out).size) HRb.out (.int .u64 nw') (.slice a4 n4 c4))
  have HM6 := Lib.hid hm6
  clear hs6 hg6 hm6
  have h26_0 := cell_of_row _ _ 0 _ _ _ h26; have h26_1 := cell_of_row _ _ 1 _ _ _ h26; have h26_f := (fun j => frozen_of_row _ _ j _ _ h26); have h26_l := lt_of_block h26; simp at h26_0 h26_1; have H_h26 := Lib.hid h26; clear h26
  ((refine wpAnyH_take (i := 7) (v := ?_) rfl (by kernel_rfl) (by kernel_rfl) (by kernel_rfl) (fun _ _ _ h => h) (Yields.yieldsIf (Or.inl ⟨by rfl, ?_⟩)) hHeld ?_; rotate_left 1; focus (intro w; go_simp; try with_reducible rfl)); try simp only [Act.put, List.getElem_toArray, List.getElem_cons_zero, List.getElem_cons_succ, List.setIfInBounds_toArray, List.set_cons_zero, List.set_cons_succ])
  ((refine wpAnyH_ready (rs := [8]) (by kernel_rfl) (by simp) ?_; refine AllReadyH.cons rfl (fun K hK => ?_) AllReadyH.nil; go_simp; skip; refine hK.out _ _ ?_ (fun hHeld => ?_); (· exact HKm.out _ (((Mod.of_pure HQ.out).trans (HM6.out.mono (fun _ _ h => .inl h))).trans ((Mod.set2 b2 0 1 _ _).mono (fun _ _ h => .inr h)))); clear hK K); try simp only [Act.put, List.getElem_toArray, List.getElem_cons_zero, List.getElem_cons_succ, List.setIfInBounds_toArray, List.set_cons_zero, List.set_cons_succ])
  ((refine wpAnyH_take (i := 9) (v := ?_) rfl (by kernel_rfl) (by kernel_rfl) (by kernel_rfl) (fun _ _ _ h => h) (Yields.yieldsIf (Or.inl ⟨by rfl, ?_⟩)) hHeld ?_; rotate_left 1; focus (intro w; go_simp; try with_reducible rfl)); try simp only [Act.put, List.getElem_toArray, List.getElem_cons_zero, List.getElem_cons_succ, List.setIfInBounds_toArray, List.set_cons_zero, List.set_cons_succ])
  refine wpAnyH_done (by kernel_rfl) ?_ _
  clear hHeld
  go_wp2
  refine bodyPost_ret (v := .tuple #[lkP p, .agg #[.int .u64 nw', .slice a4 n4 c4], .bool true]) (by simp [results, Tryd.results30, go_sem, h26_0, h26_1, h26_l]) rfl ⟨p, nw', a4, n4, c4, D6, Ln, rfl, HF.out.1, HF.out.2.1, HK4.out.mono HB.out.pure.size, HF.out.2.2⟩
set_option maxHeartbeats 2000000 in
theorem step_adv4 (h : StI w0 w p now a n c D L) (ht : ActOk t) (h0 : t.what = 4) :
    Calls Tryd.prog 30 #[lkP p, whV now a n c, actV t] w (StP w0 w a n c D) := by
  unfold whV actV
  obtain ⟨W1, b0, b1, b2, hW, e0, e1, e2, hB⟩ := boxA_ok (w := w) (now := now) (a := a) (n := n) (c := c) (t := t)
  unfold boxA at hW
  have hx := hB.cells (Mod.refl _ W1)
  have hw0 : (t.what == 0) = false := by rw [h0]; rfl
  have hw1 : (t.what == 1) = false := by rw [h0]; rfl
  have hw2 : (t.what == 2) = false := by rw [h0]; rfl
  have hw3 : (t.what == 3) = false := by rw [h0]; rfl
  have hw4 : (t.what == 4) = true := by rw [h0]; rfl
  have hw5 : (t.what == 5) = false := by rw [h0]; rfl
  have hs1 := h.pure hB.pure
  have hlL := h.ks.t.at_.count
  rw [h.rd.len] at hlL
  have h64 := h.ks.t.at_.now64
  have htt := ht.t
  obtain ⟨tt, hte⟩ : ∃ tt, now + min t.time (18446744073709551615 - now) = tt := ⟨_, rfl⟩
  have ht64 : tt < 18446744073709551616 := by omega
  obtain ⟨d, hd⟩ : ∃ d : Nat, 18446744073709551615 - now = d := ⟨_, rfl⟩
  have hdI : (18446744073709551615 : Int) - (now : Int) = (d : Int) := by omega
  have wd : IntKind.u64.wrap (d : Int) = (d : Int) := by simp [IntKind.wrap, IntKind.signed, IntKind.bits]; omega
  have wt : IntKind.u64.wrap ((now : Int) + min (t.time : Int) (d : Int)) = (tt : Int) := by have e : (now : Int) + min (t.time : Int) (d : Int) = (tt : Int) := (by omega); rw [e]; simp [IntKind.wrap, IntKind.signed, IntKind.bits]; omega
  have hca := fun (W : World) (hp : Pure W1 W) => radv_any (tt := tt) (hs1.pure hp).rd hlL (fun x hx => (h.ks.t.at_.rng x hx).2.1)
  have hcc := fun (W : World) (hp : Pure W1 W) (a2 : Option Addr) (n2 c2 : Nat) (hr : RdL W a2 n2 c2 (aOut now tt L)) (hwD : ∀ g, rdBlock (.slice a2 n2 c2) = some g → ¬ D g) => (hs1.pure hp).ks.advM2 (tt := tt) ht64 hr hwD
  obtain ⟨nw', hnw'⟩ : ∃ x, aNow now tt = x := ⟨_, rfl⟩
  obtain ⟨er, her⟩ : ∃ x, aErr now tt = x := ⟨_, rfl⟩
  obtain ⟨Ln, hLn⟩ : ∃ x, aRest now tt L = x := ⟨_, rfl⟩
  obtain ⟨lo, hlo⟩ : ∃ x, aOut now tt L = x := ⟨_, rfl⟩
  rw [hnw', her, hLn, hlo] at hca
  rw [hnw', her, hLn, hlo] at hcc
  unfold whV at hca
  have HB := Lib.hid hB; have HW := Lib.hid hW; have E0 := Lib.hid e0; have E1 := Lib.hid e1; have E2 := Lib.hid e2; have HCa := Lib.hid hca; have HCc := Lib.hid hcc; have HH := Lib.hid h
  have HK := Lib.hid (fun (u : World) (hp : Pure W1 u) => hB.cells hp)
  clear hB hW e0 e1 e2 hca hcc hs1 h hnw' her hLn hlo hlL ht h0 h64 ht64 htt hd
  have HTE := Lib.hid hte
  clear hte
  go_enter Tryd.func30, Tryd.ntmps30
  go_upto_region 1 with fail
  rw [HW.out, E2.out, E1.out, E0.out]
  clear HW E0 E1 E2
  obtain ⟨x0, x1, y0, y1, y2, y3⟩ := hx
  go_upto_region 20 with fail
  have hca := HCa.out W1 (Mod.refl _ _)
  have HCa2 := Lib.hid hca
  clear hca HCa
  go_upto_region 21 with (first
    | (go_at_call 21; refine Calls.mono HCa2.out ?_; rintro e w4 ⟨a4, n4, c4, a5, n5, c5, rfl, hr4, hk4, hr5, hf5, hp4⟩
       have HP4 := Lib.hid (Mod.trans ((Mod.refl _ _) : Pure W1 W1) hp4); have HR4 := Lib.hid hr4; have HK4 := Lib.hid (hk4.mono (Mod.size ((Mod.refl _ _) : Pure W1 W1))); have HR5 := Lib.hid hr5
       have HF5 := Lib.hid (fun g hg => Nat.le_trans (Mod.size ((Mod.refl _ _) : Pure W1 W1)) (hf5 g hg))
       clear hp4 hr4 hk4 hr5 hf5 x0 x1 y0 y1 y2 y3))
  have pa := (Mod.refl (fun _ => False) w4).alloc (.cells #[.int .u64 nw', .slice a4 n4 c4] 45)
  have h16 := heap_new (w := w4) (o := .cells #[.int .u64 nw', .slice a4 n4 c4] 45 (0, 0)) rfl
  obtain ⟨b16, hb16⟩ : ∃ b, w4.heap.size = b := ⟨_, rfl⟩
  rw [hb16] at h16 ⊢
  generalize w4.alloc (.cells #[.int .u64 nw', .slice a4 n4 c4] 45) = W5 at *
  have hlW : ∀ k, D k → k < w.heap.size := fun k hk => HH.out.ks.lt hk
  have hws := HB.out.pure.size
  have hw1s := HP4.out.size
  have hb2 := lt_of_block HB.out.h2
  have n9 : ¬ (D b16 ∨ b16 = b2) := fun e => by
    rcases e with e | e
    · have := hlW _ e; omega
    · omega
  have n2 : ¬ D b2 := fun e => by have := hlW _ e; have := HB.out.z2; omega
  have p5 := HP4.out.trans pa
  have hkm : ∀ u, Mod (fun k => D k ∨ k = b2) W5 u → u.cell? ⟨b16, 0, none⟩ = some (.int .u64 nw') ∧ u.cell? ⟨b16, 1, none⟩ = some (.slice a4 n4 c4) := fun u hm => whbox (hm.heap n9 h16)
  have hrb : ∀ g, rdBlock (.slice a4 n4 c4) = some g → g ≠ b2 := fun g hg => by
    rcases HK4.out.rd hg with e | e
    · have := HH.out.rd.lt e; have := HB.out.z2; omega
    · omega
  have hr5 := HR4.out.pure pa
  have hcc := HCc.out W5.drew p5.drew a5 n5 c5 ((HR5.out.pure pa).pure (Mod.refl _ _).drew) (fun g hg hd => by have := HF5.out g hg; have := hlW g hd; omega)
  have HKm := Lib.hid hkm; have HRb := Lib.hid hrb; have HPx := Lib.hid p5; have HRx := Lib.hid hr5; have HN2 := Lib.hid n2; have HB2 := Lib.hid hb2; have HCc5 := Lib.hid hcc
  have HX := Lib.hid (hkm W5 (Mod.refl _ _))
  clear hkm hrb p5 hr5 n2 n9 hlW hws hw1s hb2 h16 pa hb16 hcc HCc
  refine wp_region_held_drew (S := fun u => u.cell? ⟨b16, 0, none⟩ = some (.int .u64 nw') ∧ u.cell? ⟨b16, 1, none⟩ = some (.slice a4 n4 c4)) (by kernel_rfl) HX.out (fun hHeld => ?_)
  ((refine wpAnyH_take (i := 0) (v := ?_) rfl (by kernel_rfl) (by kernel_rfl) (by kernel_rfl) (fun _ _ _ h => h) (Yields.yieldsIf (Or.inl ⟨by rfl, ?_⟩)) hHeld ?_; rotate_left 1; focus (intro w; go_simp; try with_reducible rfl)); try simp only [Act.put, List.getElem_toArray, List.getElem_cons_zero, List.getElem_cons_succ, List.setIfInBounds_toArray, List.set_cons_zero, List.set_cons_succ])
  ((refine wpAnyH_take (i := 1) (v := ?_) rfl (by kernel_rfl) (by kernel_rfl) (by kernel_rfl) (fun _ _ _ h => h) (Or.inl ⟨by rfl, ?_⟩) hHeld ?_; rotate_left 1; focus (intro w hS; obtain ⟨s0, s1⟩ := hS; go_simp; try with_reducible rfl)); try simp only [Act.put, List.getElem_toArray, List.getElem_cons_zero, List.getElem_cons_succ, List.setIfInBounds_toArray, List.set_cons_zero, List.set_cons_succ])
  ((refine wpAnyH_take (i := 2) (v := ?_) rfl (by kernel_rfl) (by kernel_rfl) (by kernel_rfl) (fun _ _ _ h => h) (Yields.yieldsIf (Or.inl ⟨by rfl, ?_⟩)) hHeld ?_; rotate_left 1; focus (intro w; go_simp; try with_reducible rfl)); try simp only [Act.put, List.getElem_toArray, List.getElem_cons_zero, List.getElem_cons_succ, List.setIfInBounds_toArray, List.set_cons_zero, List.set_cons_succ])
  ((refine wpAnyH_take (i := 3) (v := ?_) rfl (by kernel_rfl) (by kernel_rfl) (by kernel_rfl) (fun _ _ _ h => h) (Yields.yieldsIf (Or.inl ⟨by rfl, ?_⟩)) hHeld ?_; rotate_left 1; focus (intro w; go_simp; try with_reducible rfl)); try simp only [Act.put, List.getElem_toArray, List.getElem_cons_zero, List.getElem_cons_succ, List.setIfInBounds_toArray, List.set_cons_zero, List.set_cons_succ])
  ((refine wpAnyH_take (i := 4) (v := ?_) rfl (by kernel_rfl) (by kernel_rfl) (by kernel_rfl) (fun _ _ _ h => h) (Yields.yieldsIf (Or.inl ⟨by rfl, ?_⟩)) hHeld ?_; rotate_left 1; focus (intro w; go_simp; try with_reducible rfl)); try simp only [Act.put, List.getElem_toArray, List.getElem_cons_zero, List.getElem_cons_succ, List.setIfInBounds_toArray, List.set_cons_zero, List.set_cons_succ])
  ((refine wpAnyH_take (i := 5) (v := ?_) rfl (by kernel_rfl) (by kernel_rfl) (by kernel_rfl) (fun _ _ _ h => h) (Yields.yieldsIf (Or.inl ⟨by rfl, ?_⟩)) hHeld ?_; rotate_left 1; focus (intro w; go_simp; try with_reducible rfl)); try simp only [Act.put, List.getElem_toArray, List.getElem_cons_zero, List.getElem_cons_succ, List.setIfInBounds_toArray, List.set_cons_zero, List.set_cons_succ])
  have HQ : Hid (Pure W5 W5.drew) := Lib.hid (Mod.refl _ _).drew
  ((refine wpAnyH_ready (rs := [6]) (by kernel_rfl) (by simp) ?_; refine AllReadyH.cons rfl (fun K hK => ?_) AllReadyH.nil; go_simp; refine Calls.mono HCc5.out ?_; rintro e u2 ⟨rfl, D6, hs6, hg6, hm6⟩; refine hK.out _ _ ?_ (fun hHeld => ?_); (· exact HKm.out _ ((Mod.of_pure HQ.out).trans (hm6.mono (fun _ _ h => .inl h)))); clear hK K); try simp only [Act.put, List.getElem_toArray, List.getElem_cons_zero, List.getElem_cons_succ, List.setIfInBounds_toArray, List.set_cons_zero, List.set_cons_succ])
  have h26 := hm6.heap HN2.out ((HPx.out.trans HQ.out).heap (fun h => h) HB.out.h2)
  have HF := Lib.hid (HH.out.fin (HB.out.pure.trans (HPx.out.trans HQ.out)) (HRx.out.pure HQ.out) (HK4.out.mono HB.out.pure.size) hs6 hg6 hm6 HB.out.z2 (Nat.lt_of_lt_of_le HB2.out (HPx.out.trans HQ.out).size) HRb.out (.int .u64 nw') (.slice a4 n4 c4))
  have HM6 := Lib.hid hm6
  clear hs6 hg6 hm6
  have h26_0 := cell_of_row _ _ 0 _ _ _ h26; have h26_1 := cell_of_row _ _ 1 _ _ _ h26; have h26_f := (fun j => frozen_of_row _ _ j _ _ h26); have h26_l := lt_of_block h26; simp at h26_0 h26_1; have H_h26 := Lib.hid h26; clear h26
  ((refine wpAnyH_take (i := 7) (v := ?_) rfl (by kernel_rfl) (by kernel_rfl) (by kernel_rfl) (fun _ _ _ h => h) (Yields.yieldsIf (Or.inl ⟨by rfl, ?_⟩)) hHeld ?_; rotate_left 1; focus (intro w; go_simp; try with_reducible rfl)); try simp only [Act.put, List.getElem_toArray, List.getElem_cons_zero, List.getElem_cons_succ, List.setIfInBounds_toArray, List.set_cons_zero, List.set_cons_succ])
  ((refine wpAnyH_ready (rs := [8]) (by kernel_rfl) (by simp) ?_; refine AllReadyH.cons rfl (fun K hK => ?_) AllReadyH.nil; go_simp; skip; refine hK.out _ _ ?_ (fun hHeld => ?_); (· exact HKm.out _ (((Mod.of_pure HQ.out).trans (HM6.out.mono (fun _ _ h => .inl h))).trans ((Mod.set2 b2 0 1 _ _).mono (fun _ _ h => .inr h)))); clear hK K); try simp only [Act.put, List.getElem_toArray, List.getElem_cons_zero, List.getElem_cons_succ, List.setIfInBounds_toArray, List.set_cons_zero, List.set_cons_succ])
  ((refine wpAnyH_take (i := 9) (v := ?_) rfl (by kernel_rfl) (by kernel_rfl) (by kernel_rfl) (fun _ _ _ h => h) (Yields.yieldsIf (Or.inl ⟨by rfl, ?_⟩)) hHeld ?_; rotate_left 1; focus (intro w; go_simp; try with_reducible rfl)); try simp only [Act.put, List.getElem_toArray, List.getElem_cons_zero, List.getElem_cons_succ, List.setIfInBounds_toArray, List.set_cons_zero, List.set_cons_succ])
  refine wpAnyH_done (by kernel_rfl) ?_ _
  clear hHeld
  go_wp2
  refine bodyPost_ret (v := .tuple #[lkP p, .agg #[.int .u64 nw', .slice a4 n4 c4], .bool true]) (by simp [results, Tryd.results30, go_sem, h26_0, h26_1, h26_l]) rfl ⟨p, nw', a4, n4, c4, D6, Ln, rfl, HF.out.1, HF.out.2.1, HK4.out.mono HB.out.pure.size, HF.out.2.2⟩
set_option maxHeartbeats 2000000 in
theorem step_adv5 (h : StI w0 w p now a n c D L) (ht : ActOk t) (h0 : t.what = 5) :
    Calls Tryd.prog 30 #[lkP p, whV now a n c, actV t] w (StP w0 w a n c D) := by
  unfold whV actV
  obtain ⟨W1, b0, b1, b2, hW, e0, e1, e2, hB⟩ := boxA_ok (w := w) (now := now) (a := a) (n := n) (c := c) (t := t)
  unfold boxA at hW
  have hx := hB.cells (Mod.refl _ W1)
  have hw0 : (t.what == 0) = false := by rw [h0]; rfl
  have hw1 : (t.what == 1) = false := by rw [h0]; rfl
  have hw2 : (t.what == 2) = false := by rw [h0]; rfl
  have hw3 : (t.what == 3) = false := by rw [h0]; rfl
  have hw4 : (t.what == 4) = false := by rw [h0]; rfl
  have hw5 : (t.what == 5) = true := by rw [h0]; rfl
  have hs1 := h.pure hB.pure
  have hlL := h.ks.t.at_.count
  rw [h.rd.len] at hlL
  have h64 := h.ks.t.at_.now64
  obtain ⟨tt, hte⟩ : ∃ tt, nextD L = tt := ⟨_, rfl⟩
  have ht64 : tt < 18446744073709551616 := by rw [← hte]; exact nextD_lt h.ks.t.at_
  have hnx := rnext_ok (now := now) hs1.rd.rd hs1.rd.len
  rw [hte] at hnx
  unfold whV at hnx
  have HNx := Lib.hid hnx
  clear hnx
  have hca := fun (W : World) (hp : Pure W1 W) => radv_any (tt := tt) (hs1.pure hp).rd hlL (fun x hx => (h.ks.t.at_.rng x hx).2.1)
  have hcc := fun (W : World) (hp : Pure W1 W) (a2 : Option Addr) (n2 c2 : Nat) (hr : RdL W a2 n2 c2 (aOut now tt L)) (hwD : ∀ g, rdBlock (.slice a2 n2 c2) = some g → ¬ D g) => (hs1.pure hp).ks.advM2 (tt := tt) ht64 hr hwD
  obtain ⟨nw', hnw'⟩ : ∃ x, aNow now tt = x := ⟨_, rfl⟩
  obtain ⟨er, her⟩ : ∃ x, aErr now tt = x := ⟨_, rfl⟩
  obtain ⟨Ln, hLn⟩ : ∃ x, aRest now tt L = x := ⟨_, rfl⟩
  obtain ⟨lo, hlo⟩ : ∃ x, aOut now tt L = x := ⟨_, rfl⟩
  rw [hnw', her, hLn, hlo] at hca
  rw [hnw', her, hLn, hlo] at hcc
  unfold whV at hca
  have HB := Lib.hid hB; have HW := Lib.hid hW; have E0 := Lib.hid e0; have E1 := Lib.hid e1; have E2 := Lib.hid e2; have HCa := Lib.hid hca; have HCc := Lib.hid hcc; have HH := Lib.hid h
  have HK := Lib.hid (fun (u : World) (hp : Pure W1 u) => hB.cells hp)
  clear hB hW e0 e1 e2 hca hcc hs1 h hnw' her hLn hlo hlL ht h0 h64 ht64 hte
  go_enter Tryd.func30, Tryd.ntmps30
  go_upto_region 1 with fail
  rw [HW.out, E2.out, E1.out, E0.out]
  clear HW E0 E1 E2
  obtain ⟨x0, x1, y0, y1, y2, y3⟩ := hx
  go_upto_region 20 with (go_at_call 60; refine Calls.mono HNx.out ?_; rintro e v1 ⟨rfl, hpv⟩; have HPv := Lib.hid hpv; have hkx := HK.out v1 hpv; clear hpv)
  obtain ⟨x0, x1, y0, y1, y2, y3⟩ := hkx
  have hca := HCa.out v1 HPv.out
  have HCa2 := Lib.hid hca
  clear hca HCa
  go_upto_region 21 with (first
    | (go_at_call 21; refine Calls.mono HCa2.out ?_; rintro e w4 ⟨a4, n4, c4, a5, n5, c5, rfl, hr4, hk4, hr5, hf5, hp4⟩
       have HP4 := Lib.hid (Mod.trans (HPv.out : Pure W1 v1) hp4); have HR4 := Lib.hid hr4; have HK4 := Lib.hid (hk4.mono (Mod.size (HPv.out : Pure W1 v1))); have HR5 := Lib.hid hr5
       have HF5 := Lib.hid (fun g hg => Nat.le_trans (Mod.size (HPv.out : Pure W1 v1)) (hf5 g hg))
       clear hp4 hr4 hk4 hr5 hf5 x0 x1 y0 y1 y2 y3))
  have pa := (Mod.refl (fun _ => False) w4).alloc (.cells #[.int .u64 nw', .slice a4 n4 c4] 45)
  have h16 := heap_new (w := w4) (o := .cells #[.int .u64 nw', .slice a4 n4 c4] 45 (0, 0)) rfl
  obtain ⟨b16, hb16⟩ : ∃ b, w4.heap.size = b := ⟨_, rfl⟩
  rw [hb16] at h16 ⊢
  generalize w4.alloc (.cells #[.int .u64 nw', .slice a4 n4 c4] 45) = W5 at *
  have hlW : ∀ k, D k → k < w.heap.size := fun k hk => HH.out.ks.lt hk
  have hws := HB.out.pure.size
  have hw1s := HP4.out.size
  have hb2 := lt_of_block HB.out.h2
  have n9 : ¬ (D b16 ∨ b16 = b2) := fun e => by
    rcases e with e | e
    · have := hlW _ e; omega
    · omega
  have n2 : ¬ D b2 := fun e => by have := hlW _ e; have := HB.out.z2; omega
  have p5 := HP4.out.trans pa
  have hkm : ∀ u, Mod (fun k => D k ∨ k = b2) W5 u → u.cell? ⟨b16, 0, none⟩ = some (.int .u64 nw') ∧ u.cell? ⟨b16, 1, none⟩ = some (.slice a4 n4 c4) := fun u hm => whbox (hm.heap n9 h16)
  have hrb : ∀ g, rdBlock (.slice a4 n4 c4) = some g → g ≠ b2 := fun g hg => by
    rcases HK4.out.rd hg with e | e
    · have := HH.out.rd.lt e; have := HB.out.z2; omega
    · omega
  have hr5 := HR4.out.pure pa
  have hcc := HCc.out W5.drew p5.drew a5 n5 c5 ((HR5.out.pure pa).pure (Mod.refl _ _).drew) (fun g hg hd => by have := HF5.out g hg; have := hlW g hd; omega)
  have HKm := Lib.hid hkm; have HRb := Lib.hid hrb; have HPx := Lib.hid p5; have HRx := Lib.hid hr5; have HN2 := Lib.hid n2; have HB2 := Lib.hid hb2; have HCc5 := Lib.hid hcc
  have HX := Lib.hid (hkm W5 (Mod.refl _ _))
  clear hkm hrb p5 hr5 n2 n9 hlW hws hw1s hb2 h16 pa hb16 hcc HCc
  refine wp_region_held_drew (S := fun u => u.cell? ⟨b16, 0, none⟩ = some (.int .u64 nw') ∧ u.cell? ⟨b16, 1, none⟩ = some (.slice a4 n4 c4)) (by kernel_rfl) HX.out (fun hHeld => ?_)
  ((refine wpAnyH_take (i := 0) (v := ?_) rfl (by kernel_rfl) (by kernel_rfl) (by kernel_rfl) (fun _ _ _ h => h) (Yields.yieldsIf (Or.inl ⟨by rfl, ?_⟩)) hHeld ?_; rotate_left 1; focus (intro w; go_simp; try with_reducible rfl)); try simp only [Act.put, List.getElem_toArray, List.getElem_cons_zero, List.getElem_cons_succ, List.setIfInBounds_toArray, List.set_cons_zero, List.set_cons_succ])
  ((refine wpAnyH_take (i := 1) (v := ?_) rfl (by kernel_rfl) (by kernel_rfl) (by kernel_rfl) (fun _ _ _ h => h) (Or.inl ⟨by rfl, ?_⟩) hHeld ?_; rotate_left 1; focus (intro w hS; obtain ⟨s0, s1⟩ := hS; go_simp; try with_reducible rfl)); try simp only [Act.put, List.getElem_toArray, List.getElem_cons_zero, List.getElem_cons_succ, List.setIfInBounds_toArray, List.set_cons_zero, List.set_cons_succ])
  ((refine wpAnyH_take (i := 2) (v := ?_) rfl (by kernel_rfl) (by kernel_rfl) (by kernel_rfl) (fun _ _ _ h => h) (Yields.yieldsIf (Or.inl ⟨by rfl, ?_⟩)) hHeld ?_; rotate_left 1; focus (intro w; go_simp; try with_reducible rfl)); try simp only [Act.put, List.getElem_toArray, List.getElem_cons_zero, List.getElem_cons_succ, List.setIfInBounds_toArray, List.set_cons_zero, List.set_cons_succ])
  ((refine wpAnyH_take (i := 3) (v := ?_) rfl (by kernel_rfl) (by kernel_rfl) (by kernel_rfl) (fun _ _ _ h => h) (Yields.yieldsIf (Or.inl ⟨by rfl, ?_⟩)) hHeld ?_; rotate_left 1; focus (intro w; go_simp; try with_reducible rfl)); try simp only [Act.put, List.getElem_toArray, List.getElem_cons_zero, List.getElem_cons_succ, List.setIfInBounds_toArray, List.set_cons_zero, List.set_cons_succ])
  ((refine wpAnyH_take (i := 4) (v := ?_) rfl (by kernel_rfl) (by kernel_rfl) (by kernel_rfl) (fun _ _ _ h => h) (Yields.yieldsIf (Or.inl ⟨by rfl, ?_⟩)) hHeld ?_; rotate_left 1; focus (intro w; go_simp; try with_reducible rfl)); try simp only [Act.put, List.getElem_toArray, List.getElem_cons_zero, List.getElem_cons_succ, List.setIfInBounds_toArray, List.set_cons_zero, List.set_cons_succ])
  ((refine wpAnyH_take (i := 5) (v := ?_) rfl (by kernel_rfl) (by kernel_rfl) (by kernel_rfl) (fun _ _ _ h => h) (Yields.yieldsIf (Or.inl ⟨by rfl, ?_⟩)) hHeld ?_; rotate_left 1; focus (intro w; go_simp; try with_reducible rfl)); try simp only [Act.put, List.getElem_toArray, List.getElem_cons_zero, List.getElem_cons_succ, List.setIfInBounds_toArray, List.set_cons_zero, List.set_cons_succ])
  have HQ : Hid (Pure W5 W5.drew) := Lib.hid (Mod.refl _ _).drew
  ((refine wpAnyH_ready (rs := [6]) (by kernel_rfl) (by simp) ?_; refine AllReadyH.cons rfl (fun K hK => ?_) AllReadyH.nil; go_simp; refine Calls.mono HCc5.out ?_; rintro e u2 ⟨rfl, D6, hs6, hg6, hm6⟩; refine hK.out _ _ ?_ (fun hHeld => ?_); (· exact HKm.out _ ((Mod.of_pure HQ.out).trans (hm6.mono (fun _ _ h => .inl h)))); clear hK K); try simp only [Act.put, List.getElem_toArray, List.getElem_cons_zero, List.getElem_cons_succ, List.setIfInBounds_toArray, List.set_cons_zero, List.set_cons_succ])
  have h26 := hm6.heap HN2.out ((HPx.out.trans HQ.out).heap (fun h => h) HB.out.h2)
  have HF := Lib.hid (HH.out.fin (HB.out.pure.trans (HPx.out.trans HQ.out)) (HRx.out.pure HQ.out) (HK4.out.mono HB.out.pure.size) hs6 hg6 hm6 HB.out.z2 (Nat.lt_of_lt_of_le HB2.out (HPx.out.trans HQ.out).size) HRb.out (.int .u64 nw') (.slice a4 n4 c4))
  have HM6 := Lib.hid hm6
  clear hs6 hg6 hm6
  have h26_0 := cell_of_row _ _ 0 _ _ _ h26; have h26_1 := cell_of_row _ _ 1 _ _ _ h26; have h26_f := (fun j => frozen_of_row _ _ j _ _ h26); have h26_l := lt_of_block h26; simp at h26_0 h26_1; have H_h26 := Lib.hid h26; clear h26
  ((refine wpAnyH_take (i := 7) (v := ?_) rfl (by kernel_rfl) (by kernel_rfl) (by kernel_rfl) (fun _ _ _ h => h) (Yields.yieldsIf (Or.inl ⟨by rfl, ?_⟩)) hHeld ?_; rotate_left 1; focus (intro w; go_simp; try with_reducible rfl)); try simp only [Act.put, List.getElem_toArray, List.getElem_cons_zero, List.getElem_cons_succ, List.setIfInBounds_toArray, List.set_cons_zero, List.set_cons_succ])
  ((refine wpAnyH_ready (rs := [8]) (by kernel_rfl) (by simp) ?_; refine AllReadyH.cons rfl (fun K hK => ?_) AllReadyH.nil; go_simp; skip; refine hK.out _ _ ?_ (fun hHeld => ?_); (· exact HKm.out _ (((Mod.of_pure HQ.out).trans (HM6.out.mono (fun _ _ h => .inl h))).trans ((Mod.set2 b2 0 1 _ _).mono (fun _ _ h => .inr h)))); clear hK K); try simp only [Act.put, List.getElem_toArray, List.getElem_cons_zero, List.getElem_cons_succ, List.setIfInBounds_toArray, List.set_cons_zero, List.set_cons_succ])
  ((refine wpAnyH_take (i := 9) (v := ?_) rfl (by kernel_rfl) (by kernel_rfl) (by kernel_rfl) (fun _ _ _ h => h) (Yields.yieldsIf (Or.inl ⟨by rfl, ?_⟩)) hHeld ?_; rotate_left 1; focus (intro w; go_simp; try with_reducible rfl)); try simp only [Act.put, List.getElem_toArray, List.getElem_cons_zero, List.getElem_cons_succ, List.setIfInBounds_toArray, List.set_cons_zero, List.set_cons_succ])
  refine wpAnyH_done (by kernel_rfl) ?_ _
  clear hHeld
  go_wp2
  refine bodyPost_ret (v := .tuple #[lkP p, .agg #[.int .u64 nw', .slice a4 n4 c4], .bool true]) (by simp [results, Tryd.results30, go_sem, h26_0, h26_1, h26_l]) rfl ⟨p, nw', a4, n4, c4, D6, Ln, rfl, HF.out.1, HF.out.2.1, HK4.out.mono HB.out.pure.size, HF.out.2.2⟩
end
end Go.Proofs.YtlalpenfgkfkpaaDoor

/- law20.step: Copy. Conditions: the cascade lies in memory, the reference's list is read. -/
namespace Go.Proofs.YtlalpenfgkfkpaaDoor
open Go.RowKit Go.Shelf
set_option maxRecDepth 100000
section
variable {w0 w w5 w6 : World} {D D' : Nat → Prop} {p p' now now' n c n' c' b2 tt : Nat} {a a' : Option Addr} {L L' : List Td} {t : Act20}
theorem KnS.advM3 (h : KnS w0 w D p now L) (ht : tt < 18446744073709551616) :
    Calls Tryd.prog 16 #[lkP p, .int .u64 tt] w fun e w' => ∃ v, e = .returned v ∧ ∃ D' now' L', KnS w0 w' D' p now' L' ∧ grewD D D' w ∧ Mod D w w' := by
  refine (h.t.at_.advAny h.t.tab h.t.off ht).mono ?_
  rintro e w' ⟨a, c, rfl, hr, ⟨D', hc, hg, hf⟩, hm⟩
  exact ⟨_, rfl, D', _, _, h.step (h.t.next hc hg hm) hg hm, hg, hm⟩
theorem gr_step {Dc Dn : Nat → Prop} {s : Nat} {u : World} (hd : ∀ k, Dc k → D k ∨ s ≤ k) (hg : grewD Dc Dn u) (hu : s ≤ u.heap.size) : ∀ k, Dn k → D k ∨ s ≤ k := fun k hk => by
  rcases hg k hk with e | e
  · exact hd k e
  · exact .inr (by omega)
/-- Behind all that the old one went through. -/
theorem StI.copied {W1 v1 v4 : World} {D2 : Nat → Prop} {p2 : Nat} (h : StI w0 w p now a n c D L) (hp : Pure w W1) (hc : CasAt v1 D2 p2 now L) (hp1 : Pure W1 v1) (hf : ∀ k, D2 k → W1.heap.size ≤ k) (hm : Mod (fun k => D k ∨ v1.heap.size ≤ k) v1 v4) {b2 : Nat} (hb : w.heap.size ≤ b2) (hb2 : b2 < W1.heap.size) (v0 v1' : Value) :
    StP w0 w a n c D (.returned (.tuple #[lkP p2, whV now a n c, .bool true])) ((v4.setCell ⟨b2, 0, none⟩ v0).setCell ⟨b2, 1, none⟩ v1') := by
  have s1 := hp.size; have s2 := hp1.size; have s0 := h.ks.pu.size
  have hD : ∀ k, D k → k < w.heap.size := fun k hk => h.ks.lt hk
  have hms := Mod.set2 (w := v4) b2 0 1 v0 v1'
  have h00 := h.ks.t.tab.lt
  have hall : Mod (fun k => D k ∨ w.heap.size ≤ k) w ((v4.setCell ⟨b2, 0, none⟩ v0).setCell ⟨b2, 1, none⟩ v1') :=
    ((Mod.of_pure (hp.trans hp1)).trans (hm.mono (fun k _ hk => by rcases hk with e | e; (· exact .inl e); (· exact .inr (by omega))))).trans (hms.mono (fun k _ hk => .inr (by omega)))
  have hc4 : CasAt v4 D2 p2 now L := hc.frame hm (fun k hk e => by
    rcases e with e | e
    · have := hD k e; have := hf k hk; omega
    · have := hc.lt hk; omega)
  refine ⟨p2, now, a, n, c, D2, L, rfl, ⟨⟨⟨hc4.frame hms (fun k hk e => by have := hf k hk; omega), h.ks.t.tab.mod hall (fun e => by rcases e with e | e; (· exact h.ks.t.off e); (· omega)), fun e => by have := hf 0 e; omega⟩, fun k hk => by have := hf k hk; omega, h.ks.pu.then hall (fun k hk e => by
    rcases e with e | e
    · have := h.ks.ge k e; omega
    · omega)⟩, h.rd.frame hall (fun g hg e => by
      rcases e with e | e
      · exact h.off g hg e
      · have := h.rd.lt hg; omega), fun g hg e => by have := h.rd.lt hg; have := hf g e; omega⟩, fun k hk => .inr (by have := hf k hk; omega), .inl ⟨rfl, rfl, rfl⟩, (Mod.refl _ w).then hall (fun k hk e => by
      rcases e with e | e
      · exact e
      · omega)⟩
set_option maxHeartbeats 2000000 in
theorem step_copy (h : StI w0 w p now a n c D L) (ht : ActOk t) (h0 : ∀ k : Int, 0 ≤ k → k ≤ 5 → t.what ≠ k) :
    Calls Tryd.prog 30 #[lkP p, whV now a n c, actV t] w (StP w0 w a n c D) := by
  unfold actV
  have hst := h
  unfold whV
  obtain ⟨W1, b0, b1, b2, hW, e0, e1, e2, hB⟩ := boxA_ok (w := w) (now := now) (a := a) (n := n) (c := c) (t := t)
  unfold boxA at hW
  have hx := hB.cells (Mod.refl _ W1)
  have hw0 : (t.what == 0) = false := by simpa using h0 0 (by omega) (by omega)
  have hw1 : (t.what == 1) = false := by simpa using h0 1 (by omega) (by omega)
  have hw2 : (t.what == 2) = false := by simpa using h0 2 (by omega) (by omega)
  have hw3 : (t.what == 3) = false := by simpa using h0 3 (by omega) (by omega)
  have hw4 : (t.what == 4) = false := by simpa using h0 4 (by omega) (by omega)
  have hw5 : (t.what == 5) = false := by simpa using h0 5 (by omega) (by omega)
  have hs1 := h.pure hB.pure
  have h64 := h.ks.t.at_.now64
  have hcp := hs1.ks.t.at_.copy
  have htm := timed_ok 55 18446744073709551614 1152921504606846976
  unfold tdV at htm
  dsimp only at htm
  obtain ⟨tt, hte⟩ : ∃ tt, now + min 300 (18446744073709551615 - now) = tt := ⟨_, rfl⟩
  have ht64 : tt < 18446744073709551616 := by omega
  obtain ⟨d, hd⟩ : ∃ d : Nat, 18446744073709551615 - now = d := ⟨_, rfl⟩
  have hdI : (18446744073709551615 : Int) - (now : Int) = (d : Int) := by omega
  have wd : IntKind.u64.wrap (d : Int) = (d : Int) := by simp [IntKind.wrap, IntKind.signed, IntKind.bits]; omega
  have wt : IntKind.u64.wrap ((now : Int) + min (300 : Int) (d : Int)) = (tt : Int) := by
    have e : (now : Int) + min (300 : Int) (d : Int) = (tt : Int) := by omega
    rw [e]; simp [IntKind.wrap, IntKind.signed, IntKind.bits]; omega
  have HT64 := Lib.hid ht64
  have HB := Lib.hid hB; have HW := Lib.hid hW; have E0 := Lib.hid e0; have E1 := Lib.hid e1; have E2 := Lib.hid e2; have HH := Lib.hid hst; have HS1 := Lib.hid hs1; have HTm := Lib.hid htm; have HCp := Lib.hid hcp
  have HK := Lib.hid (fun (u : World) (hp : Pure W1 u) => hB.cells hp)
  clear hB hW e0 e1 e2 hs1 h hst h0 h64 ht64 hte hd htm hcp ht
  go_enter Tryd.func30, Tryd.ntmps30
  go_upto_region 1 with fail
  rw [HW.out, E2.out, E1.out, E0.out]
  clear HW E0 E1 E2
  obtain ⟨x0, x1, y0, y1, y2, y3⟩ := hx
  go_upto_region 23 with (go_at_call 14; refine Calls.mono HCp.out ?_; rintro e v1 ⟨p2, D2, rfl, hc2, hp1, hf2⟩; have HC2 := Lib.hid hc2; have HP1 := Lib.hid hp1; have HF2 := Lib.hid hf2; clear hc2 hp1 hf2)
  clear x0 x1 y0 y1 y2 y3 hw0 hw1 hw2 hw3 hw4 hw5 HCp
  have hsc := fun (W : World) (hp : Pure v1 W) => (HS1.out.ks.pure (HP1.out.trans hp)).schedM2 (x := ⟨55, 18446744073709551614, 1152921504606846976⟩) (by decide) (by decide) (by decide)
  unfold tdV at hsc
  dsimp only at hsc
  have HSc := Lib.hid hsc
  clear hsc
  go_upto_region 24 with (first
    | (go_at_call 12; refine Calls.mono (HTm.out _) ?_; rintro e u1 ⟨rfl, hq1⟩; have HQ1 := Lib.hid hq1; clear hq1)
    | (go_at_call 13; refine Calls.mono (HSc.out _ HQ1.out) ?_; rintro e v2 ⟨rfl, D3, hs3, hg3, hm3⟩
       have HS3 := Lib.hid hs3; have HG3 := Lib.hid hg3; have HM3 := Lib.hid hm3
       clear hs3 hg3 hm3))
  have hd3 := gr_step (fun k hk => .inl hk) HG3.out HQ1.out.size
  have hM3 : Mod (fun k => D k ∨ v1.heap.size ≤ k) v1 v2 := (Mod.of_pure HQ1.out).trans (HM3.out.mono (fun k _ hk => .inl hk))
  have hca := HS3.out.cancelM2 (s := 0) (by omega)
  have HD3 := Lib.hid hd3; have HMa := Lib.hid hM3; have HCa := Lib.hid hca
  clear hd3 hM3 hca HSc HTm
  go_upto_region 25 with (go_at_call 24; refine Calls.mono HCa.out ?_; rintro e v3 ⟨rfl, D4, hs4, hg4, hm4⟩; have HS4 := Lib.hid hs4; have HG4 := Lib.hid hg4; have HM4 := Lib.hid hm4; clear hs4 hg4 hm4)
  have hd4 := gr_step HD3.out HG4.out HMa.out.size
  have hM4 := HMa.out.trans (HM4.out.mono (fun k _ hk => HD3.out k hk))
  have HD4 := Lib.hid hd4; have HMb := Lib.hid hM4
  have HNo := Lib.hid HS4.out.t.at_.now_
  have HAd := Lib.hid (HS4.out.advM3 HT64.out)
  clear hd4 hM4 HCa
  go_upto_region 26 with (first
    | (go_at_call 28; refine Calls.mono HNo.out ?_; rintro e w' ⟨rfl, rfl⟩)
    | (go_at_call 16; refine Calls.mono HAd.out ?_; rintro e v4 ⟨va, rfl, D5, now5, L5, hs5, hg5, hm5⟩
       have HM5 := Lib.hid hm5
       clear hs5 hg5 hm5))
  have hM5 := HMb.out.trans (HM5.out.mono (fun k _ hk => HD4.out k hk))
  have hlW : ∀ k, D k → k < w.heap.size := fun k hk => HH.out.ks.lt hk
  have hb2 := lt_of_block HB.out.h2
  have hb0 := lt_of_block HB.out.h0
  have hs1 := HP1.out.size
  have n0 : ¬ (D b0 ∨ v1.heap.size ≤ b0) := fun e => by
    rcases e with e | e
    · have := hlW _ e; have := HB.out.z0; omega
    · omega
  have n2 : ¬ (D b2 ∨ v1.heap.size ≤ b2) := fun e => by
    rcases e with e | e
    · have := hlW _ e; have := HB.out.z2; omega
    · omega
  have h04 := hM5.heap n0 (HP1.out.heap (fun h => h) HB.out.h0)
  have h24 := hM5.heap n2 (HP1.out.heap (fun h => h) HB.out.h2)
  have n02 := HB.out.ne02
  have hST := HH.out.copied HB.out.pure HC2.out HP1.out HF2.out hM5 HB.out.z2 hb2 (.int .u64 now) (.slice a n c)
  have HST := Lib.hid hST
  clear hM5 hlW hb2 hb0 hs1 n0 n2 hST HMb HMa
  have h04_0 := cell_of_row _ _ 0 _ _ _ h04; have h04_1 := cell_of_row _ _ 1 _ _ _ h04; have h04_f := (fun j => frozen_of_row _ _ j _ _ h04); have h04_l := lt_of_block h04; simp at h04_0 h04_1; have H_h04 := Lib.hid h04; clear h04
  have h24_0 := cell_of_row _ _ 0 _ _ _ h24; have h24_1 := cell_of_row _ _ 1 _ _ _ h24; have h24_f := (fun j => frozen_of_row _ _ j _ _ h24); have h24_l := lt_of_block h24; simp at h24_0 h24_1; have H_h24 := Lib.hid h24; clear h24
  go_region
  all_goals
    go_wp2
    refine bodyPost_ret (v := .tuple #[lkP p2, .agg #[.int .u64 now, .slice a n c], .bool true]) (by simp [results, Tryd.results30, go_sem, h24_0, h24_1, h24_l]) rfl ?_
    first | exact HST.out | exact HST.out.drew
end
end Go.Proofs.YtlalpenfgkfkpaaDoor

/- law20.step in one; law20.few; the acts in memory. Conditions: the cascade lies in memory, the lists are read. -/
namespace Go.Proofs.YtlalpenfgkfkpaaDoor
open Go.RowKit Go.Shelf
set_option maxRecDepth 100000
/-- A Bool is given. -/
def BoolE (e : Ending) : Prop := ∃ v : Bool, e = .returned (.bool v)
def actC (t : Act20) : List Value := [.int .i64 t.what, .int .u32 t.slot, .int .u64 t.birth, .int .u64 t.time]
section
variable {w0 w wr w5 w6 w7 : World} {D D' : Nat → Prop} {p p' now now' n c n' c' b tt : Nat} {a a' : Option Addr} {L L' : List Td} {t : Act20} {es : List Act20}
theorem step_ok (h : StI w0 w p now a n c D L) (ht : ActOk t) : Calls Tryd.prog 30 #[lkP p, whV now a n c, actV t] w (StP w0 w a n c D) := by
  by_cases h0 : t.what = 0
  · exact step_sched h ht h0
  by_cases h1 : t.what = 1
  · exact step_cancel h ht h1
  by_cases h2 : t.what = 2
  · exact step_resched h ht h2
  by_cases h3 : t.what = 3
  · exact step_adv3 h ht h3
  by_cases h4 : t.what = 4
  · exact step_adv4 h ht h4
  by_cases h5 : t.what = 5
  · exact step_adv5 h ht h5
  exact step_copy h ht (fun k k0 k5 e => by omega)
theorem act_read {w : World} {a : Option Addr} {n c : Nat} (h : ReadAt w (.slice a n c) 4 (es.flatMap actC)) {j : Nat} (hx : es[j]? = some t) :
    ∃ ad, a = some ad ∧ w.cell? (ad.add (j * 4)) = some (.int .i64 t.what) ∧ w.cell? ⟨(ad.add (j * 4)).block, (ad.add (j * 4)).off + 1, none⟩ = some (.int .u32 t.slot) ∧ w.cell? ⟨(ad.add (j * 4)).block, (ad.add (j * 4)).off + 2, none⟩ = some (.int .u64 t.birth) ∧ w.cell? ⟨(ad.add (j * 4)).block, (ad.add (j * 4)).off + 3, none⟩ = some (.int .u64 t.time) := by
  obtain ⟨a', n', c', e, hl, _, h0, hc⟩ := h
  injection e with e1 e2 e3
  subst e1 e2 e3
  have hj := (List.getElem?_eq_some_iff.1 hx).1
  cases a with
  | none =>
    have := h0 rfl
    subst this
    rw [flat_length actC 4 (fun _ => rfl)] at hl
    omega
  | some ad =>
    have g := fun i (hi : i < 4) => flat_get actC 4 (fun _ => rfl) i hi es j
    have c0 := hc ad rfl (j * 4 + 0) (.int .i64 t.what) (by rw [g 0 (by omega), hx]; rfl)
    have c1 := hc ad rfl (j * 4 + 1) (.int .u32 t.slot) (by rw [g 1 (by omega), hx]; rfl)
    have c2 := hc ad rfl (j * 4 + 2) (.int .u64 t.birth) (by rw [g 2 (by omega), hx]; rfl)
    have c3 := hc ad rfl (j * 4 + 3) (.int .u64 t.time) (by rw [g 3 (by omega), hx]; rfl)
    exact ⟨ad, rfl, c0, cell_addT (j := 0) c1, cell_addT (j := 1) c2, cell_addT (j := 2) c3⟩
theorem few20_ok (h : ReadAt w (.slice a n c) 4 (es.flatMap actC)) (hn : es.length = n) :
    Calls Tryd.prog 29 #[.slice a n c] w fun e w' => BoolE e ∧ Pure w w' := by
  have HR := Lib.hid h; have HN := Lib.hid hn
  clear h hn
  go_enter Tryd.func29, Tryd.ntmps29
  go_upto_region 2 with fail
  go_loopw [3] (fun v3 wr => ∃ j : Nat, v3 = .int .i64 (j : Nat) ∧ j ≤ n ∧ j ≤ 41 ∧ Pure w wr) (fun v3 _ => 41 - (intOf v3).toNat)
  case atStart => exact ⟨0, rfl, Nat.zero_le _, Nat.zero_le _, Mod.refl _ _⟩
  case round =>
    obtain ⟨j, rfl, hj, hj41, hp⟩ := hrel
    have HP := Lib.hid hp
    by_cases hlt : j < n
    · have hlt' : (j : Int) < (n : Int) := by omega
      have d1 : decide (j < n) = true := decide_eq_true hlt
      by_cases h41 : j < 41
      · have h41' : (j : Int) < 41 := by omega
        have j0 : (0 : Int) ≤ (j : Int) := by omega
        have wj : IntKind.i64.wrap ((j : Int) + 1) = (j : Int) + 1 := IntWalk.i64_in _ (by omega)
        obtain ⟨t, ht⟩ : ∃ t, es[j]? = some t := ⟨_, List.getElem?_eq_getElem (by rw [HN.out]; exact hlt)⟩
        obtain ⟨ad, rfl, z0, z1, z2, z3⟩ := act_read (HR.out.frame hp (fun _ _ h => h)) ht
        clear ht hp
        obtain ⟨sl, hsl⟩ : ∃ sl, t.slot = sl := ⟨_, rfl⟩
        rw [hsl] at z1
        clear hsl
        by_cases c1 : 5000 ≤ sl
        · have c1' : (5000 : Int) ≤ (sl : Int) := by omega
          by_cases c2 : sl < 4194304
          · have c2' : (sl : Int) < 4194304 := by omega
            clear c1 c2
            go_wp2
            go_ret
            exact ⟨⟨false, rfl⟩, HP.out⟩
          · have c2' : ¬ (sl : Int) < 4194304 := by omega
            clear c1 c2
            go_wp2
            go_roundw
            case rel => exact ⟨j + 1, by go_num, hlt, h41, HP.out⟩
            case measure => simp [intOf]; omega
        · have c1' : ¬ (5000 : Int) ≤ (sl : Int) := by omega
          clear c1
          go_wp2
          go_roundw
          case rel => exact ⟨j + 1, by go_num, hlt, h41, HP.out⟩
          case measure => simp [intOf]; omega
      · have h41' : ¬ (j : Int) < 41 := by omega
        clear hp
        go_wp2
        go_ret
        exact ⟨⟨decide ((n : Int) ≤ 40), rfl⟩, HP.out⟩
    · have hge : ¬ (j : Int) < (n : Int) := by omega
      have d1 : decide (j < n) = false := decide_eq_false hlt
      clear hp
      go_wp2
      go_ret
      exact ⟨⟨decide ((n : Int) ≤ 40), rfl⟩, HP.out⟩
theorem JmI.st (h : JmI w0 wr p now b a n c D L) : StI w0 wr p now a n c D L := ⟨h.ks, h.rd, fun g hg => (h.off g hg).1⟩
theorem JmI.stepped (h : JmI w0 wr p now b a n c D L) (hp : Pure wr w5) (hS : StI w0 w6 p' now' a' n' c' D' L') (hg : grewD D D' w5) (hk : Kept w5 a n c a' n' c') (hm : Mod D w5 w6) (hp7 : Pure w6 w7) :
    JmI w0 ((w7.setCell ⟨b, 0, none⟩ (.int .u64 now')).setCell ⟨b, 1, none⟩ (.slice a' n' c')) p' now' b a' n' c' D' L' := by
  have hbl := lt_of_block h.box
  have hsz := hp.size
  have nb' : ¬ D' b := fun hd => by
    rcases hg b hd with e | e
    · exact h.nb e
    · omega
  have ne : ∀ g, rdBlock (.slice a' n' c') = some g → g ≠ b := fun g hg' => by
    rcases hk.rd hg' with e | e
    · exact (h.off g e).2
    · omega
  have hms := Mod.set2 (w := w7) b 0 1 (.int .u64 now') (.slice a' n' c')
  have hS7 := hS.pure hp7
  exact ⟨⟨hS7.ks.t.frame hms (fun k hk e => by subst e; exact nb' hk) (fun e => by have := h.bw; have := h.w00; omega), hS7.ks.ge, hS7.ks.pu.then hms (fun k hk e => by have := h.bw; omega)⟩, hS7.rd.frame hms ne, fun g hg' => ⟨hS.off g hg', ne g hg'⟩, heap_set12 (hp7.heap (fun h => h) (hm.heap h.nb (hp.heap (fun h => h) h.box))), nb', h.bw, h.w00⟩
end
end Go.Proofs.YtlalpenfgkfkpaaDoor

/- law21: its acts in memory; few. Conditions: the acts are read. -/
namespace Go.Proofs.YtlalpenfgkfkpaaDoor
open Go.RowKit Go.Shelf
set_option maxRecDepth 100000
structure Act21 where
  what : Int
  slot : Nat
  birth : Nat
  time : Nat
  ta : Option Addr
  tn : Nat
  tc : Nat
  tv : List Nat
def act21C (t : Act21) : List Value := [.int .i64 t.what, .int .u32 t.slot, .int .u64 t.birth, .int .u64 t.time, .slice t.ta t.tn t.tc]
structure A21Ok (W : World) (t : Act21) : Prop where
  s : t.slot ≤ 4294967295
  b : t.birth ≤ 18446744073709551615
  d : t.time ≤ 18446744073709551615
  rd : ReadAt W (.slice t.ta t.tn t.tc) 1 (nums t.tv)
  len : t.tv.length = t.tn
  n63 : t.tn ≤ 9223372036854775807
  u : ∀ z ∈ t.tv, z ≤ 4294967295
theorem A21Ok.pure {W W' : World} {t : Act21} (h : A21Ok W t) (hp : Pure W W') : A21Ok W' t := ⟨h.s, h.b, h.d, h.rd.frame hp (fun _ _ h => h), h.len, h.n63, h.u⟩
section
variable {w w' : World} {a : Option Addr} {n c : Nat} {es : List Act21} {j : Nat} {t : Act21}
theorem act21_read (h : ReadAt w (.slice a n c) 5 (es.flatMap act21C)) (ht : es[j]? = some t) :
    ∃ ad, a = some ad ∧ (w.cell? (ad.add (j * 5)) = some (.int .i64 t.what) ∧ w.cell? ⟨(ad.add (j * 5)).block, (ad.add (j * 5)).off + 1, none⟩ = some (.int .u32 t.slot) ∧ w.cell? ⟨(ad.add (j * 5)).block, (ad.add (j * 5)).off + 2, none⟩ = some (.int .u64 t.birth) ∧ w.cell? ⟨(ad.add (j * 5)).block, (ad.add (j * 5)).off + 3, none⟩ = some (.int .u64 t.time)) ∧ w.cell? ⟨(ad.add (j * 5)).block, (ad.add (j * 5)).off + 4, none⟩ = some (.slice t.ta t.tn t.tc) := by
  obtain ⟨a', n', c', e, hl, _, h0, hc⟩ := h
  cases e
  have hu : ∀ i u, (act21C t)[i]? = some u → (es.flatMap act21C)[j * 5 + i]? = some u := fun i u hi => by
    have hi5 : i < 5 := (List.getElem?_eq_some_iff.1 hi).1
    have h1 := flat_get act21C 5 (fun _ => rfl) i hi5 es j
    rw [ht] at h1
    rw [h1]
    exact hi
  cases a with
  | none =>
    have := h0 rfl
    rw [this, Nat.zero_mul] at hl
    have h2 := hu 0 _ rfl
    rw [List.length_eq_zero_iff.1 hl] at h2
    cases h2
  | some ad =>
    have hq : ∀ i u, (act21C t)[i + 1]? = some u → w.cell? ⟨(ad.add (j * 5)).block, (ad.add (j * 5)).off + (i + 1), none⟩ = some u := fun i u hi => cell_addT (hc ad rfl _ u (hu _ u hi))
    exact ⟨ad, rfl, ⟨hc ad rfl (j * 5) _ (hu 0 _ rfl), hq 0 _ rfl, hq 1 _ rfl, hq 2 _ rfl⟩, hq 3 _ rfl⟩
/-- What few says: a bool, and, where it is true, the bounds. -/
def FewE (n : Nat) (es : List Act21) (e : Ending) : Prop := ∃ b : Bool, e = .returned (.bool b) ∧ (b = true → n ≤ 40 ∧ ∀ t ∈ es, t.tn ≤ 100)
set_option maxHeartbeats 1000000 in
theorem few21_ok (h : ReadAt w (.slice a n c) 5 (es.flatMap act21C)) (hn : es.length = n) (hok : ∀ t ∈ es, A21Ok w t) :
    Calls Tryd.prog 31 #[.slice a n c] w fun e w' => FewE n es e ∧ w = w' := by
  have HR := Lib.hid h; have HN := Lib.hid hn; have HOk := Lib.hid hok
  have HFin : Hid (∀ j : Nat, j ≤ n → j ≤ 41 → ¬ (j < n ∧ j < 41) → (∀ i t, i < j → es[i]? = some t → t.tn ≤ 100) → decide ((n : Int) ≤ 40) = true → n ≤ 40 ∧ ∀ t ∈ es, t.tn ≤ 100) := Lib.hid (fun j h1 h2 h3 h4 h5 => by
    have h6 : (n : Int) ≤ 40 := of_decide_eq_true h5
    refine ⟨by omega, fun t ht => ?_⟩
    obtain ⟨i, hi⟩ := List.getElem?_of_mem ht
    have := (List.getElem?_eq_some_iff.1 hi).1
    exact h4 i t (by omega) hi)
  clear h hn hok
  go_enter Tryd.func31, Tryd.ntmps31
  go_upto_region 2 with fail
  go_loopw [3] (fun v3 wr => ∃ j : Nat, v3 = .int .i64 (j : Nat) ∧ j ≤ n ∧ j ≤ 41 ∧ Hid (∀ i t, i < j → es[i]? = some t → t.tn ≤ 100) ∧ w = wr) (fun v3 _ => 41 - (intOf v3).toNat)
  case atStart => exact ⟨0, rfl, Nat.zero_le _, Nat.zero_le _, Lib.hid (fun i t hi => by omega), rfl⟩
  case round =>
    obtain ⟨j, rfl, hj, hj41, HB, rfl⟩ := hrel
    by_cases hlt : j < n
    · have hlt' : (j : Int) < (n : Int) := by omega
      have d1 : decide (j < n) = true := decide_eq_true hlt
      by_cases h41 : j < 41
      · have h41' : (j : Int) < 41 := by omega
        have j0 : (0 : Int) ≤ (j : Int) := by omega
        have wj : IntKind.i64.wrap ((j : Int) + 1) = (j : Int) + 1 := IntWalk.i64_in _ (by omega)
        obtain ⟨t, ht⟩ : ∃ t, es[j]? = some t := ⟨_, List.getElem?_eq_getElem (by rw [HN.out]; exact hlt)⟩
        obtain ⟨ad, rfl, ⟨z0, z1, z2, z3⟩, z4⟩ := act21_read HR.out ht
        have hto := HOk.out t (List.mem_of_getElem? ht)
        have HT := Lib.hid hto.rd; have HTl := Lib.hid hto.len
        have HNB : Hid (t.tn ≤ 100 → ∀ i u, i < j + 1 → es[i]? = some u → u.tn ≤ 100) := Lib.hid (fun h100 i u hi hu => by
          by_cases e : i = j
          · subst e
            rw [ht] at hu
            injection hu with hu
            subst hu
            exact h100
          · exact HB.out i u (by omega) hu)
        clear ht hto z0 z2 z3
        obtain ⟨sl, hsl⟩ : ∃ sl, t.slot = sl := ⟨_, rfl⟩
        obtain ⟨tn, htn⟩ : ∃ tn, t.tn = tn := ⟨_, rfl⟩
        obtain ⟨ta, hta⟩ : ∃ ta, t.ta = ta := ⟨_, rfl⟩
        obtain ⟨tc, htc⟩ : ∃ tc, t.tc = tc := ⟨_, rfl⟩
        rw [hsl] at z1
        rw [hta, htn, htc] at z4 HT
        rw [htn] at HNB HTl
        clear hsl htn hta htc
        go_upto_block 1 with fail
        go_cut [] from 5 to 67 (fun wx => w = wx ∧ tn ≤ 100)
        case rest =>
          obtain ⟨rfl, h100⟩ := hcut
          have HB2 := Lib.hid (HNB.out h100)
          clear h100
          go_wp2
          go_roundw
          case rel => exact ⟨j + 1, by go_num, hlt, h41, HB2, by trivial⟩
          case measure => simp [intOf]; omega
        by_cases c0 : 100 < tn
        · have c0' : (100 : Int) < (tn : Int) := by omega
          clear c0
          go_wp2
          go_ret
          exact ⟨⟨false, rfl, fun h => by cases h⟩, rfl⟩
        · have c0' : ¬ (100 : Int) < (tn : Int) := by omega
          by_cases cbad : 5000 ≤ sl ∧ sl < 4194304
          · have c1' : (5000 : Int) ≤ (sl : Int) := by omega
            have c2' : (sl : Int) < 4194304 := by omega
            clear c0 cbad
            go_wp2
            go_ret
            exact ⟨⟨false, rfl, fun h => by cases h⟩, rfl⟩
          · have HC0 := Lib.hid (Nat.not_lt.1 c0)
            by_cases c1 : 5000 ≤ sl
            all_goals
              first
                | (have c1' : (5000 : Int) ≤ (sl : Int) := by omega
                   have c2' : ¬ (sl : Int) < 4194304 := by omega
                   skip)
                | (have c1' : ¬ (5000 : Int) ≤ (sl : Int) := by omega
                   skip)
              clear c0 cbad c1
              go_upto_region 7 with fail
              go_loopw [4] (fun v4 wr => ∃ k : Nat, v4 = .int .i64 (k : Nat) ∧ k ≤ tn ∧ w = wr) (fun v4 _ => tn - (intOf v4).toNat)
              case atStart => exact ⟨0, rfl, Nat.zero_le _, rfl⟩
              case round =>
                obtain ⟨k, rfl, hk, rfl⟩ := hrel
                by_cases hlt2 : k < tn
                · have hlt2' : (k : Int) < (tn : Int) := by omega
                  have k0 : (0 : Int) ≤ (k : Int) := by omega
                  have d2 : decide (k < tn) = true := decide_eq_true hlt2
                  have hc0 := HC0.out
                  have wk : IntKind.i64.wrap ((k : Int) + 1) = (k : Int) + 1 := IntWalk.i64_in _ (by omega)
                  obtain ⟨z, hz⟩ : ∃ z, t.tv[k]? = some z := ⟨_, List.getElem?_eq_getElem (by rw [HTl.out]; exact hlt2)⟩
                  obtain ⟨ad2, rfl, y0⟩ := read_num HT.out hz
                  clear hz hc0
                  by_cases q1 : 5000 ≤ z
                  · have q1' : (5000 : Int) ≤ (z : Int) := by omega
                    by_cases q2 : z < 4194304
                    · have q2' : (z : Int) < 4194304 := by omega
                      clear q1 q2
                      go_wp2
                      go_ret
                      exact ⟨⟨false, rfl, fun h => by cases h⟩, rfl⟩
                    · have q2' : ¬ (z : Int) < 4194304 := by omega
                      clear q1 q2
                      go_wp2
                      go_roundw
                      case rel => exact ⟨k + 1, by go_num, hlt2, by trivial⟩
                      case measure => simp [intOf]; omega
                  · have q1' : ¬ (5000 : Int) ≤ (z : Int) := by omega
                    clear q1
                    go_wp2
                    go_roundw
                    case rel => exact ⟨k + 1, by go_num, hlt2, by trivial⟩
                    case measure => simp [intOf]; omega
                · have hge : ¬ (k : Int) < (tn : Int) := by omega
                  have d2 : decide (k < tn) = false := decide_eq_false hlt2
                  have hc0 := HC0.out
                  go_wp2
                  go_meet
                  exact ⟨rfl, hc0⟩
      · have h41' : ¬ (j : Int) < 41 := by omega
        go_wp2
        go_ret
        exact ⟨⟨decide ((n : Int) ≤ 40), rfl, HFin.out j hj hj41 (by omega) HB.out⟩, rfl⟩
    · have hge : ¬ (j : Int) < (n : Int) := by omega
      have d1 : decide (j < n) = false := decide_eq_false hlt
      go_wp2
      go_ret
      exact ⟨⟨decide ((n : Int) ≤ 40), rfl, HFin.out j hj hj41 (by omega) HB.out⟩, rfl⟩
end
end Go.Proofs.YtlalpenfgkfkpaaDoor

/- A slice of law21's acts that came in. -/
namespace Go.Proofs.YtlalpenfgkfkpaaDoor
open Go.ChangeShapes Go.WideShapes Go.ChangeAt Go.RowKit Go.Deep
set_option maxRecDepth 100000
section
variable {H : Type} {enc : TypeId × Value → H} {P : Program} {w : World} {base : Nat} {spare : Nat → Bool} {held : Bool}
theorem open_rows21 {t e : TypeId} {fs : Array Field} {fuel : Nat} {cs : List Value} {x : DataW H × List MemPlace} (ht : P.underlying t = some (.slice e)) (he : P.underlying e = some (.struct fs))
    (hone : oneCellFields P fs = true) (hC : P.cellsOf e = fs.size) (h : DataW.trod enc P w base spare held fuel t cs = some x) :
    cs = [.slice none 0 0] ∨
    ∃ (a : Addr) (len cap : Nat), cs = [.slice (some a) len cap] ∧ len ≤ cap ∧ cap ≤ maxLen ∧
      ∀ i, i < len → ∀ (j : Nat) (f : Field), fs[j]? = some f → ∃ (v : Value) (y : DataW H × List MemPlace) (n : Nat), w.cell? (a.add (i * fs.size + j)) = some v ∧ DataW.trod enc P w base spare held n f.type [v] = some y := by
  rcases open_slice ht h with h0 | ⟨a, len, cap, m, n, D, Pl, hcs, hb, hl, hm, hmm, hx, hi⟩
  · exact .inl h0.1
  · refine .inr ⟨a, len, cap, hcs, hl, hm, fun i him j f hj => ?_⟩
    have him' : i < m := by rw [hmm]; split <;> omega
    obtain ⟨cs', hc, ht'⟩ := hi i him'
    rw [hC] at hc
    obtain ⟨ys, n', hn', hy, hlen, hyl, hf⟩ := DataW.trod_struct he ht'
    obtain ⟨_, hcl, hat⟩ := World.cells?_some hc
    obtain ⟨ho, hk⟩ := hone_of hone j f hj
    have hjl : j < fs.size := (Array.getElem?_eq_some_iff.1 hj).1
    have hcell := hat j hjl
    have hv : cs'[j]? = some (cs'[j]'(by omega)) := List.getElem?_eq_getElem (by omega)
    have h1 := hf j f hj
    rw [ho, hk] at h1
    have hone' : (cs'.drop j).take 1 = [cs'[j]'(by omega)] := by
      rw [List.drop_eq_getElem_cons (by omega)]
      rfl
    rw [hone'] at h1
    have hys : ys[j]? = some (ys[j]'(by omega)) := List.getElem?_eq_getElem (by omega)
    refine ⟨_, _, _, ?_, h1.trans hys⟩
    rw [← Go.Deep.add_add, hcell, hv]
end
theorem u32s_in {H : Type} {enc : TypeId × Value → H} {P : Program} {W : World} {base fuel : Nat} {sp : Nat → Bool} {held : Bool} {t e : TypeId} {v : Value} {x : DataW H × List MemPlace}
    (ht : P.underlying t = some (.slice e)) (he : P.underlying e = some (.int .u32)) (hc : P.cellsOf e = 1) (hf : DataW.trod enc P W base sp held fuel t [v] = some x) :
    ∃ (a : Option Addr) (n c : Nat) (gs : List Nat), v = .slice a n c ∧ gs.length = n ∧ n ≤ 9223372036854775807 ∧ ReadAt W (.slice a n c) 1 (nums gs) ∧ (∀ z ∈ gs, z ≤ 4294967295) := by
  rcases open_ints ht he hc hf with ⟨hcs, _⟩ | ⟨a, n, c, zs, hcs, _, hl, hm, hz, _, hcell, hw⟩
  · injection hcs with hcs
    exact ⟨none, 0, 0, [], hcs, rfl, by omega, ReadAt.nil _ _, by simp⟩
  · injection hcs with hcs
    have hlz : n ≤ zs.length := by rw [hz]; split <;> omega
    have hw2 : ∀ z ∈ zs.take n, 0 ≤ z ∧ z ≤ 4294967295 := fun z hz => by
      have := hw z (List.mem_of_mem_take hz)
      simp [Lit.wf, IntKind.min, IntKind.max, IntKind.signed, IntKind.bits] at this
      omega
    have e2 : nums ((zs.take n).map Int.toNat) = (zs.take n).map (Value.int .u32) := by
      unfold nums
      rw [List.map_map]
      refine List.map_congr_left (fun z hz => ?_)
      have := hw2 z hz
      simp only [Function.comp]
      rw [Int.toNat_of_nonneg this.1]
    refine ⟨some a, n, c, (zs.take n).map Int.toNat, hcs, by simp; omega, by unfold maxLen at hm; omega, ?_, fun z hz => ?_⟩
    · rw [e2]
      refine ⟨some a, n, c, rfl, by simp; omega, ?_, (fun h => by cases h), ?_⟩
      · intro u hu
        obtain ⟨_, _, rfl⟩ := List.mem_map.1 hu
        rfl
      · intro ad ha j u hu
        cases ha
        rw [List.getElem?_map] at hu
        cases e : (zs.take n)[j]? with
        | none => rw [e] at hu; cases hu
        | some z =>
          rw [e] at hu
          cases hu
          rw [List.getElem?_take] at e
          split at e
          · rename_i hj
            rw [hcell j (by omega)]
            simp [List.getD, e]
          · cases e
    · obtain ⟨y, hy, rfl⟩ := List.mem_map.1 hz
      have := hw2 y hy
      omega
theorem acts21_of {H : Type} {enc : TypeId × Value → H} {W : World} {base : Nat} {sp : Nat → Bool} {held : Bool} {r : Reach} {b0 : Nat} {v : Value} {d : DataW H} {p : List MemPlace} (hv : Value.okWide Tryd.prog W r b0 70 v) (h : DataW.Trod enc Tryd.prog W base sp held 70 v d p) :
    ∃ (a : Option Addr) (c : Nat) (ac : List Act21), v = .slice a ac.length c ∧ ac.length ≤ 9223372036854775807 ∧ ReadAt W (.slice a ac.length c) 5 (ac.flatMap act21C) ∧ (∀ y ∈ ac, A21Ok W y) := by
  obtain ⟨a0, n0, c0, rfl⟩ := okWide_slice Tryd.underlying70 hv
  obtain ⟨fuel, hf⟩ := h
  rcases open_rows21 Tryd.underlying70 Tryd.underlying76 (by kernel_rfl) (by kernel_rfl) hf with hcs | ⟨a, n, c, hcs, hl, hm, hz⟩
  · simp [Value.cells] at hcs
    obtain ⟨rfl, rfl, rfl⟩ := hcs
    exact ⟨none, 0, [], rfl, by simp, ReadAt.nil _ _, by simp⟩
  · simp [Value.cells] at hcs
    obtain ⟨rfl, rfl, rfl⟩ := hcs
    have hone : ∀ i, i < n0 → ∃ y : Act21, A21Ok W y ∧ ∀ j u, (act21C y)[j]? = some u → W.cell? (a.add (i * 5 + j)) = some u := fun i hi => by
      obtain ⟨v0, y0, m0, e0, t0⟩ := hz i hi 0 _ rfl
      obtain ⟨v1, y1, m1, e1, t1⟩ := hz i hi 1 _ rfl
      obtain ⟨v2, y2, m2, e2, t2⟩ := hz i hi 2 _ rfl
      obtain ⟨v3, y3, m3, e3, t3⟩ := hz i hi 3 _ rfl
      obtain ⟨v4, y4, m4, e4, t4⟩ := hz i hi 4 _ rfl
      obtain ⟨z0, f0, _, _⟩ := DataW.trod_int Tryd.underlying3 t0
      obtain ⟨z1, f1, _, w1⟩ := DataW.trod_int Tryd.underlying29 t1
      obtain ⟨z2, f2, _, w2⟩ := DataW.trod_int Tryd.underlying22 t2
      obtain ⟨z3, f3, _, w3⟩ := DataW.trod_int Tryd.underlying23 t3
      obtain ⟨ta, tn, tc, gs, f4, l4, l5, r4, u4⟩ := u32s_in Tryd.underlying74 Tryd.underlying29 (by kernel_rfl) t4
      cases f0; cases f1; cases f2; cases f3; subst f4
      simp [Lit.wf, IntKind.min, IntKind.max, IntKind.signed, IntKind.bits] at w1 w2 w3
      have s1 : ((z1.toNat : Nat) : Int) = z1 := Int.toNat_of_nonneg w1.1
      have s2 : ((z2.toNat : Nat) : Int) = z2 := Int.toNat_of_nonneg w2.1
      have s3 : ((z3.toNat : Nat) : Int) = z3 := Int.toNat_of_nonneg w3.1
      refine ⟨⟨z0, z1.toNat, z2.toNat, z3.toNat, ta, tn, tc, gs⟩, ⟨by show z1.toNat ≤ _; omega, by show z2.toNat ≤ _; omega, by show z3.toNat ≤ _; omega, r4, l4, l5, u4⟩, fun j u hu => ?_⟩
      have hj : j < 5 := (List.getElem?_eq_some_iff.1 hu).1
      unfold act21C at hu
      simp only [s1, s2, s3] at hu
      have : j = 0 ∨ j = 1 ∨ j = 2 ∨ j = 3 ∨ j = 4 := by omega
      rcases this with rfl | rfl | rfl | rfl | rfl
      · cases hu; exact e0
      · cases hu; exact e1
      · cases hu; exact e2
      · cases hu; exact e3
      · cases hu; exact e4
    obtain ⟨ac, hlen, hac⟩ : ∃ ac : List Act21, ac.length = n0 ∧ ∀ i, i < n0 → ∃ y, ac[i]? = some y ∧ A21Ok W y ∧ ∀ j u, (act21C y)[j]? = some u → W.cell? (a.add (i * 5 + j)) = some u := by
      classical
      refine ⟨List.ofFn (fun i : Fin n0 => Classical.choose (hone i.1 i.2)), by simp, fun i hi => ⟨Classical.choose (hone i hi), by simp [List.getElem?_ofFn, hi], Classical.choose_spec (hone i hi)⟩⟩
    clear hone hz
    have hm' : n0 ≤ 9223372036854775807 := by unfold maxLen at hm; omega
    refine ⟨some a, c0, ac, by rw [hlen], by rw [hlen]; exact hm', ⟨some a, n0, c0, by rw [hlen], ?_, ?_, (fun h => by cases h), ?_⟩, fun y hy => ?_⟩
    · rw [flat_length act21C 5 (fun _ => rfl) ac, hlen]
    · intro u hu
      obtain ⟨y, _, hy⟩ := List.mem_flatMap.1 hu
      unfold act21C at hy
      simp only [List.mem_cons, List.not_mem_nil, or_false] at hy
      rcases hy with rfl | rfl | rfl | rfl | rfl <;> rfl
    · intro ad had k u hu
      cases had
      have hk : k < n0 * 5 := by
        have := (List.getElem?_eq_some_iff.1 hu).1
        rw [flat_length act21C 5 (fun _ => rfl) ac, hlen] at this
        exact this
      have hd : k / 5 * 5 + k % 5 = k := by omega
      obtain ⟨y, hy, _, hc⟩ := hac (k / 5) (by omega)
      have h1 := flat_get act21C 5 (fun _ => rfl) (k % 5) (by omega) ac (k / 5)
      rw [hy, hd, hu] at h1
      have := hc (k % 5) u h1.symm
      rw [hd] at this
      exact this
    · obtain ⟨i, hi⟩ := List.getElem?_of_mem hy
      have hil := (List.getElem?_eq_some_iff.1 hi).1
      obtain ⟨y', hy', hok, _⟩ := hac i (by omega)
      rw [hi] at hy'
      cases hy'
      exact hok
end Go.Proofs.YtlalpenfgkfkpaaDoor
