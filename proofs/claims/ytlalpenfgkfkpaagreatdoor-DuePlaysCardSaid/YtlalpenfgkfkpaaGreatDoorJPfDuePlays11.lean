/- Lemmas and contracts of functions, strung together out of 10 texts. No condition. -/
import Derived.Test.YtlalpenfgkfkpaaGreatDoorJPfDuePlays10
import Derived.Test.YtlalpenfgkfkpaaGreatDoorJPfDuePlays8
import Derived.Deep.CutBlock
import Derived.Test.YtlalpenfgkfkpaaGreatDoorJPfDuePlays2
import Derived.Deep.Slices
import Derived.Deep.Fields
import Derived.ChangeSame
/- law20.CascadeHolds by plain lists. No condition. -/
namespace Go.Proofs.YtlalpenfgkfkpaaGreatDoor
section
variable {now one two tt : Nat} {L tk : List Td}
theorem takeWhile_split (h : one ≤ two) : ∀ (L : List Td), dueL one L ++ dueL two (restL one L) = dueL two L ∧ restL two (restL one L) = restL two L
  | [] => ⟨rfl, rfl⟩
  | a :: L => by
    have ih := takeWhile_split h L
    unfold dueL restL at *
    by_cases c : a.dl ≤ one
    · have c2 : a.dl ≤ two := by omega
      simp only [List.takeWhile_cons, List.dropWhile_cons, c, c2, decide_true, if_true, List.cons_append, ih.1, ih.2, and_self]
    · simp only [List.takeWhile_cons, List.dropWhile_cons, c, decide_false, Bool.false_eq_true, if_false, List.nil_append, and_self]
theorem aOut_all (hn : ∀ x ∈ L, now < x.dl) (h : now ≤ tt) : aOut now tt L = dueL tt L ∧ aRest now tt L = restL tt L ∧ aNow now tt = tt ∧ aErr now tt = 0 := by
  unfold aOut aRest aNow aErr
  by_cases c : now < tt
  · rw [if_pos c, if_pos c, if_pos c, if_neg (by omega)]
    exact ⟨rfl, rfl, rfl, rfl⟩
  · have e : now = tt := by omega
    subst e
    rw [if_neg c, if_neg c, if_neg c, if_neg c]
    unfold dueL restL
    have hz : ∀ (A : List Td), (∀ x ∈ A, now < x.dl) → A.takeWhile (fun x => decide (x.dl ≤ now)) = [] ∧ A.dropWhile (fun x => decide (x.dl ≤ now)) = A := fun A hA => by
      cases A with
      | nil => exact ⟨rfl, rfl⟩
      | cons a A =>
        have := hA a List.mem_cons_self
        have c : ¬ a.dl ≤ now := by omega
        simp [c]
    exact ⟨(hz L hn).1.symm, (hz L hn).2.symm, rfl, rfl⟩
theorem rest_gt (hs : L.Pairwise bef) : ∀ x ∈ restL tt L, tt < x.dl := fun x hx => by
  unfold restL at hx
  rw [(takeWhile_filter hs).2] at hx
  have := (List.mem_filter.1 hx).2
  simp at this
  omega
theorem due_le (hs : L.Pairwise bef) {x : Td} : x ∈ dueL tt L ↔ x ∈ L ∧ x.dl ≤ tt := by
  unfold dueL
  rw [(takeWhile_filter hs).1, List.mem_filter]
  simp
theorem rest_mem (hs : L.Pairwise bef) {x : Td} : x ∈ restL tt L ↔ x ∈ L ∧ tt < x.dl := by
  unfold restL
  rw [(takeWhile_filter hs).2, List.mem_filter]
  simp
theorem holds_sum (hs : L.Pairwise bef) (hn : ∀ x ∈ L, now < x.dl) (h1 : now ≤ one) (h2 : one ≤ two) : dueL one L ++ dueL two (restL one L) = dueL two L := (takeWhile_split h2 L).1
theorem due_pos (hs : L.Pairwise bef) (h2 : one ≤ two) {i : Nat} {x : Td} (hx : (dueL two L)[i]? = some x) : (i < (dueL one L).length → x.dl ≤ one) ∧ ((dueL one L).length ≤ i → one < x.dl) := by
  rw [← (takeWhile_split h2 L).1] at hx
  constructor
  · intro h
    rw [List.getElem?_append_left h] at hx
    exact ((due_le hs).1 (List.mem_of_getElem? hx)).2
  · intro h
    rw [List.getElem?_append_right h] at hx
    have := List.mem_of_getElem? hx
    unfold dueL at this
    exact rest_gt hs x ((List.takeWhile_sublist _).subset this)
theorem all_while {p : Td → Bool} : ∀ (A : List Td), (∀ x ∈ A, p x = true) → A.takeWhile p = A ∧ A.dropWhile p = []
  | [], _ => ⟨rfl, rfl⟩
  | a :: A, h => by
    obtain ⟨i1, i2⟩ := all_while A (fun x hx => h x (List.mem_cons_of_mem _ hx))
    have := h a List.mem_cons_self
    simp [this, i1, i2]
theorem due_never (h : ∀ x ∈ L, x.dl < 18446744073709551615) : dueL 18446744073709551615 L = L ∧ restL 18446744073709551615 L = [] :=
  all_while L (fun x hx => by have := h x hx; simp; omega)
theorem due_rest_len : (dueL tt L).length + (restL tt L).length = L.length := by
  unfold dueL restL
  rw [← List.length_append, List.takeWhile_append_dropWhile]
theorem find_first (hu : ∀ x ∈ L, ∀ y ∈ L, x.slot = y.slot → x = y) (hnd : L.Nodup) {i : Nat} {x : Td} (hx : L[i]? = some x) : findR (L.take i) x.slot = -1 := by
  apply find_spec0
  intro j y hy e
  rw [List.getElem?_take] at hy
  split at hy
  · rename_i hj
    have hi := (List.getElem?_eq_some_iff.1 hx).1
    have hxm := List.mem_of_getElem? hx
    have hym := List.mem_of_getElem? hy
    have := hu y hym x hxm e
    subst this
    have hjl := (List.getElem?_eq_some_iff.1 hy).1
    have e1 := (List.getElem?_eq_some_iff.1 hx).2
    have e2 := (List.getElem?_eq_some_iff.1 hy).2
    exact (List.pairwise_iff_getElem.1 hnd) j i hjl hi hj (by rw [e1, e2])
  · cases hy
theorem find_in {s : Nat} (h : ∃ x ∈ L, x.slot = s) : 0 ≤ findR L s := by
  have := hasB_iff.2 h
  unfold findR
  rw [if_pos this]
  omega
theorem find_out {s : Nat} (h : ∀ x ∈ L, x.slot ≠ s) : findR L s = -1 := by
  unfold findR
  rw [if_neg]
  intro hh
  obtain ⟨x, hx, e⟩ := hasB_iff.1 hh
  exact h x hx e
theorem get_in (hu : ∀ x ∈ L, ∀ y ∈ L, x.slot = y.slot → x = y) {x : Td} (hx : x ∈ L) (hs : x.slot < 4194304) : getT L x.slot = (x, 0) := by
  rcases getT_cases L x.slot with ⟨_, _, y, e1, e2, e3, _⟩ | ⟨h1 | h1, _⟩
  · rw [e1, hu y (List.mem_of_getElem? e3) x hx e2]
  · exact absurd hs h1
  · have := hasB_iff.2 ⟨x, hx, rfl⟩
    rw [h1] at this
    cases this
theorem get_out {s : Nat} (h : ∀ x ∈ L, x.slot ≠ s) (hs : s < 4194304) : getT L s = (zTd, 9) := by
  refine getT_miss hs (find_none ?_)
  cases hh : hasB L s with
  | false => rfl
  | true => obtain ⟨x, hx, e⟩ := hasB_iff.1 hh; exact absurd e (h x hx)
/-- What was taken so far. -/
structure Tak (now i : Nat) (tk L : List Td) : Prop where
  perm : tk.Perm L
  slots : ∀ x ∈ tk, x.slot < i ∧ x.birth = x.slot + 1
  len : tk.length ≤ i
theorem Tak.new (now : Nat) : Tak now 0 [] [] := ⟨List.Perm.refl _, (fun _ h => by cases h), Nat.le_refl _⟩
theorem Tak.next {i d : Nat} (h : Tak now i tk L) (hi : i < 4194304) : (schR now L ⟨i, d, i + 1⟩ = 0 ∧ Tak now (i + 1) (tk ++ [⟨i, d, i + 1⟩]) (schL now L ⟨i, d, i + 1⟩)) ∨ (schR now L ⟨i, d, i + 1⟩ ≠ 0 ∧ Tak now (i + 1) tk (schL now L ⟨i, d, i + 1⟩)) := by
  have n1 : hasB L i = false := by
    cases hh : hasB L i with
    | false => rfl
    | true =>
      obtain ⟨y, hy, e⟩ := hasB_iff.1 hh
      have := (h.slots y (h.perm.mem_iff.2 hy)).1
      omega
  have n2 : bornB L (i + 1) = false := by
    cases hh : bornB L (i + 1) with
    | false => rfl
    | true =>
      obtain ⟨y, hy, e⟩ := bornB_iff.1 hh
      have := h.slots y (h.perm.mem_iff.2 hy)
      omega
  by_cases e : schE now ⟨i, d, i + 1⟩ = 0
  · have er : schR now L ⟨i, d, i + 1⟩ = 0 := by unfold schR; rw [if_pos e]; simp [n1, n2]
    refine .inl ⟨er, ?_, fun x hx => ?_, ?_⟩
    · unfold schL
      rw [if_pos er]
      exact (List.perm_append_comm.trans (h.perm.cons _)).trans putL_perm.symm
    · rcases List.mem_append.1 hx with hx | hx
      · have := h.slots x hx
        exact ⟨by omega, this.2⟩
      · rw [List.mem_singleton] at hx
        rw [hx]
        exact ⟨by show i < i + 1; omega, rfl⟩
    · rw [List.length_append]
      have := h.len
      simp
      omega
  · have er : schR now L ⟨i, d, i + 1⟩ ≠ 0 := by unfold schR; rw [if_neg e]; exact e
    refine .inr ⟨er, ?_, fun x hx => ?_, by have := h.len; omega⟩
    · unfold schL
      rw [if_neg er]
      exact h.perm
    · have := h.slots x hx
      exact ⟨by omega, this.2⟩
end
end Go.Proofs.YtlalpenfgkfkpaaGreatDoor

/- law20.CascadeJumps, CascadePlays: the cascade and the reference's wheel side by side. Condition: the lists are read. -/
namespace Go.Proofs.YtlalpenfgkfkpaaGreatDoor
open Go.RowKit Go.Shelf
set_option maxRecDepth 100000
abbrev u64w (l : List Nat) : List Value := l.map (fun x : Nat => (.int .u64 x : Value))
theorem u64w_read {W : World} {a : Option Addr} {n c : Nat} {xs : List Nat} (h : ReadAt W (.slice a n c) 1 (u64w xs)) {j y : Nat} (hy : xs[j]? = some y) : ∃ ad, a = some ad ∧ W.cell? (ad.add j) = some (.int .u64 y) := by
  obtain ⟨a', n', c', e, hl, _, h0, hc⟩ := h
  injection e with e1 e2 e3
  subst e1 e2 e3
  have hj := (List.getElem?_eq_some_iff.1 hy).1
  cases a with
  | none =>
    have := h0 rfl
    subst this
    have : xs = [] := by simpa [u64w] using hl
    subst this
    cases hy
  | some ad => exact ⟨ad, rfl, hc ad rfl j _ (by unfold u64w; rw [List.getElem?_map, hy]; rfl)⟩
section
variable {w0 w wr w5 w6 : World} {D D' : Nat → Prop} {p now now' tt b n c n' c' : Nat} {a a' : Option Addr} {L L' : List Td}
theorem KnS.schedM2 (h : KnS w0 w D p now L) {x : Td} (h32 : x.slot ≤ 4294967295) (hd : x.dl ≤ 18446744073709551615) (hb : x.birth ≤ 18446744073709551615) :
    Calls Tryz.prog 48 #[lkP p, tdV x] w fun e w' => e = .returned (.int .i64 (schR now L x)) ∧ ∃ D', KnS w0 w' D' p now (schL now L x) ∧ grewD D D' w ∧ Mod D w w' := by
  refine (h.t.at_.sched h32 hd hb (by have := h.t.at_.count; unfold maxLen; omega)).mono ?_
  rintro e w' ⟨rfl, ⟨D', hc, hg⟩, hm⟩
  exact ⟨rfl, D', h.step (h.t.next hc hg hm) hg hm, hg, hm⟩
end
end Go.Proofs.YtlalpenfgkfkpaaGreatDoor

/- law20.step: Schedule. Conditions: the cascade lies in memory, the reference's list is read. -/
namespace Go.Proofs.YtlalpenfgkfkpaaGreatDoor
open Go.RowKit Go.Shelf
set_option maxRecDepth 100000
structure Act20 where
  what : Int
  slot : Nat
  birth : Nat
  time : Nat
def actV (t : Act20) : Value := .agg #[.int .i64 t.what, .int .u32 t.slot, .int .u64 t.birth, .int .u64 t.time]
structure ActOk (t : Act20) : Prop where
  s : t.slot ≤ 4294967295
  b : t.birth ≤ 18446744073709551615
  t : t.time ≤ 18446744073709551615
section
variable {w0 w w5 w6 : World} {D D' : Nat → Prop} {p p' now now' n c n' c' b2 : Nat} {a a' : Option Addr} {L L' : List Td} {t : Act20}
/-- The cascade and the reference's list. -/
structure StI (w0 w : World) (p now : Nat) (a : Option Addr) (n c : Nat) (D : Nat → Prop) (L : List Td) : Prop where
  ks : KnS w0 w D p now L
  rd : RdL w a n c L
  off : ∀ g, rdBlock (.slice a n c) = some g → ¬ D g
theorem StI.pure (h : StI w0 w p now a n c D L) (hp : Pure w w5) : StI w0 w5 p now a n c D L := ⟨h.ks.pure hp, h.rd.pure hp, h.off⟩
def StP (w0 w : World) (a : Option Addr) (n c : Nat) (D : Nat → Prop) (e : Ending) (w' : World) : Prop :=
  ∃ p' now' a' n' c' D' L', e = .returned (.tuple #[lkP p', whV now' a' n' c', .bool true]) ∧ StI w0 w' p' now' a' n' c' D' L' ∧ grewD D D' w ∧ Kept w a n c a' n' c' ∧ Mod D w w'
theorem StI.fin (h : StI w0 w p now a n c D L) (hp : Pure w w5) (hr : RdL w5 a' n' c' L') (hk : Kept w a n c a' n' c') (hks : KnS w0 w6 D' p' now' L') (hg : grewD D D' w5) (hm : Mod D w5 w6) (hb : w.heap.size ≤ b2) (hb5 : b2 < w5.heap.size) (hrb : ∀ g, rdBlock (.slice a' n' c') = some g → g ≠ b2) (v0 v1 : Value) :
    StI w0 ((w6.setCell ⟨b2, 0, none⟩ v0).setCell ⟨b2, 1, none⟩ v1) p' now' a' n' c' D' L' ∧ grewD D D' w ∧ Mod D w ((w6.setCell ⟨b2, 0, none⟩ v0).setCell ⟨b2, 1, none⟩ v1) := by
  have hsz := hp.size
  have hDlt : ∀ k, D k → k < w.heap.size := fun k hk => h.ks.lt hk
  have key : ∀ g, rdBlock (.slice a' n' c') = some g → ¬ D g ∧ g < w5.heap.size := fun g hg' => by
    have hlt := hr.lt hg'
    rcases hk.rd hg' with e | e
    · exact ⟨h.off g e, hlt⟩
    · exact ⟨fun hd => by have := hDlt g hd; omega, hlt⟩
  have nb' : ¬ D' b2 := fun hd => by
    rcases hg b2 hd with e | e
    · have := hDlt _ e; omega
    · omega
  have hms := Mod.set2 (w := w6) b2 0 1 v0 v1
  have hpu := h.ks.pu.size
  have hw0 := h.ks.pu
  have h00 : 0 < w.heap.size := h.ks.t.tab.lt
  refine ⟨⟨⟨hks.t.frame hms (fun k hk e => by subst e; exact nb' hk) (fun e => by omega), hks.ge, hks.pu.then hms (fun k hk e => by omega)⟩, (hr.frame hm (fun g hg' => (key g hg').1)).frame hms (fun g hg' => hrb g hg'), fun g hg' hd => ?_⟩, fun k hd => ?_, ((Mod.of_pure hp).trans hm).then hms (fun k hk e => by omega)⟩
  · rcases hg g hd with e | e
    · exact (key g hg').1 e
    · have := (key g hg').2; omega
  · rcases hg k hd with e | e
    · exact .inl e
    · exact .inr (Nat.le_trans hsz e)
end
end Go.Proofs.YtlalpenfgkfkpaaGreatDoor

/- law20.step: Cancel. Conditions: the cascade lies in memory, the reference's list is read. -/
namespace Go.Proofs.YtlalpenfgkfkpaaGreatDoor
open Go.RowKit Go.Shelf
set_option maxRecDepth 100000
section
variable {w0 w w5 w6 : World} {D D' : Nat → Prop} {p p' now now' n c n' c' b2 : Nat} {a a' : Option Addr} {L L' : List Td} {t : Act20}
theorem KnS.cancelM2 (h : KnS w0 w D p now L) {s : Nat} (h32 : s ≤ 4294967295) :
    Calls Tryz.prog 47 #[lkP p, .int .u32 s] w fun e w' => e = .returned (.tuple #[tdV (getT L s).1, .int .i64 (getT L s).2]) ∧ ∃ D', KnS w0 w' D' p now (canL L s) ∧ grewD D D' w ∧ Mod D w w' := by
  refine (h.t.at_.cancel h32).mono ?_
  rintro e w' ⟨rfl, ⟨D', hc, hg⟩, hm⟩
  exact ⟨rfl, D', h.step (h.t.next hc hg hm) hg hm, hg, hm⟩
theorem StP.drew {e : Ending} {w' : World} (h : StP w0 w a n c D e w') : StP w0 w a n c D e w'.drew := by
  obtain ⟨p', now', a', n', c', D', L', h1, h2, h3, h4, h5⟩ := h
  exact ⟨p', now', a', n', c', D', L', h1, h2.pure (Mod.refl _ _).drew, h3, h4, h5.drew⟩
end
end Go.Proofs.YtlalpenfgkfkpaaGreatDoor

/- law20.step: Reschedule. Conditions: the cascade lies in memory, the reference's list is read. -/
namespace Go.Proofs.YtlalpenfgkfkpaaGreatDoor
open Go.RowKit Go.Shelf
set_option maxRecDepth 100000
section
variable {w0 w w5 w6 : World} {D D' : Nat → Prop} {p p' now now' n c n' c' b2 : Nat} {a a' : Option Addr} {L L' : List Td} {t : Act20}
theorem pairwise_nodup (h : L.Pairwise bef) : L.Nodup := h.imp (fun {a b} hab e => by subst e; unfold bef at hab; omega)
end
end Go.Proofs.YtlalpenfgkfkpaaGreatDoor

/- law20.step: Advance, three kinds. Conditions: the cascade lies in memory, the reference's list is read. Printed by wip/gen_l20f.py. -/
namespace Go.Proofs.YtlalpenfgkfkpaaGreatDoor
open Go.RowKit Go.Shelf
set_option maxRecDepth 100000
section
variable {w0 w w5 w6 : World} {D D' : Nat → Prop} {p p' now now' n c n' c' b2 : Nat} {a a' : Option Addr} {L L' : List Td} {t : Act20}
theorem nextD_lt (h : CasAt w D p now L) : nextD L < 18446744073709551616 := by
  cases L with
  | nil => show 18446744073709551615 < _; omega
  | cons x L => have := (h.rng x List.mem_cons_self).2.2.1; show x.dl < _; omega
end
end Go.Proofs.YtlalpenfgkfkpaaGreatDoor

/- law20.step: Copy. Conditions: the cascade lies in memory, the reference's list is read. -/
namespace Go.Proofs.YtlalpenfgkfkpaaGreatDoor
open Go.RowKit Go.Shelf
set_option maxRecDepth 100000
section
variable {w0 w w5 w6 : World} {D D' : Nat → Prop} {p p' now now' n c n' c' b2 tt : Nat} {a a' : Option Addr} {L L' : List Td} {t : Act20}
theorem KnS.advM3 (h : KnS w0 w D p now L) (ht : tt < 18446744073709551616) :
    Calls Tryz.prog 38 #[lkP p, .int .u64 tt] w fun e w' => ∃ v, e = .returned v ∧ ∃ D' now' L', KnS w0 w' D' p now' L' ∧ grewD D D' w ∧ Mod D w w' := by
  refine (h.t.at_.advAny h.t.tab h.t.off ht).mono ?_
  rintro e w' ⟨a, c, rfl, hr, ⟨D', hc, hg, hf⟩, hm⟩
  exact ⟨_, rfl, D', _, _, h.step (h.t.next hc hg hm) hg hm, hg, hm⟩
theorem gr_step {Dc Dn : Nat → Prop} {s : Nat} {u : World} (hd : ∀ k, Dc k → D k ∨ s ≤ k) (hg : grewD Dc Dn u) (hu : s ≤ u.heap.size) : ∀ k, Dn k → D k ∨ s ≤ k := fun k hk => by
  rcases hg k hk with e | e
  · exact hd k e
  · exact .inr (by omega)
/-- Behind all that the old one went through. -/
theorem StI.copied {W1 v1 v4 : World} {D2 : Nat → Prop} {p2 : Nat} (h : StI w0 w p now a n c D L) (hp : Pure w W1) (hc : CasAt v1 D2 p2 now L) (hp1 : Pure W1 v1) (hf : ∀ k, D2 k → W1.heap.size ≤ k) (hm : Mod (fun k => D k ∨ v1.heap.size ≤ k) v1 v4) {b2 : Nat} (hb : w.heap.size ≤ b2) (hb2 : b2 < W1.heap.size) (v0 v1' : Value) :
    StP w0 w a n c D (.returned (.tuple #[lkP p2, whV now a n c, .bool true])) ((v4.setCell ⟨b2, 0, none⟩ v0).setCell ⟨b2, 1, none⟩ v1') := by
  have s1 := hp.size; have s2 := hp1.size; have s0 := h.ks.pu.size
  have hD : ∀ k, D k → k < w.heap.size := fun k hk => h.ks.lt hk
  have hms := Mod.set2 (w := v4) b2 0 1 v0 v1'
  have h00 := h.ks.t.tab.lt
  have hall : Mod (fun k => D k ∨ w.heap.size ≤ k) w ((v4.setCell ⟨b2, 0, none⟩ v0).setCell ⟨b2, 1, none⟩ v1') :=
    ((Mod.of_pure (hp.trans hp1)).trans (hm.mono (fun k _ hk => by rcases hk with e | e; (· exact .inl e); (· exact .inr (by omega))))).trans (hms.mono (fun k _ hk => .inr (by omega)))
  have hc4 : CasAt v4 D2 p2 now L := hc.frame hm (fun k hk e => by
    rcases e with e | e
    · have := hD k e; have := hf k hk; omega
    · have := hc.lt hk; omega)
  refine ⟨p2, now, a, n, c, D2, L, rfl, ⟨⟨⟨hc4.frame hms (fun k hk e => by have := hf k hk; omega), h.ks.t.tab.mod hall (fun e => by rcases e with e | e; (· exact h.ks.t.off e); (· omega)), fun e => by have := hf 0 e; omega⟩, fun k hk => by have := hf k hk; omega, h.ks.pu.then hall (fun k hk e => by
    rcases e with e | e
    · have := h.ks.ge k e; omega
    · omega)⟩, h.rd.frame hall (fun g hg e => by
      rcases e with e | e
      · exact h.off g hg e
      · have := h.rd.lt hg; omega), fun g hg e => by have := h.rd.lt hg; have := hf g e; omega⟩, fun k hk => .inr (by have := hf k hk; omega), .inl ⟨rfl, rfl, rfl⟩, (Mod.refl _ w).then hall (fun k hk e => by
      rcases e with e | e
      · exact e
      · omega)⟩
end
end Go.Proofs.YtlalpenfgkfkpaaGreatDoor

/- law20.step in one; law20.few; the acts in memory. Conditions: the cascade lies in memory, the lists are read. -/
namespace Go.Proofs.YtlalpenfgkfkpaaGreatDoor
open Go.RowKit Go.Shelf
set_option maxRecDepth 100000
/-- A Bool is given. -/
def BoolE (e : Ending) : Prop := ∃ v : Bool, e = .returned (.bool v)
def actC (t : Act20) : List Value := [.int .i64 t.what, .int .u32 t.slot, .int .u64 t.birth, .int .u64 t.time]
section
variable {w0 w wr w5 w6 w7 : World} {D D' : Nat → Prop} {p p' now now' n c n' c' b tt : Nat} {a a' : Option Addr} {L L' : List Td} {t : Act20} {es : List Act20}
theorem act_read {w : World} {a : Option Addr} {n c : Nat} (h : ReadAt w (.slice a n c) 4 (es.flatMap actC)) {j : Nat} (hx : es[j]? = some t) :
    ∃ ad, a = some ad ∧ w.cell? (ad.add (j * 4)) = some (.int .i64 t.what) ∧ w.cell? ⟨(ad.add (j * 4)).block, (ad.add (j * 4)).off + 1, none⟩ = some (.int .u32 t.slot) ∧ w.cell? ⟨(ad.add (j * 4)).block, (ad.add (j * 4)).off + 2, none⟩ = some (.int .u64 t.birth) ∧ w.cell? ⟨(ad.add (j * 4)).block, (ad.add (j * 4)).off + 3, none⟩ = some (.int .u64 t.time) := by
  obtain ⟨a', n', c', e, hl, _, h0, hc⟩ := h
  injection e with e1 e2 e3
  subst e1 e2 e3
  have hj := (List.getElem?_eq_some_iff.1 hx).1
  cases a with
  | none =>
    have := h0 rfl
    subst this
    rw [flat_length actC 4 (fun _ => rfl)] at hl
    omega
  | some ad =>
    have g := fun i (hi : i < 4) => flat_get actC 4 (fun _ => rfl) i hi es j
    have c0 := hc ad rfl (j * 4 + 0) (.int .i64 t.what) (by rw [g 0 (by omega), hx]; rfl)
    have c1 := hc ad rfl (j * 4 + 1) (.int .u32 t.slot) (by rw [g 1 (by omega), hx]; rfl)
    have c2 := hc ad rfl (j * 4 + 2) (.int .u64 t.birth) (by rw [g 2 (by omega), hx]; rfl)
    have c3 := hc ad rfl (j * 4 + 3) (.int .u64 t.time) (by rw [g 3 (by omega), hx]; rfl)
    exact ⟨ad, rfl, c0, cell_addT (j := 0) c1, cell_addT (j := 1) c2, cell_addT (j := 2) c3⟩
end
end Go.Proofs.YtlalpenfgkfkpaaGreatDoor

/- law21: its acts in memory; few. Conditions: the acts are read. -/
namespace Go.Proofs.YtlalpenfgkfkpaaGreatDoor
open Go.RowKit Go.Shelf
set_option maxRecDepth 100000
structure Act21 where
  what : Int
  slot : Nat
  birth : Nat
  time : Nat
  ta : Option Addr
  tn : Nat
  tc : Nat
  tv : List Nat
def act21C (t : Act21) : List Value := [.int .i64 t.what, .int .u32 t.slot, .int .u64 t.birth, .int .u64 t.time, .slice t.ta t.tn t.tc]
structure A21Ok (W : World) (t : Act21) : Prop where
  s : t.slot ≤ 4294967295
  b : t.birth ≤ 18446744073709551615
  d : t.time ≤ 18446744073709551615
  rd : ReadAt W (.slice t.ta t.tn t.tc) 1 (nums t.tv)
  len : t.tv.length = t.tn
  n63 : t.tn ≤ 9223372036854775807
  u : ∀ z ∈ t.tv, z ≤ 4294967295
theorem A21Ok.pure {W W' : World} {t : Act21} (h : A21Ok W t) (hp : Pure W W') : A21Ok W' t := ⟨h.s, h.b, h.d, h.rd.frame hp (fun _ _ h => h), h.len, h.n63, h.u⟩
section
variable {w w' : World} {a : Option Addr} {n c : Nat} {es : List Act21} {j : Nat} {t : Act21}
theorem act21_read (h : ReadAt w (.slice a n c) 5 (es.flatMap act21C)) (ht : es[j]? = some t) :
    ∃ ad, a = some ad ∧ (w.cell? (ad.add (j * 5)) = some (.int .i64 t.what) ∧ w.cell? ⟨(ad.add (j * 5)).block, (ad.add (j * 5)).off + 1, none⟩ = some (.int .u32 t.slot) ∧ w.cell? ⟨(ad.add (j * 5)).block, (ad.add (j * 5)).off + 2, none⟩ = some (.int .u64 t.birth) ∧ w.cell? ⟨(ad.add (j * 5)).block, (ad.add (j * 5)).off + 3, none⟩ = some (.int .u64 t.time)) ∧ w.cell? ⟨(ad.add (j * 5)).block, (ad.add (j * 5)).off + 4, none⟩ = some (.slice t.ta t.tn t.tc) := by
  obtain ⟨a', n', c', e, hl, _, h0, hc⟩ := h
  cases e
  have hu : ∀ i u, (act21C t)[i]? = some u → (es.flatMap act21C)[j * 5 + i]? = some u := fun i u hi => by
    have hi5 : i < 5 := (List.getElem?_eq_some_iff.1 hi).1
    have h1 := flat_get act21C 5 (fun _ => rfl) i hi5 es j
    rw [ht] at h1
    rw [h1]
    exact hi
  cases a with
  | none =>
    have := h0 rfl
    rw [this, Nat.zero_mul] at hl
    have h2 := hu 0 _ rfl
    rw [List.length_eq_zero_iff.1 hl] at h2
    cases h2
  | some ad =>
    have hq : ∀ i u, (act21C t)[i + 1]? = some u → w.cell? ⟨(ad.add (j * 5)).block, (ad.add (j * 5)).off + (i + 1), none⟩ = some u := fun i u hi => cell_addT (hc ad rfl _ u (hu _ u hi))
    exact ⟨ad, rfl, ⟨hc ad rfl (j * 5) _ (hu 0 _ rfl), hq 0 _ rfl, hq 1 _ rfl, hq 2 _ rfl⟩, hq 3 _ rfl⟩
/-- What few says: a bool, and, where it is true, the bounds. -/
def FewE (n : Nat) (es : List Act21) (e : Ending) : Prop := ∃ b : Bool, e = .returned (.bool b) ∧ (b = true → n ≤ 40 ∧ ∀ t ∈ es, t.tn ≤ 100)
set_option maxHeartbeats 1000000 in
theorem few21_ok (h : ReadAt w (.slice a n c) 5 (es.flatMap act21C)) (hn : es.length = n) (hok : ∀ t ∈ es, A21Ok w t) :
    Calls Tryz.prog 4 #[.slice a n c] w fun e w' => FewE n es e ∧ w = w' := by
  have HR := Lib.hid h; have HN := Lib.hid hn; have HOk := Lib.hid hok
  have HFin : Hid (∀ j : Nat, j ≤ n → j ≤ 41 → ¬ (j < n ∧ j < 41) → (∀ i t, i < j → es[i]? = some t → t.tn ≤ 100) → decide ((n : Int) ≤ 40) = true → n ≤ 40 ∧ ∀ t ∈ es, t.tn ≤ 100) := Lib.hid (fun j h1 h2 h3 h4 h5 => by
    have h6 : (n : Int) ≤ 40 := of_decide_eq_true h5
    refine ⟨by omega, fun t ht => ?_⟩
    obtain ⟨i, hi⟩ := List.getElem?_of_mem ht
    have := (List.getElem?_eq_some_iff.1 hi).1
    exact h4 i t (by omega) hi)
  clear h hn hok
  go_enter Tryz.func4, Tryz.ntmps4
  go_upto_region 2 with fail
  go_loopw [3] (fun v3 wr => ∃ j : Nat, v3 = .int .i64 (j : Nat) ∧ j ≤ n ∧ j ≤ 41 ∧ Hid (∀ i t, i < j → es[i]? = some t → t.tn ≤ 100) ∧ w = wr) (fun v3 _ => 41 - (intOf v3).toNat)
  case atStart => exact ⟨0, rfl, Nat.zero_le _, Nat.zero_le _, Lib.hid (fun i t hi => by omega), rfl⟩
  case round =>
    obtain ⟨j, rfl, hj, hj41, HB, rfl⟩ := hrel
    by_cases hlt : j < n
    · have hlt' : (j : Int) < (n : Int) := by omega
      have d1 : decide (j < n) = true := decide_eq_true hlt
      by_cases h41 : j < 41
      · have h41' : (j : Int) < 41 := by omega
        have j0 : (0 : Int) ≤ (j : Int) := by omega
        have wj : IntKind.i64.wrap ((j : Int) + 1) = (j : Int) + 1 := IntWalk.i64_in _ (by omega)
        obtain ⟨t, ht⟩ : ∃ t, es[j]? = some t := ⟨_, List.getElem?_eq_getElem (by rw [HN.out]; exact hlt)⟩
        obtain ⟨ad, rfl, ⟨z0, z1, z2, z3⟩, z4⟩ := act21_read HR.out ht
        have hto := HOk.out t (List.mem_of_getElem? ht)
        have HT := Lib.hid hto.rd; have HTl := Lib.hid hto.len
        have HNB : Hid (t.tn ≤ 100 → ∀ i u, i < j + 1 → es[i]? = some u → u.tn ≤ 100) := Lib.hid (fun h100 i u hi hu => by
          by_cases e : i = j
          · subst e
            rw [ht] at hu
            injection hu with hu
            subst hu
            exact h100
          · exact HB.out i u (by omega) hu)
        clear ht hto z0 z2 z3
        obtain ⟨sl, hsl⟩ : ∃ sl, t.slot = sl := ⟨_, rfl⟩
        obtain ⟨tn, htn⟩ : ∃ tn, t.tn = tn := ⟨_, rfl⟩
        obtain ⟨ta, hta⟩ : ∃ ta, t.ta = ta := ⟨_, rfl⟩
        obtain ⟨tc, htc⟩ : ∃ tc, t.tc = tc := ⟨_, rfl⟩
        rw [hsl] at z1
        rw [hta, htn, htc] at z4 HT
        rw [htn] at HNB HTl
        clear hsl htn hta htc
        go_upto_block 1 with fail
        go_cut [] from 5 to 67 (fun wx => w = wx ∧ tn ≤ 100)
        case rest =>
          obtain ⟨rfl, h100⟩ := hcut
          have HB2 := Lib.hid (HNB.out h100)
          clear h100
          go_wp2
          go_roundw
          case rel => exact ⟨j + 1, by go_num, hlt, h41, HB2, by trivial⟩
          case measure => simp [intOf]; omega
        by_cases c0 : 100 < tn
        · have c0' : (100 : Int) < (tn : Int) := by omega
          clear c0
          go_wp2
          go_ret
          exact ⟨⟨false, rfl, fun h => by cases h⟩, rfl⟩
        · have c0' : ¬ (100 : Int) < (tn : Int) := by omega
          by_cases cbad : 5000 ≤ sl ∧ sl < 4194304
          · have c1' : (5000 : Int) ≤ (sl : Int) := by omega
            have c2' : (sl : Int) < 4194304 := by omega
            clear c0 cbad
            go_wp2
            go_ret
            exact ⟨⟨false, rfl, fun h => by cases h⟩, rfl⟩
          · have HC0 := Lib.hid (Nat.not_lt.1 c0)
            by_cases c1 : 5000 ≤ sl
            all_goals
              first
                | (have c1' : (5000 : Int) ≤ (sl : Int) := by omega
                   have c2' : ¬ (sl : Int) < 4194304 := by omega
                   skip)
                | (have c1' : ¬ (5000 : Int) ≤ (sl : Int) := by omega
                   skip)
              clear c0 cbad c1
              go_upto_region 7 with fail
              go_loopw [4] (fun v4 wr => ∃ k : Nat, v4 = .int .i64 (k : Nat) ∧ k ≤ tn ∧ w = wr) (fun v4 _ => tn - (intOf v4).toNat)
              case atStart => exact ⟨0, rfl, Nat.zero_le _, rfl⟩
              case round =>
                obtain ⟨k, rfl, hk, rfl⟩ := hrel
                by_cases hlt2 : k < tn
                · have hlt2' : (k : Int) < (tn : Int) := by omega
                  have k0 : (0 : Int) ≤ (k : Int) := by omega
                  have d2 : decide (k < tn) = true := decide_eq_true hlt2
                  have hc0 := HC0.out
                  have wk : IntKind.i64.wrap ((k : Int) + 1) = (k : Int) + 1 := IntWalk.i64_in _ (by omega)
                  obtain ⟨z, hz⟩ : ∃ z, t.tv[k]? = some z := ⟨_, List.getElem?_eq_getElem (by rw [HTl.out]; exact hlt2)⟩
                  obtain ⟨ad2, rfl, y0⟩ := read_num HT.out hz
                  clear hz hc0
                  by_cases q1 : 5000 ≤ z
                  · have q1' : (5000 : Int) ≤ (z : Int) := by omega
                    by_cases q2 : z < 4194304
                    · have q2' : (z : Int) < 4194304 := by omega
                      clear q1 q2
                      go_wp2
                      go_ret
                      exact ⟨⟨false, rfl, fun h => by cases h⟩, rfl⟩
                    · have q2' : ¬ (z : Int) < 4194304 := by omega
                      clear q1 q2
                      go_wp2
                      go_roundw
                      case rel => exact ⟨k + 1, by go_num, hlt2, by trivial⟩
                      case measure => simp [intOf]; omega
                  · have q1' : ¬ (5000 : Int) ≤ (z : Int) := by omega
                    clear q1
                    go_wp2
                    go_roundw
                    case rel => exact ⟨k + 1, by go_num, hlt2, by trivial⟩
                    case measure => simp [intOf]; omega
                · have hge : ¬ (k : Int) < (tn : Int) := by omega
                  have d2 : decide (k < tn) = false := decide_eq_false hlt2
                  have hc0 := HC0.out
                  go_wp2
                  go_meet
                  exact ⟨rfl, hc0⟩
      · have h41' : ¬ (j : Int) < 41 := by omega
        go_wp2
        go_ret
        exact ⟨⟨decide ((n : Int) ≤ 40), rfl, HFin.out j hj hj41 (by omega) HB.out⟩, rfl⟩
    · have hge : ¬ (j : Int) < (n : Int) := by omega
      have d1 : decide (j < n) = false := decide_eq_false hlt
      go_wp2
      go_ret
      exact ⟨⟨decide ((n : Int) ≤ 40), rfl, HFin.out j hj hj41 (by omega) HB.out⟩, rfl⟩
end
end Go.Proofs.YtlalpenfgkfkpaaGreatDoor

/- A slice of law21's acts that came in. -/
namespace Go.Proofs.YtlalpenfgkfkpaaGreatDoor
open Go.ChangeShapes Go.WideShapes Go.ChangeAt Go.RowKit Go.Deep
set_option maxRecDepth 100000
section
variable {H : Type} {enc : TypeId × Value → H} {P : Program} {w : World} {base : Nat} {spare : Nat → Bool} {held : Bool}
theorem open_rows21 {t e : TypeId} {fs : Array Field} {fuel : Nat} {cs : List Value} {x : DataW H × List MemPlace} (ht : P.underlying t = some (.slice e)) (he : P.underlying e = some (.struct fs))
    (hone : oneCellFields P fs = true) (hC : P.cellsOf e = fs.size) (h : DataW.trod enc P w base spare held fuel t cs = some x) :
    cs = [.slice none 0 0] ∨
    ∃ (a : Addr) (len cap : Nat), cs = [.slice (some a) len cap] ∧ len ≤ cap ∧ cap ≤ maxLen ∧
      ∀ i, i < len → ∀ (j : Nat) (f : Field), fs[j]? = some f → ∃ (v : Value) (y : DataW H × List MemPlace) (n : Nat), w.cell? (a.add (i * fs.size + j)) = some v ∧ DataW.trod enc P w base spare held n f.type [v] = some y := by
  rcases open_slice ht h with h0 | ⟨a, len, cap, m, n, D, Pl, hcs, hb, hl, hm, hmm, hx, hi⟩
  · exact .inl h0.1
  · refine .inr ⟨a, len, cap, hcs, hl, hm, fun i him j f hj => ?_⟩
    have him' : i < m := by rw [hmm]; split <;> omega
    obtain ⟨cs', hc, ht'⟩ := hi i him'
    rw [hC] at hc
    obtain ⟨ys, n', hn', hy, hlen, hyl, hf⟩ := DataW.trod_struct he ht'
    obtain ⟨_, hcl, hat⟩ := World.cells?_some hc
    obtain ⟨ho, hk⟩ := hone_of hone j f hj
    have hjl : j < fs.size := (Array.getElem?_eq_some_iff.1 hj).1
    have hcell := hat j hjl
    have hv : cs'[j]? = some (cs'[j]'(by omega)) := List.getElem?_eq_getElem (by omega)
    have h1 := hf j f hj
    rw [ho, hk] at h1
    have hone' : (cs'.drop j).take 1 = [cs'[j]'(by omega)] := by
      rw [List.drop_eq_getElem_cons (by omega)]
      rfl
    rw [hone'] at h1
    have hys : ys[j]? = some (ys[j]'(by omega)) := List.getElem?_eq_getElem (by omega)
    refine ⟨_, _, _, ?_, h1.trans hys⟩
    rw [← Go.Deep.add_add, hcell, hv]
end
theorem u32s_in {H : Type} {enc : TypeId × Value → H} {P : Program} {W : World} {base fuel : Nat} {sp : Nat → Bool} {held : Bool} {t e : TypeId} {v : Value} {x : DataW H × List MemPlace}
    (ht : P.underlying t = some (.slice e)) (he : P.underlying e = some (.int .u32)) (hc : P.cellsOf e = 1) (hf : DataW.trod enc P W base sp held fuel t [v] = some x) :
    ∃ (a : Option Addr) (n c : Nat) (gs : List Nat), v = .slice a n c ∧ gs.length = n ∧ n ≤ 9223372036854775807 ∧ ReadAt W (.slice a n c) 1 (nums gs) ∧ (∀ z ∈ gs, z ≤ 4294967295) := by
  rcases open_ints ht he hc hf with ⟨hcs, _⟩ | ⟨a, n, c, zs, hcs, _, hl, hm, hz, _, hcell, hw⟩
  · injection hcs with hcs
    exact ⟨none, 0, 0, [], hcs, rfl, by omega, ReadAt.nil _ _, by simp⟩
  · injection hcs with hcs
    have hlz : n ≤ zs.length := by rw [hz]; split <;> omega
    have hw2 : ∀ z ∈ zs.take n, 0 ≤ z ∧ z ≤ 4294967295 := fun z hz => by
      have := hw z (List.mem_of_mem_take hz)
      simp [Lit.wf, IntKind.min, IntKind.max, IntKind.signed, IntKind.bits] at this
      omega
    have e2 : nums ((zs.take n).map Int.toNat) = (zs.take n).map (Value.int .u32) := by
      unfold nums
      rw [List.map_map]
      refine List.map_congr_left (fun z hz => ?_)
      have := hw2 z hz
      simp only [Function.comp]
      rw [Int.toNat_of_nonneg this.1]
    refine ⟨some a, n, c, (zs.take n).map Int.toNat, hcs, by simp; omega, by unfold maxLen at hm; omega, ?_, fun z hz => ?_⟩
    · rw [e2]
      refine ⟨some a, n, c, rfl, by simp; omega, ?_, (fun h => by cases h), ?_⟩
      · intro u hu
        obtain ⟨_, _, rfl⟩ := List.mem_map.1 hu
        rfl
      · intro ad ha j u hu
        cases ha
        rw [List.getElem?_map] at hu
        cases e : (zs.take n)[j]? with
        | none => rw [e] at hu; cases hu
        | some z =>
          rw [e] at hu
          cases hu
          rw [List.getElem?_take] at e
          split at e
          · rename_i hj
            rw [hcell j (by omega)]
            simp [List.getD, e]
          · cases e
    · obtain ⟨y, hy, rfl⟩ := List.mem_map.1 hz
      have := hw2 y hy
      omega
theorem acts21_of {H : Type} {enc : TypeId × Value → H} {W : World} {base : Nat} {sp : Nat → Bool} {held : Bool} {r : Reach} {b0 : Nat} {v : Value} {d : DataW H} {p : List MemPlace} (hv : Value.okWide Tryz.prog W r b0 24 v) (h : DataW.Trod enc Tryz.prog W base sp held 24 v d p) :
    ∃ (a : Option Addr) (c : Nat) (ac : List Act21), v = .slice a ac.length c ∧ ac.length ≤ 9223372036854775807 ∧ ReadAt W (.slice a ac.length c) 5 (ac.flatMap act21C) ∧ (∀ y ∈ ac, A21Ok W y) := by
  obtain ⟨a0, n0, c0, rfl⟩ := okWide_slice Tryz.underlying24 hv
  obtain ⟨fuel, hf⟩ := h
  rcases open_rows21 Tryz.underlying24 Tryz.underlying38 (by kernel_rfl) (by kernel_rfl) hf with hcs | ⟨a, n, c, hcs, hl, hm, hz⟩
  · simp [Value.cells] at hcs
    obtain ⟨rfl, rfl, rfl⟩ := hcs
    exact ⟨none, 0, [], rfl, by simp, ReadAt.nil _ _, by simp⟩
  · simp [Value.cells] at hcs
    obtain ⟨rfl, rfl, rfl⟩ := hcs
    have hone : ∀ i, i < n0 → ∃ y : Act21, A21Ok W y ∧ ∀ j u, (act21C y)[j]? = some u → W.cell? (a.add (i * 5 + j)) = some u := fun i hi => by
      obtain ⟨v0, y0, m0, e0, t0⟩ := hz i hi 0 _ rfl
      obtain ⟨v1, y1, m1, e1, t1⟩ := hz i hi 1 _ rfl
      obtain ⟨v2, y2, m2, e2, t2⟩ := hz i hi 2 _ rfl
      obtain ⟨v3, y3, m3, e3, t3⟩ := hz i hi 3 _ rfl
      obtain ⟨v4, y4, m4, e4, t4⟩ := hz i hi 4 _ rfl
      obtain ⟨z0, f0, _, _⟩ := DataW.trod_int Tryz.underlying3 t0
      obtain ⟨z1, f1, _, w1⟩ := DataW.trod_int Tryz.underlying33 t1
      obtain ⟨z2, f2, _, w2⟩ := DataW.trod_int Tryz.underlying22 t2
      obtain ⟨z3, f3, _, w3⟩ := DataW.trod_int Tryz.underlying23 t3
      obtain ⟨ta, tn, tc, gs, f4, l4, l5, r4, u4⟩ := u32s_in Tryz.underlying36 Tryz.underlying33 (by kernel_rfl) t4
      cases f0; cases f1; cases f2; cases f3; subst f4
      simp [Lit.wf, IntKind.min, IntKind.max, IntKind.signed, IntKind.bits] at w1 w2 w3
      have s1 : ((z1.toNat : Nat) : Int) = z1 := Int.toNat_of_nonneg w1.1
      have s2 : ((z2.toNat : Nat) : Int) = z2 := Int.toNat_of_nonneg w2.1
      have s3 : ((z3.toNat : Nat) : Int) = z3 := Int.toNat_of_nonneg w3.1
      refine ⟨⟨z0, z1.toNat, z2.toNat, z3.toNat, ta, tn, tc, gs⟩, ⟨by show z1.toNat ≤ _; omega, by show z2.toNat ≤ _; omega, by show z3.toNat ≤ _; omega, r4, l4, l5, u4⟩, fun j u hu => ?_⟩
      have hj : j < 5 := (List.getElem?_eq_some_iff.1 hu).1
      unfold act21C at hu
      simp only [s1, s2, s3] at hu
      have : j = 0 ∨ j = 1 ∨ j = 2 ∨ j = 3 ∨ j = 4 := by omega
      rcases this with rfl | rfl | rfl | rfl | rfl
      · cases hu; exact e0
      · cases hu; exact e1
      · cases hu; exact e2
      · cases hu; exact e3
      · cases hu; exact e4
    obtain ⟨ac, hlen, hac⟩ : ∃ ac : List Act21, ac.length = n0 ∧ ∀ i, i < n0 → ∃ y, ac[i]? = some y ∧ A21Ok W y ∧ ∀ j u, (act21C y)[j]? = some u → W.cell? (a.add (i * 5 + j)) = some u := by
      classical
      refine ⟨List.ofFn (fun i : Fin n0 => Classical.choose (hone i.1 i.2)), by simp, fun i hi => ⟨Classical.choose (hone i hi), by simp [List.getElem?_ofFn, hi], Classical.choose_spec (hone i hi)⟩⟩
    clear hone hz
    have hm' : n0 ≤ 9223372036854775807 := by unfold maxLen at hm; omega
    refine ⟨some a, c0, ac, by rw [hlen], by rw [hlen]; exact hm', ⟨some a, n0, c0, by rw [hlen], ?_, ?_, (fun h => by cases h), ?_⟩, fun y hy => ?_⟩
    · rw [flat_length act21C 5 (fun _ => rfl) ac, hlen]
    · intro u hu
      obtain ⟨y, _, hy⟩ := List.mem_flatMap.1 hu
      unfold act21C at hy
      simp only [List.mem_cons, List.not_mem_nil, or_false] at hy
      rcases hy with rfl | rfl | rfl | rfl | rfl <;> rfl
    · intro ad had k u hu
      cases had
      have hk : k < n0 * 5 := by
        have := (List.getElem?_eq_some_iff.1 hu).1
        rw [flat_length act21C 5 (fun _ => rfl) ac, hlen] at this
        exact this
      have hd : k / 5 * 5 + k % 5 = k := by omega
      obtain ⟨y, hy, _, hc⟩ := hac (k / 5) (by omega)
      have h1 := flat_get act21C 5 (fun _ => rfl) (k % 5) (by omega) ac (k / 5)
      rw [hy, hd, hu] at h1
      have := hc (k % 5) u h1.symm
      rw [hd] at this
      exact this
    · obtain ⟨i, hi⟩ := List.getElem?_of_mem hy
      have hil := (List.getElem?_eq_some_iff.1 hi).1
      obtain ⟨y', hy', hok, _⟩ := hac i (by omega)
      rw [hi] at hy'
      cases hy'
      exact hok
end Go.Proofs.YtlalpenfgkfkpaaGreatDoor
