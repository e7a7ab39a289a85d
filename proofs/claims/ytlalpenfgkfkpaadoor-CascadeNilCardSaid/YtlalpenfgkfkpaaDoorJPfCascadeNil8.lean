/- Lemmas and contracts of functions, strung together out of 6 texts. No condition. -/
import Derived.Test.YtlalpenfgkfkpaaDoorJPfCascadeNil7
import Derived.Deep.RegionHeld3
import Derived.Sort.Grow
import Derived.WalkSpells
import Derived.Shelf.SlLaysF0
import Derived.Test.YtlalpenfgkfkpaaDoorProg
import Derived.Shelf.SlSortCmp.NoneTotal
/- cascade: an advance, by plain lists: what is due, sorted, and what is left. No condition. -/
namespace Go.Proofs.YtlalpenfgkfkpaaDoor
section
variable {now tt : Nat} {M M' Mj dj : List Td} {P Q : Nat → Prop} {Lss Lss' : List (List (List Nat))} {Ls cur : List (List Nat)} {L L' mv : List Nat} {lv bk n b k s : Nat} {x : Td}
/-- One is taken away. -/
theorem PInv.without (h : PInv now M P Lss) (hp : M.Perm (x :: M')) : x ∈ M ∧ (∀ y, y ∈ M' ↔ y ∈ M ∧ y.slot ≠ x.slot) ∧ (∀ y, y ∈ M' ↔ y ∈ M ∧ y.birth ≠ x.birth) ∧ M'.Nodup ∧ M'.length + 1 = M.length := by
  have hx : x ∈ M := hp.mem_iff.2 List.mem_cons_self
  have hnd := hp.nodup_iff.1 h.ndM
  obtain ⟨n1, n2⟩ := List.nodup_cons.1 hnd
  have key : ∀ y, y ∈ M' ↔ y ∈ M ∧ y ≠ x := fun y => by
    rw [hp.mem_iff, List.mem_cons]
    constructor
    · intro hy
      exact ⟨.inr hy, fun e => n1 (e ▸ hy)⟩
    · rintro ⟨e | e, c⟩
      · exact absurd e c
      · exact e
  refine ⟨hx, fun y => ?_, fun y => ?_, n2, by rw [hp.length_eq]; rfl⟩
  · rw [key]
    exact and_congr_right (fun hy => ⟨fun c e => c (h.slots y hy x hx e), fun c e => c (by rw [e])⟩)
  · rw [key]
    exact and_congr_right (fun hy => ⟨fun c e => c (h.births y hy x hx e), fun c e => c (by rw [e])⟩)
theorem perm_filter_slot (h : PInv now M P Lss) (hx : x ∈ M) : M.Perm (x :: M.filter (fun y => y.slot != x.slot)) := by
  have h1 : ∀ (A : List Td), (∀ a ∈ A, ∀ b ∈ A, a.slot = b.slot → a = b) → A.Nodup → x ∈ A → A.Perm (x :: A.filter (fun y => y.slot != x.slot)) := by
    intro A
    induction A with
    | nil => intro _ _ hx; cases hx
    | cons a A ih =>
      intro hs hnd hx
      obtain ⟨n1, n2⟩ := List.nodup_cons.1 hnd
      by_cases e : a.slot = x.slot
      · have : a = x := hs a List.mem_cons_self x hx e
        subst this
        have hf : A.filter (fun y => y.slot != a.slot) = A := by
          rw [List.filter_eq_self]
          intro y hy
          have : y.slot ≠ a.slot := fun c => n1 (by rw [← hs y (List.mem_cons_of_mem _ hy) a List.mem_cons_self c]; exact hy)
          simpa using this
        rw [List.filter_cons, if_neg (by simp), hf]
      · rw [List.filter_cons, if_pos (by simpa using e)]
        have hx2 : x ∈ A := by
          rcases List.mem_cons.1 hx with c | c
          · exact absurd (by rw [c]) e
          · exact c
        exact ((ih (fun u hu v hv => hs u (List.mem_cons_of_mem _ hu) v (List.mem_cons_of_mem _ hv)) n2 hx2).cons a).trans (List.Perm.swap x a _)
  exact h1 M h.slots h.ndM hx
/-- An advance to tt under way: mv is still to be looked at, dj is due. -/
structure AdvSt (tt : Nat) (M : List Td) (mv : List Nat) (Mj dj : List Td) (Lssj : List (List (List Nat))) : Prop where
  inv : PInv tt Mj (fun s => s ∈ mv) Lssj
  perm : (Mj ++ dj).Perm M
  due : ∀ x ∈ dj, x.dl ≤ tt
  nd : mv.Nodup
  has : ∀ s ∈ mv, ∃ x ∈ Mj, x.slot = s
theorem AdvSt.stay (h : AdvSt tt M (s :: mv) Mj dj Lss) (hx : x ∈ Mj) (hs : x.slot = s) (hn : tt < x.dl) (hL : Lss[lvl tt x.dl]? = some Ls) (hK : Ls[bkt tt x.dl]? = some L) :
    AdvSt tt M mv Mj dj (Lss.set (lvl tt x.dl) (Ls.set (bkt tt x.dl) (L ++ [x.slot]))) := by
  obtain ⟨n1, n2⟩ := List.nodup_cons.1 h.nd
  refine ⟨h.inv.put (.inr ⟨hx, fun y hy e => h.inv.slots y hy x hx e, rfl⟩) hn (h.inv.rng x hx) (fun y hy e => by rw [hs]; exact List.mem_cons_self) hL hK (fun t => ?_), h.perm, h.due, n2, fun t ht => h.has t (List.mem_cons_of_mem _ ht)⟩
  rw [List.mem_cons, hs]
  constructor
  · intro ht; exact ⟨.inr ht, fun e => n1 (e ▸ ht)⟩
  · rintro ⟨e | e, c⟩
    · exact absurd e c
    · exact e
theorem AdvSt.go (h : AdvSt tt M (s :: mv) Mj dj Lss) (hs : x.slot = s) (hd : x.dl ≤ tt) (hp : Mj.Perm (x :: M')) : AdvSt tt M mv M' (dj ++ [x]) Lss := by
  obtain ⟨n1, n2⟩ := List.nodup_cons.1 h.nd
  obtain ⟨hx, w1, w2, w3, w4⟩ := h.inv.without hp
  refine ⟨h.inv.drop (x := x) (by rw [hs]; exact List.mem_cons_self) w1 w3 (fun t => ?_), ?_, fun y hy => ?_, n2, fun t ht => ?_⟩
  · rw [List.mem_cons, hs]
    constructor
    · intro ht; exact ⟨.inr ht, fun e => n1 (e ▸ ht)⟩
    · rintro ⟨e | e, c⟩
      · exact absurd e c
      · exact e
  · refine List.Perm.trans ?_ h.perm
    refine List.Perm.trans ?_ (hp.symm.append_right dj)
    rw [← List.append_assoc]
    exact List.perm_append_comm.trans (by simp)
  · rcases List.mem_append.1 hy with hy | hy
    · exact h.due y hy
    · rw [List.mem_singleton] at hy; rw [hy]; exact hd
  · obtain ⟨y, hy, e⟩ := h.has t (List.mem_cons_of_mem _ ht)
    exact ⟨y, (w1 y).2 ⟨hy, fun c => n1 (by rw [← hs, ← c, e]; exact ht)⟩, e⟩
theorem AdvSt.fin (h : AdvSt tt M [] Mj dj Lss) : PInv tt Mj (fun _ => False) Lss ∧ ∀ x ∈ Mj, tt < x.dl := by
  have h0 : (fun s : Nat => s ∈ ([] : List Nat)) = fun _ => False := by funext s; simp
  have := h.inv
  rw [h0] at this
  exact ⟨this, fun x hx => this.after x hx (fun c => c)⟩
theorem PInv.adv (h : PInv now M (fun _ => False) Lss) (hn : now < tt) (ht : tt < 18446744073709551616) (hL : Lss[lvl now tt]? = some Ls) :
    AdvSt tt M (movedK Lss (lvl now tt) ++ flatN Ls (bkt now tt + 1)) M [] (leftL Lss Ls (lvl now tt) (bkt now tt + 1)) := by
  obtain ⟨h1, h2⟩ := h.start hn ht hL
  exact ⟨h1, by simp, (fun _ h => by cases h), h.nodup_moved hL, h2⟩
/-- What is due first. -/
def bef (a b : Td) : Prop := a.dl < b.dl ∨ a.dl = b.dl ∧ a.birth < b.birth
def befB (a b : Td) : Bool := decide (a.dl < b.dl) || (decide (a.dl = b.dl) && decide (a.birth < b.birth))
theorem befB_iff {a b : Td} : befB a b = true ↔ bef a b := by unfold befB bef; simp
theorem bef_asymm {a b : Td} (h1 : bef a b) (h2 : bef b a) : False := by unfold bef at *; omega
theorem sorted_uniq : ∀ {A B : List Td}, A.Pairwise bef → B.Pairwise bef → A.Perm B → A = B := by
  intro A B h1 h2 h3
  exact h3.eq_of_pairwise (fun a b _ _ x y => (bef_asymm x y).elim) h1 h2
theorem takeWhile_filter : ∀ {A : List Td}, A.Pairwise bef → A.takeWhile (fun x => decide (x.dl ≤ tt)) = A.filter (fun x => decide (x.dl ≤ tt)) ∧ A.dropWhile (fun x => decide (x.dl ≤ tt)) = A.filter (fun x => !decide (x.dl ≤ tt))
  | [], _ => by simp
  | a :: A, h => by
    obtain ⟨h1, h2⟩ := List.pairwise_cons.1 h
    by_cases c : a.dl ≤ tt
    · obtain ⟨i1, i2⟩ := takeWhile_filter (A := A) h2
      simp [c, i1, i2]
    · have hz : ∀ y ∈ A, ¬ y.dl ≤ tt := fun y hy => by
        have := h1 y hy
        unfold bef at this
        omega
      have e1 : A.filter (fun x => decide (x.dl ≤ tt)) = [] := by
        rw [List.filter_eq_nil_iff]
        intro y hy
        simpa using hz y hy
      have e2 : A.filter (fun x => !decide (x.dl ≤ tt)) = A := by
        rw [List.filter_eq_self]
        intro y hy
        simpa using hz y hy
      simp only [List.takeWhile_cons, List.dropWhile_cons, List.filter_cons]
      simp [c, e1, e2]
theorem adv_end {A : List Td} (hs : A.Pairwise bef) (hp : (Mj ++ dj).Perm A) (h1 : ∀ x ∈ dj, x.dl ≤ tt) (h2 : ∀ x ∈ Mj, tt < x.dl) :
    dj.Perm (A.takeWhile (fun x => decide (x.dl ≤ tt))) ∧ Mj.Perm (A.dropWhile (fun x => decide (x.dl ≤ tt))) := by
  obtain ⟨e1, e2⟩ := takeWhile_filter (tt := tt) hs
  rw [e1, e2]
  have f1 := (hp.filter (fun x => decide (x.dl ≤ tt)))
  have f2 := (hp.filter (fun x => !decide (x.dl ≤ tt)))
  rw [List.filter_append] at f1 f2
  have a1 : Mj.filter (fun x => decide (x.dl ≤ tt)) = [] := by
    rw [List.filter_eq_nil_iff]
    intro y hy
    have := h2 y hy
    simp; omega
  have a2 : dj.filter (fun x => decide (x.dl ≤ tt)) = dj := by
    rw [List.filter_eq_self]
    intro y hy
    simpa using h1 y hy
  have a3 : Mj.filter (fun x => !decide (x.dl ≤ tt)) = Mj := by
    rw [List.filter_eq_self]
    intro y hy
    have := h2 y hy
    simp; omega
  have a4 : dj.filter (fun x => !decide (x.dl ≤ tt)) = [] := by
    rw [List.filter_eq_nil_iff]
    intro y hy
    simpa using h1 y hy
  rw [a1, a2] at f1
  rw [a3, a4, List.append_nil] at f2
  exact ⟨by simpa using f1, f2⟩
end
end Go.Proofs.YtlalpenfgkfkpaaDoor

/- cascade: Get. Conditions: the cascade lies in memory. -/
namespace Go.Proofs.YtlalpenfgkfkpaaDoor
open Go.RowKit
set_option maxRecDepth 100000
section
variable {w w' : World} {D : Nat → Prop} {p now : Nat} {ws : List Nat} {bm bb : Nat} {Ds : Nat → Nat → Prop} {Dm Db : DataW Unit} {M : List Td} {Lss : List (List (List Nat))}
abbrev zTd : Td := ⟨0, 0, 0⟩
/-- What Get says of a slot. -/
def getT (M : List Td) (s : Nat) : Td × Int := if s < 4194304 then (match M.find? (fun x => x.slot == s) with | some x => (x, 0) | none => (zTd, 9)) else (zTd, 2)
theorem getT_hit {s : Nat} {x : Td} (hs : s < 4194304) (hx : M.find? (fun x => x.slot == s) = some x) : getT M s = (x, 0) := by unfold getT; rw [if_pos hs, hx]
theorem getT_miss {s : Nat} (hs : s < 4194304) (hx : M.find? (fun x => x.slot == s) = none) : getT M s = (zTd, 9) := by unfold getT; rw [if_pos hs, hx]
theorem getT_arg {s : Nat} (hs : ¬ s < 4194304) : getT M s = (zTd, 2) := by unfold getT; rw [if_neg hs]
set_option maxHeartbeats 1000000 in
theorem cget_ok (h : CasMem w D p now ws bm bb Ds Dm Db M Lss) {s : Nat} (h32 : s ≤ 4294967295) :
    Calls Tryd.prog 19 #[lkP p, .int .u32 s] w fun e w' => e = .returned (.tuple #[tdV (getT M s).1, .int .i64 (getT M s).2]) ∧ Pure w w' := by
  have hal : Pure w (w.alloc (.cells #[.int .u32 0, .int .u64 0, .int .u64 0] 31)) := (Mod.refl _ w).alloc _
  have h4 := heap_new (w := w) (o := .cells #[.int .u32 0, .int .u64 0, .int .u64 0] 31 (0, 0)) rfl
  have HC := Lib.hid (h.pure hal)
  have HCk := Lib.hid (ccheck_any (h.pure hal).box h32)
  obtain ⟨c0, c9, c10, _, _⟩ := (h.pure hal).box.cells
  have HAL := Lib.hid hal
  clear hal
  by_cases hs : s < 4194304
  · have hse : slotE s = 0 := by unfold slotE; rw [if_pos hs]
    rw [hse] at HCk
    cases hf : M.find? (fun x => x.slot == s) with
    | some x =>
      have hxM := List.mem_of_find?_eq_some hf
      have hxs : x.slot = s := by have := List.find?_some hf; simpa using this
      subst hxs
      have hlk := HC.out.what.look hxM (by omega)
      rw [getT_hit hs hf]
      unfold tdV at hlk ⊢
      clear h hf hxM hse
      go_enter Tryd.func19, Tryd.ntmps19
      go_upto_region 1 with fail
      generalize w.alloc (.cells #[.int .u32 0, .int .u64 0, .int .u64 0] 31) = W1 at *
      obtain ⟨b4, hb4⟩ : ∃ b4, w.heap.size = b4 := ⟨_, rfl⟩
      rw [hb4] at h4 ⊢
      have hb4' : w.heap.size ≤ b4 := by omega
      clear hb4
      have h4_0 := cell_of_row _ _ 0 _ _ _ h4; have h4_1 := cell_of_row _ _ 1 _ _ _ h4; have h4_2 := cell_of_row _ _ 2 _ _ _ h4; have h4_f := (fun j => frozen_of_row _ _ j _ _ h4); have h4_l := lt_of_block h4; simp at h4_0 h4_1 h4_2; have H_h4 := Lib.hid h4; clear h4
      go_wp2_with (go_at_call 46; refine Calls.mono HCk.out ?_; rintro e w' ⟨rfl, rfl⟩)
      have hpp := HAL.out
      refine bodyPost_ret (v := .tuple #[.agg #[.int .u32 x.slot, .int .u64 x.dl, .int .u64 x.birth], .int .i64 0]) (by simp [results, Tryd.results19, go_sem, h4_0, h4_1, h4_2, h4_l]) rfl ⟨rfl, ?_⟩
      (repeat' (first | (with_reducible exact Mod.refl _ _) | (with_reducible refine Mod.alloc ?_ _) | (with_reducible refine Mod.drew ?_) | (with_reducible refine Mod.drewN ?_ _) | (with_reducible refine Mod.setCell ?_ ?_ _) | (refine Mod.then ?_ (by with_reducible assumption) ?_)))
      (all_goals (intros; first | (exfalso; assumption) | omega | (simp at *; done) | (simp at *; omega)))
    | none =>
      have hnx : ∀ x ∈ M, x.slot ≠ s := fun x hx e => by have := List.find?_eq_none.1 hf x hx; simp [e] at this
      have hlk := HC.out.what.look_no (s := s) (by omega) hnx
      rw [getT_miss hs hf]
      unfold tdV at hlk ⊢
      clear h hf hnx hse
      go_enter Tryd.func19, Tryd.ntmps19
      go_upto_region 1 with fail
      generalize w.alloc (.cells #[.int .u32 0, .int .u64 0, .int .u64 0] 31) = W1 at *
      obtain ⟨b4, hb4⟩ : ∃ b4, w.heap.size = b4 := ⟨_, rfl⟩
      rw [hb4] at h4 ⊢
      have hb4' : w.heap.size ≤ b4 := by omega
      clear hb4
      have h4_0 := cell_of_row _ _ 0 _ _ _ h4; have h4_1 := cell_of_row _ _ 1 _ _ _ h4; have h4_2 := cell_of_row _ _ 2 _ _ _ h4; have h4_f := (fun j => frozen_of_row _ _ j _ _ h4); have h4_l := lt_of_block h4; simp at h4_0 h4_1 h4_2; have H_h4 := Lib.hid h4; clear h4
      go_wp2_with (go_at_call 46; refine Calls.mono HCk.out ?_; rintro e w' ⟨rfl, rfl⟩)
      have hpp := HAL.out
      refine bodyPost_ret (v := .tuple #[.agg #[.int .u32 0, .int .u64 0, .int .u64 0], .int .i64 9]) (by simp [results, Tryd.results19, go_sem, h4_0, h4_1, h4_2, h4_l]) rfl ⟨rfl, ?_⟩
      (repeat' (first | (with_reducible exact Mod.refl _ _) | (with_reducible refine Mod.alloc ?_ _) | (with_reducible refine Mod.drew ?_) | (with_reducible refine Mod.drewN ?_ _) | (with_reducible refine Mod.setCell ?_ ?_ _) | (refine Mod.then ?_ (by with_reducible assumption) ?_)))
      (all_goals (intros; first | (exfalso; assumption) | omega | (simp at *; done) | (simp at *; omega)))
  · have hse : slotE s = 2 := by unfold slotE; rw [if_neg hs]
    rw [hse] at HCk
    rw [getT_arg hs]
    unfold tdV
    clear h hse
    go_enter Tryd.func19, Tryd.ntmps19
    go_upto_region 1 with fail
    generalize w.alloc (.cells #[.int .u32 0, .int .u64 0, .int .u64 0] 31) = W1 at *
    obtain ⟨b4, hb4⟩ : ∃ b4, w.heap.size = b4 := ⟨_, rfl⟩
    rw [hb4] at h4 ⊢
    have hb4' : w.heap.size ≤ b4 := by omega
    clear hb4
    have h4_0 := cell_of_row _ _ 0 _ _ _ h4; have h4_1 := cell_of_row _ _ 1 _ _ _ h4; have h4_2 := cell_of_row _ _ 2 _ _ _ h4; have h4_f := (fun j => frozen_of_row _ _ j _ _ h4); have h4_l := lt_of_block h4; simp at h4_0 h4_1 h4_2; have H_h4 := Lib.hid h4; clear h4
    go_wp2_with (go_at_call 46; refine Calls.mono HCk.out ?_; rintro e w' ⟨rfl, rfl⟩)
    have hpp := HAL.out
    refine bodyPost_ret (v := .tuple #[.agg #[.int .u32 0, .int .u64 0, .int .u64 0], .int .i64 2]) (by simp [results, Tryd.results19, go_sem, h4_0, h4_1, h4_2, h4_l]) rfl ⟨rfl, ?_⟩
    (repeat' (first | (with_reducible exact Mod.refl _ _) | (with_reducible refine Mod.alloc ?_ _) | (with_reducible refine Mod.drew ?_) | (with_reducible refine Mod.drewN ?_ _) | (with_reducible refine Mod.setCell ?_ ?_ _) | (refine Mod.then ?_ (by with_reducible assumption) ?_)))
    (all_goals (intros; first | (exfalso; assumption) | omega | (simp at *; done) | (simp at *; omega)))
end
end Go.Proofs.YtlalpenfgkfkpaaDoor

/- cascade: the list in order: put, find, take out, by plain lists. No condition. -/
namespace Go.Proofs.YtlalpenfgkfkpaaDoor
/-- x put into a list in order. -/
def putL (L : List Td) (x : Td) : List Td := L.takeWhile (fun y => befB y x) ++ x :: L.dropWhile (fun y => befB y x)
def findI (L : List Td) (s : Nat) : Nat := L.findIdx (fun y => y.slot == s)
def outI (L : List Td) (s : Nat) : List Td := L.eraseIdx (findI L s)
def bornB (L : List Td) (b : Nat) : Bool := L.any (fun y => y.birth == b)
def hasB (L : List Td) (s : Nat) : Bool := L.any (fun y => y.slot == s)
section
variable {now tt : Nat} {M M' : List Td} {P Q : Nat → Prop} {Lss Lss' : List (List (List Nat))} {L : List Td} {s : Nat} {x : Td}
theorem putL_perm : (putL L x).Perm (x :: L) := by
  unfold putL
  have h : L.takeWhile (fun y => befB y x) ++ L.dropWhile (fun y => befB y x) = L := List.takeWhile_append_dropWhile
  refine List.perm_middle.trans ?_
  rw [h]
theorem putL_mem {y : Td} : y ∈ putL L x ↔ y = x ∨ y ∈ L := by rw [putL_perm.mem_iff, List.mem_cons]
theorem putL_length : (putL L x).length = L.length + 1 := by rw [putL_perm.length_eq]; rfl
theorem bef_trans {a b c : Td} (h1 : bef a b) (h2 : bef b c) : bef a c := by unfold bef at *; omega
theorem bef_total {a b : Td} (h : a.birth ≠ b.birth) : bef a b ∨ bef b a := by unfold bef; omega
theorem putL_sorted (h : L.Pairwise bef) (hb : ∀ y ∈ L, y.birth ≠ x.birth) : (putL L x).Pairwise bef := by
  induction L with
  | nil => simp [putL]
  | cons a L ih =>
    obtain ⟨h1, h2⟩ := List.pairwise_cons.1 h
    have ih := ih h2 (fun y hy => hb y (List.mem_cons_of_mem _ hy))
    by_cases c : befB a x = true
    · have e : putL (a :: L) x = a :: putL L x := by unfold putL; simp [c]
      rw [e, List.pairwise_cons]
      refine ⟨fun y hy => ?_, ih⟩
      rcases putL_mem.1 hy with rfl | hy
      · exact befB_iff.1 c
      · exact h1 y hy
    · have e : putL (a :: L) x = x :: a :: L := by unfold putL; simp [c]
      have hxa : bef x a := by
        rcases bef_total (hb a List.mem_cons_self) with k | k
        · exact absurd (befB_iff.2 k) c
        · exact k
      rw [e, List.pairwise_cons]
      refine ⟨fun y hy => ?_, h⟩
      rcases List.mem_cons.1 hy with rfl | hy
      · exact hxa
      · exact bef_trans hxa (h1 y hy)
theorem hasB_iff : hasB L s = true ↔ ∃ y ∈ L, y.slot = s := by unfold hasB; simp
theorem bornB_iff : bornB L s = true ↔ ∃ y ∈ L, y.birth = s := by unfold bornB; simp
theorem findI_lt : findI L s < L.length ↔ hasB L s = true := by
  unfold findI
  rw [List.findIdx_lt_length, hasB_iff]
  simp
theorem perm_eraseIdx : ∀ {L : List Td} {i : Nat} {x : Td}, L[i]? = some x → L.Perm (x :: L.eraseIdx i)
  | [], _, _, h => by cases h
  | a :: L, 0, x, h => by injection h with h; subst h; exact List.Perm.refl _
  | a :: L, i + 1, x, h => ((perm_eraseIdx (L := L) (i := i) h).cons a).trans (List.Perm.swap x a _)
theorem findI_get (h : findI L s < L.length) : ∃ x, L[findI L s]? = some x ∧ x.slot = s ∧ L.find? (fun y => y.slot == s) = some x ∧ L.Perm (x :: outI L s) := by
  have h1 : (L[findI L s].slot == s) = true := List.findIdx_getElem (p := fun y : Td => y.slot == s) (xs := L) (w := h)
  refine ⟨_, List.getElem?_eq_getElem h, beq_iff_eq.1 h1, ?_, perm_eraseIdx (List.getElem?_eq_getElem h)⟩
  rw [List.find?_eq_some_iff_getElem]
  refine ⟨h1, findI L s, h, rfl, fun j hj => ?_⟩
  have := List.not_of_lt_findIdx (p := fun y : Td => y.slot == s) hj
  simpa using this
theorem find_none (h : hasB L s = false) : L.find? (fun y => y.slot == s) = none := by
  rw [List.find?_eq_none]
  intro y hy c
  have : hasB L s = true := hasB_iff.2 ⟨y, hy, by simpa using c⟩
  rw [h] at this
  cases this
theorem outI_sorted (h : L.Pairwise bef) : (outI L s).Pairwise bef := h.sublist (List.eraseIdx_sublist _ _)
theorem dropWhile_sorted (h : L.Pairwise bef) (p : Td → Bool) : (L.dropWhile p).Pairwise bef := h.sublist (List.dropWhile_sublist p)
theorem PInv.born (h : PInv now L P Lss) {x y : Td} (hx : x ∈ L) (hy : y ∈ L) (e : x.slot = y.slot) : x = y := h.slots x hx y hy e
/-- Schedule puts x in. -/
theorem PInv.sched (h : PInv now L (fun _ => False) Lss) (hn : now < x.dl) (hr : x.slot < 4194304 ∧ x.dl < 18446744073709551615 ∧ 0 < x.birth ∧ x.birth ≤ 18446744073709551615) (h1 : ∀ y ∈ L, y.slot ≠ x.slot) (h2 : ∀ y ∈ L, y.birth ≠ x.birth) {Ls : List (List Nat)} {B : List Nat}
    (hL : Lss[lvl now x.dl]? = some Ls) (hK : Ls[bkt now x.dl]? = some B) : PInv now (putL L x) (fun _ => False) (Lss.set (lvl now x.dl) (Ls.set (bkt now x.dl) (B ++ [x.slot]))) :=
  (h.put (M' := x :: L) (Q := fun _ => False) (.inl ⟨h1, h2, rfl⟩) hn hr (fun y hy e => absurd e (h1 y hy)) hL hK (fun s => ⟨fun c => c.elim, fun c => c.1.elim⟩)).perm putL_perm.symm
end
end Go.Proofs.YtlalpenfgkfkpaaDoor

/- cascade.Advance's closure, cmp.Compare, cmp.Or, tick.Due. Conditions: none, but for Or: two numbers lie in a block. -/
namespace Go.Proofs.YtlalpenfgkfkpaaDoor
open Go.RowKit Go.Sort
set_option maxRecDepth 100000
def cmpN (a b : Nat) : Int := if a < b then -1 else if b < a then 1 else 0
theorem cmpN_cases (a b : Nat) : (a < b ∧ cmpN a b = -1) ∨ (b < a ∧ cmpN a b = 1) ∨ (a = b ∧ cmpN a b = 0) := by
  unfold cmpN
  rcases Nat.lt_trichotomy a b with h | h | h
  · exact .inl ⟨h, by rw [if_pos h]⟩
  · exact .inr (.inr ⟨h, by rw [if_neg (by omega), if_neg (by omega)]⟩)
  · exact .inr (.inl ⟨h, by rw [if_neg (by omega), if_pos h]⟩)
theorem isNaN_T (a : Nat) (w : World) : Calls Tryd.prog 82 #[.int .u64 a] w fun e w' => e = .returned (.bool false) ∧ w = w' := by
  go_enter Tryd.func82, Tryd.ntmps82
  go_wp2
  go_ret
  exact ⟨by simp, rfl⟩
theorem isNaN_U (a : Nat) (w : World) : Calls Tryd.prog 83 #[.int .u64 a] w fun e w' => e = .returned (.bool false) ∧ w = w' := by
  go_enter Tryd.func83, Tryd.ntmps83
  go_wp2
  go_ret
  exact ⟨by simp, rfl⟩
theorem Compare_T (a b : Nat) (w : World) : Calls Tryd.prog 56 #[.int .u64 a, .int .u64 b] w fun e w' => e = .returned (.int .i64 (cmpN a b)) ∧ w = w' := by
  rcases cmpN_cases a b with ⟨h, e⟩ | ⟨h, e⟩ | ⟨h, e⟩
  · rw [e]
    have h1 : (a : Int) < (b : Int) := by omega
    clear e
    go_enter Tryd.func56, Tryd.ntmps56
    go_wp2_with (go_at_call 82; refine Calls.mono (isNaN_T _ _) ?_; rintro e w' ⟨rfl, rfl⟩)
    go_ret
    exact ⟨rfl, rfl⟩
  · rw [e]
    have h1 : ¬ (a : Int) < (b : Int) := by omega
    have h2 : (b : Int) < (a : Int) := by omega
    clear e
    go_enter Tryd.func56, Tryd.ntmps56
    go_wp2_with (go_at_call 82; refine Calls.mono (isNaN_T _ _) ?_; rintro e w' ⟨rfl, rfl⟩)
    go_ret
    exact ⟨rfl, rfl⟩
  · subst h
    rw [e]
    clear e
    go_enter Tryd.func56, Tryd.ntmps56
    go_wp2_with (go_at_call 82; refine Calls.mono (isNaN_T _ _) ?_; rintro e w' ⟨rfl, rfl⟩)
    go_ret
    exact ⟨rfl, rfl⟩
theorem Compare_U (a b : Nat) (w : World) : Calls Tryd.prog 57 #[.int .u64 a, .int .u64 b] w fun e w' => e = .returned (.int .i64 (cmpN a b)) ∧ w = w' := by
  rcases cmpN_cases a b with ⟨h, e⟩ | ⟨h, e⟩ | ⟨h, e⟩
  · rw [e]
    have h1 : (a : Int) < (b : Int) := by omega
    clear e
    go_enter Tryd.func57, Tryd.ntmps57
    go_wp2_with (go_at_call 83; refine Calls.mono (isNaN_U _ _) ?_; rintro e w' ⟨rfl, rfl⟩)
    go_ret
    exact ⟨rfl, rfl⟩
  · rw [e]
    have h1 : ¬ (a : Int) < (b : Int) := by omega
    have h2 : (b : Int) < (a : Int) := by omega
    clear e
    go_enter Tryd.func57, Tryd.ntmps57
    go_wp2_with (go_at_call 83; refine Calls.mono (isNaN_U _ _) ?_; rintro e w' ⟨rfl, rfl⟩)
    go_ret
    exact ⟨rfl, rfl⟩
  · subst h
    rw [e]
    clear e
    go_enter Tryd.func57, Tryd.ntmps57
    go_wp2_with (go_at_call 83; refine Calls.mono (isNaN_U _ _) ?_; rintro e w' ⟨rfl, rfl⟩)
    go_ret
    exact ⟨rfl, rfl⟩
/-- tick.Due. -/
theorem due_ok (dl tt : Nat) (hd : dl < 18446744073709551615) (w : World) : Calls Tryd.prog 51 #[.int .u64 dl, .int .u64 tt] w fun e w' => e = .returned (.bool (decide (dl ≤ tt))) ∧ w = w' := by
  have h1 : ((dl : Int) == 18446744073709551615) = false := by simp; omega
  have h2 : ((dl : Int) != 18446744073709551615) = true := by simp; omega
  by_cases h : dl ≤ tt
  · have h3 : (dl : Int) ≤ (tt : Int) := by omega
    rw [decide_eq_true h]
    go_enter Tryd.func51, Tryd.ntmps51
    go_wp2
    go_ret
    exact ⟨by simp [h], rfl⟩
  · have h3 : ¬ (dl : Int) ≤ (tt : Int) := by omega
    rw [decide_eq_false h]
    go_enter Tryd.func51, Tryd.ntmps51
    go_wp2
    go_ret
    exact ⟨by simp [h], rfl⟩
theorem Or_ok {w : World} {B : Nat} {x y : Int} (hx : w.cell? ⟨B, 0, none⟩ = some (.int .i64 x)) (hy : w.cell? ⟨B, 1, none⟩ = some (.int .i64 y)) :
    Calls Tryd.prog 55 #[.slice (some ⟨B, 0, none⟩) 2 2] w fun e w' => e = .returned (.int .i64 (if x = 0 then y else x)) ∧ w = w' := by
  by_cases e1 : x = 0
  · rw [if_pos e1]
    subst e1
    by_cases e2 : y = 0
    · subst e2
      go_enter Tryd.func55, Tryd.ntmps55
      go_upto_region 3 with fail
      refine wp_loop_rounds 3 ?_
      rw [rounds_succ]
      go_wp2
      rw [rounds_succ]
      go_wp2
      rw [rounds_succ]
      go_wp2
      go_ret
      exact ⟨rfl, rfl⟩
    · go_enter Tryd.func55, Tryd.ntmps55
      go_upto_region 3 with fail
      refine wp_loop_rounds 3 ?_
      rw [rounds_succ]
      go_wp2
      rw [rounds_succ]
      have h1 : (y == 0) = false := by simpa using e2
      have h2 : (y != 0) = true := by simpa using e2
      go_wp2
      go_ret
      exact ⟨rfl, rfl⟩
  · rw [if_neg e1]
    have h1 : (x == 0) = false := by simpa using e1
    have h2 : (x != 0) = true := by simpa using e1
    go_enter Tryd.func55, Tryd.ntmps55
    go_upto_region 3 with fail
    refine wp_loop_rounds 3 ?_
    rw [rounds_succ]
    go_wp2
    go_ret
    exact ⟨rfl, rfl⟩
theorem Or_is {w : World} {B : Nat} {x y c : Int} (hc : (if x = 0 then y else x) = c) (hx : w.cell? ⟨B, 0, none⟩ = some (.int .i64 x)) (hy : w.cell? ⟨B, 1, none⟩ = some (.int .i64 y)) :
    Calls Tryd.prog 55 #[.slice (some ⟨B, 0, none⟩) 2 2] w fun e w' => e = .returned (.int .i64 c) ∧ w = w' := by rw [← hc]; exact Or_ok hx hy
/-- The closure's answer. -/
def cfT (x y : Td) : Int := if cmpN x.dl y.dl = 0 then cmpN x.birth y.birth else cmpN x.dl y.dl
/-- What only grows and draws. -/
def Grw (w w' : World) : Prop := ∃ q os, w' = Go.Sort.grow (w.drewN q) os
theorem Grw.refl (w : World) : Grw w w := ⟨0, #[], by simp [World.drewN]⟩
theorem Grw.alloc {w w' : World} (h : Grw w w') (o : Obj) : Grw w (w'.alloc o) := by
  obtain ⟨q, os, rfl⟩ := h
  exact ⟨q, os ++ #[o], by rw [Go.Sort.alloc_eq_grow, Go.Sort.grow_grow]⟩
theorem Grw.drew {w w' : World} (h : Grw w w') : Grw w w'.drew := by
  obtain ⟨q, os, rfl⟩ := h
  exact ⟨q + 1, os, rfl⟩
theorem info_i : (Tryd.prog.info? 3).map (fun i => (i.zero, i.size, i.bytes)) = some (some (.int .i64 0), 1, 8) := by kernel_rfl
theorem keep_cells {W w' : World} {b2 b3 : Nat} {c2 c3 : Array Value} {T : TypeId} (h2 : W.heap[b2]? = some (.cells c2 T (0, 0))) (h3 : W.heap[b3]? = some (.cells c3 T (0, 0))) (hm : Pure W w') : w'.heap[b2]? = some (.cells c2 T (0, 0)) ∧ w'.heap[b3]? = some (.cells c3 T (0, 0)) := ⟨hm.heap (fun h => h) h2, hm.heap (fun h => h) h3⟩
theorem Grw.pure {w w' : World} (h : Grw w w') : Pure w w' := by
  obtain ⟨q, os, rfl⟩ := h
  refine ⟨rfl, rfl, rfl, by simp [Go.Sort.grow, World.drewN], fun k hk _ => ?_⟩
  show (w.heap ++ os)[k]? = w.heap[k]?
  rw [Array.getElem?_append_left hk]
set_option maxHeartbeats 1000000 in
theorem clos_ok (x y : Td) (w : World) : Calls Tryd.prog 54 #[tdV x, tdV y] w fun e w' => e = .returned (.int .i64 (cfT x y)) ∧ Grw w w' := by
  unfold tdV
  have h2 := heap_new (w := w) (o := .cells #[.int .u32 x.slot, .int .u64 x.dl, .int .u64 x.birth] 31 (0, 0)) rfl
  have g1 := (Grw.refl w).alloc (.cells #[.int .u32 x.slot, .int .u64 x.dl, .int .u64 x.birth] 31 (0, 0))
  have h3 := heap_new (w := w.alloc (.cells #[.int .u32 x.slot, .int .u64 x.dl, .int .u64 x.birth] 31 (0, 0))) (o := .cells #[.int .u32 y.slot, .int .u64 y.dl, .int .u64 y.birth] 31 (0, 0)) (n := w.heap.size + 1) (by simp)
  have h2 := ((Mod.refl (fun _ => False) _).alloc (.cells #[.int .u32 y.slot, .int .u64 y.dl, .int .u64 y.birth] 31 (0, 0))).heap (fun h => h) h2
  have g1 := g1.alloc (.cells #[.int .u32 y.slot, .int .u64 y.dl, .int .u64 y.birth] 31 (0, 0))
  obtain ⟨c, hc⟩ : ∃ c, cfT x y = c := ⟨_, rfl⟩
  have HC := Lib.hid hc
  rw [hc]
  clear hc
  obtain ⟨i0, hi, iz0, iz1, iz2⟩ := info_parts info_i
  go_enter Tryd.func54, Tryd.ntmps54
  go_upto_region 1 with fail
  generalize (w.alloc (.cells #[.int .u32 x.slot, .int .u64 x.dl, .int .u64 x.birth] 31)).alloc (.cells #[.int .u32 y.slot, .int .u64 y.dl, .int .u64 y.birth] 31) = W at *
  generalize w.heap.size = b2 at *
  have G1 := Lib.hid g1; have H2 := Lib.hid h2; have H3 := Lib.hid h3
  clear g1
  obtain ⟨c1, hc1⟩ : ∃ c1, cmpN x.dl y.dl = c1 := ⟨_, rfl⟩
  obtain ⟨c2, hc2⟩ : ∃ c2, cmpN x.birth y.birth = c2 := ⟨_, rfl⟩
  have k1 := Compare_T x.dl y.dl
  have k2 := Compare_U x.birth y.birth
  rw [hc1] at k1
  rw [hc2] at k2
  have hcc : (if c1 = 0 then c2 else c1) = c := by rw [← HC.out, ← hc1, ← hc2]; rfl
  have HCC := Lib.hid hcc; have K1 := Lib.hid k1; have K2 := Lib.hid k2
  clear hcc k1 k2 hc1 hc2
  have hK : ∀ W', Pure W W' → W'.cell? ⟨b2, 1, none⟩ = some (.int .u64 x.dl) ∧ W'.cell? ⟨b2 + 1, 1, none⟩ = some (.int .u64 y.dl) ∧ W'.cell? ⟨b2, 2, none⟩ = some (.int .u64 x.birth) ∧ W'.cell? ⟨b2 + 1, 2, none⟩ = some (.int .u64 y.birth) := fun W' hp => by
    obtain ⟨e2, e3⟩ := keep_cells H2.out H3.out hp
    refine ⟨?_, ?_, ?_, ?_⟩ <;> first | (rw [cell_of_row _ _ _ _ _ _ e2]; rfl) | (rw [cell_of_row _ _ _ _ _ _ e3]; rfl)
  have HK := Lib.hid hK
  have hK0 := hK W (Mod.refl _ _)
  obtain ⟨z1, z2, z3, z4⟩ := hK0
  clear hK h2 h3
  go_region_held3 (fun w' => w'.cell? ⟨b2, 1, none⟩ = some (.int .u64 x.dl) ∧ w'.cell? ⟨b2 + 1, 1, none⟩ = some (.int .u64 y.dl) ∧ w'.cell? ⟨b2, 2, none⟩ = some (.int .u64 x.birth) ∧ w'.cell? ⟨b2 + 1, 2, none⟩ = some (.int .u64 y.birth)) (first | go_keep | exact ⟨z1, z2, z3, z4⟩)
    (first
      | (go_at_call 56; refine Calls.mono (K1.out _) ?_; rintro e w' ⟨rfl, rfl⟩)
      | (go_at_call 57; refine Calls.mono (K2.out _) ?_; rintro e w' ⟨rfl, rfl⟩)
      | (go_at_call 55; refine Calls.mono (Or_is (x := c1) (y := c2) HCC.out ((cell_of_row _ _ 0 _ _ _ (heap_new rfl)).trans rfl) ((cell_of_row _ _ 1 _ _ _ (heap_new rfl)).trans rfl)) ?_; rintro e w' ⟨rfl, rfl⟩))
  go_wp2
  go_ret
  exact ⟨rfl, by first | exact (G1.out.alloc _).drew | exact G1.out.alloc _⟩
end Go.Proofs.YtlalpenfgkfkpaaDoor

/- The laying of a library function of this program. No condition. -/
namespace Go.Proofs.YtlalpenfgkfkpaaDoor
open Go.Shelf Go.Proofs
def sortTd_ren : Go.Shelf.Ren := ⟨fun | 6 => 53 | 15 => 81 | 14 => 80 | 28 => 105 | 29 => 78 | 20 => 97 | 21 => 98 | 22 => 99 | 23 => 100 | 24 => 101 | 25 => 102 | 26 => 103 | 27 => 104 | 46 => 116 | 47 => 117 | 48 => 118 | 49 => 119 | 50 => 120 | 57 => 124 | n => n, fun | 22 => 28 | 24 => 31 | 25 => 107 | 3 => 3 | 39 => 137 | 0 => 0 | 53 => 29 | 55 => 22 | 4 => 4 | 46 => 161 | 45 => 160 | 50 => 143 | 5 => 5 | 9 => 9 | 66 => 174 | 70 => 178 | 76 => 182 | 77 => 99 | n => n, fun | n => n⟩
theorem sortTd : Go.Proofs.SlLaysF0.n6 Tryd.prog sortTd_ren := {
  mixed := by kernel_rfl
  f6 := ⟨Tryd.f53.name, by decide, Tryd.func53.trans (congrArg some (by kernel_rfl))⟩
  f14 := ⟨Tryd.f80.name, by decide, Tryd.func80.trans (congrArg some (by kernel_rfl))⟩
  f15 := Tryd.func81.trans (congrArg some (by kernel_rfl))
  f20 := ⟨Tryd.f97.name, by decide, Tryd.func97.trans (congrArg some (by kernel_rfl))⟩
  f21 := ⟨Tryd.f98.name, by decide, Tryd.func98.trans (congrArg some (by kernel_rfl))⟩
  f22 := ⟨Tryd.f99.name, by decide, Tryd.func99.trans (congrArg some (by kernel_rfl))⟩
  f23 := ⟨Tryd.f100.name, by decide, Tryd.func100.trans (congrArg some (by kernel_rfl))⟩
  f24 := ⟨Tryd.f101.name, by decide, Tryd.func101.trans (congrArg some (by kernel_rfl))⟩
  f25 := ⟨Tryd.f102.name, by decide, Tryd.func102.trans (congrArg some (by kernel_rfl))⟩
  f26 := ⟨Tryd.f103.name, by decide, Tryd.func103.trans (congrArg some (by kernel_rfl))⟩
  f27 := ⟨Tryd.f104.name, by decide, Tryd.func104.trans (congrArg some (by kernel_rfl))⟩
  f28 := Tryd.func105.trans (congrArg some (by kernel_rfl))
  f29 := Tryd.func78.trans (congrArg some (by kernel_rfl))
  f46 := ⟨Tryd.f116.name, by decide, Tryd.func116.trans (congrArg some (by kernel_rfl))⟩
  f47 := Tryd.func117.trans (congrArg some (by kernel_rfl))
  f48 := Tryd.func118.trans (congrArg some (by kernel_rfl))
  f49 := ⟨Tryd.f119.name, by decide, Tryd.func119.trans (congrArg some (by kernel_rfl))⟩
  f50 := ⟨Tryd.f120.name, by decide, Tryd.func120.trans (congrArg some (by kernel_rfl))⟩
  f57 := ⟨Tryd.f124.name, by decide, Tryd.func124.trans (congrArg some (by kernel_rfl))⟩
  t0 := Tryd.underlying0
  a0 := Tryd.isAgg0
  z0 := Tryd.sizeOf0
  v0 := Tryd.zeroValue0
  t3 := Tryd.underlying3
  a3 := Tryd.isAgg3
  z3 := Tryd.sizeOf3
  v3 := Tryd.zeroValue3
  t4 := Tryd.underlying4
  a4 := Tryd.isAgg4
  z4 := Tryd.sizeOf4
  v4 := Tryd.zeroValue4
  t5 := Tryd.underlying5
  a5 := Tryd.isAgg5
  z5 := Tryd.sizeOf5
  v5 := Tryd.zeroValue5
  t9 := Tryd.underlying9
  a9 := Tryd.isAgg9
  z9 := Tryd.sizeOf9
  v9 := Tryd.zeroValue9
  t22 := Tryd.underlying28
  a22 := Tryd.isAgg28
  z22 := Tryd.sizeOf28
  v22 := Tryd.zeroValue28
  t25 := Tryd.underlying107
  a25 := Tryd.isAgg107
  z25 := Tryd.sizeOf107
  v25 := Tryd.zeroValue107
  t39 := Tryd.underlying137
  a39 := Tryd.isAgg137
  z39 := Tryd.sizeOf137
  v39 := Tryd.zeroValue137
  t45 := Tryd.underlying160
  a45 := Tryd.isAgg160
  z45 := Tryd.sizeOf160
  v45 := Tryd.zeroValue160
  t46 := Tryd.underlying161
  a46 := Tryd.isAgg161
  z46 := Tryd.sizeOf161
  v46 := Tryd.zeroValue161
  t50 := Tryd.underlying143
  a50 := Tryd.isAgg143
  z50 := Tryd.sizeOf143
  v50 := Tryd.zeroValue143
  t53 := Tryd.underlying29
  a53 := Tryd.isAgg29
  z53 := Tryd.sizeOf29
  v53 := Tryd.zeroValue29
  t55 := Tryd.underlying22
  a55 := Tryd.isAgg22
  z55 := Tryd.sizeOf22
  v55 := Tryd.zeroValue22
  t66 := Tryd.underlying174
  a66 := Tryd.isAgg174
  z66 := Tryd.sizeOf174
  v66 := Tryd.zeroValue174
  t70 := Tryd.underlying178
  a70 := Tryd.isAgg178
  z70 := Tryd.sizeOf178
  v70 := Tryd.zeroValue178
  t76 := Tryd.underlying182
  a76 := Tryd.isAgg182
  z76 := Tryd.sizeOf182
  v76 := Tryd.zeroValue182
  t77 := Tryd.underlying99
  a77 := Tryd.isAgg99
  z77 := Tryd.sizeOf99
  v77 := Tryd.zeroValue99 }
end Go.Proofs.YtlalpenfgkfkpaaDoor

/- slices.SortFunc over what is timed, by its deadline and birth. Conditions: the elements lie in an own row, with births apart. -/
namespace Go.Proofs.YtlalpenfgkfkpaaDoor
open Go.RowKit Go.Sort Go.Shelf
set_option maxRecDepth 100000
instance tdInh : Inhabited Td := ⟨⟨0, 0, 0⟩⟩
def tdC (x : Td) : List Value := [.int .u32 x.slot, .int .u64 x.dl, .int .u64 x.birth]
theorem lt_cfT (x y : Td) : ltOf cfT x y = befB x y := by
  unfold ltOf cfT befB
  rcases cmpN_cases x.dl y.dl with ⟨h, e⟩ | ⟨h, e⟩ | ⟨h, e⟩
  · rw [e]; simp [h]
  · rw [e]
    have h1 : ¬ x.dl < y.dl := by omega
    have h2 : ¬ x.dl = y.dl := by omega
    simp [h1, h2]
  · rw [e, if_pos rfl]
    rcases cmpN_cases x.birth y.birth with ⟨k, f⟩ | ⟨k, f⟩ | ⟨k, f⟩
    · rw [f]; simp [h, k]
    · rw [f]
      have h1 : ¬ x.birth < y.birth := by omega
      simp [h, h1]
    · rw [f]
      have h1 : ¬ x.birth < y.birth := by omega
      simp [h, h1]
theorem swo_cfT : SWO (ltOf cfT) where
  irrefl x := by rw [lt_cfT]; simp [befB]
  trans x y z h1 h2 := by
    rw [lt_cfT] at *
    rw [befB_iff] at *
    unfold bef at *
    omega
  ntrans x y z h1 h2 := by
    rw [lt_cfT] at *
    have n1 : ¬ bef x y := fun c => by rw [befB_iff.2 c] at h1; cases h1
    have n2 : ¬ bef y z := fun c => by rw [befB_iff.2 c] at h2; cases h2
    cases h3 : befB x z with
    | false => rfl
    | true =>
      rw [befB_iff] at h3
      unfold bef at *
      omega
theorem flatK_list (d : Array Td) : (flatK tdC 3 d).toList = d.toList.flatMap tdC := by
  have hl : (d.toList.flatMap tdC).length = d.size * 3 := by rw [flat_length tdC 3 (fun _ => rfl)]; simp
  refine List.ext_getElem? (fun t => ?_)
  by_cases ht : t < d.size * 3
  · have h1 := get_flatK tdC 3 d t ht
    have hi : t / 3 < d.size := by omega
    have hf := flat_get tdC 3 (fun _ => rfl) (t % 3) (by omega) d.toList (t / 3)
    rw [show t / 3 * 3 + t % 3 = t by omega] at hf
    rw [hf]
    have h2 : (flatK tdC 3 d).toList[t]? = some ((flatK tdC 3 d)[t]!) := by
      rw [Array.getElem?_toList, getElem!_pos (flatK tdC 3 d) t (by simpa using ht), Array.getElem?_eq_getElem]
    rw [h2, h1, Array.getElem?_toList, Array.getElem?_eq_getElem hi, getElem!_pos d (t / 3) hi]
    show some _ = (tdC d[t / 3])[t % 3]?
    have hm : t % 3 < 3 := by omega
    rw [getElem!_pos (tdC d[t / 3]) (t % 3) (by simpa [tdC] using hm), List.getElem?_eq_getElem]
  · rw [List.getElem?_eq_none (by simp; omega), List.getElem?_eq_none (by rw [hl]; omega)]
theorem isAgg_td : ∀ w, (isAgg 31).run Tryd.prog w = .ok true w := fun w => by kernel_rfl
theorem sizeOf_td : ∀ w, (Go.sizeOf 31).run Tryd.prog w = .ok 3 w := fun w => by kernel_rfl
theorem clos_lays (blk off size : Nat) (w : World) : CmpLays Tryd.prog 54 #[] tdC 3 cfT blk off size w :=
  fun _ _ _ _ x y => clos_ok x y _
/-- An own row of what is timed. -/
abbrev TdRow (w : World) (a : Option Addr) (c : Nat) (d : List Td) : Prop := w.ownsRow 0 31 3 (.slice a d.length c) d.length (d.flatMap tdC)
theorem heap_sort {w : World} {g m : Nat} {cur : Array Value} {T : TypeId} {F : Array Value} {os : Array Obj} (hg : w.heap[g]? = some (.cells cur T (0, 0))) :
    (grow (putRow id (Go.Sort.ahead w m) g 0 F) os).heap[g]? = some (.cells (putCells id 0 F cur) T (0, 0)) := by
  have hlt := lt_of_block hg
  show ((w.heap.modify g (onCells (putCells id 0 F))) ++ os)[g]? = _
  rw [Array.getElem?_append_left (by simpa using hlt), Array.getElem?_modify, if_pos rfl, hg]
  rfl
theorem mod_sort {w : World} {g m : Nat} {F : Array Value} {os : Array Obj} : Mod (fun k => k = g) w (grow (putRow id (Go.Sort.ahead w m) g 0 F) os) := by
  refine ⟨rfl, rfl, rfl, ?_, fun k hk hn => ?_⟩
  · show w.heap.size ≤ ((w.heap.modify g (onCells (putCells id 0 F))) ++ os).size
    simp
  · show ((w.heap.modify g (onCells (putCells id 0 F))) ++ os)[k]? = _
    rw [Array.getElem?_append_left (by simpa using hk), Array.getElem?_modify, if_neg (fun e => hn e.symm)]
theorem put_take {F cur : Array Value} {n : Nat} (hF : F.size = n) (hc : n ≤ cur.size) : (putCells id 0 F cur).toList.take n = F.toList := by
  refine List.ext_getElem? (fun t => ?_)
  rw [List.getElem?_take]
  by_cases ht : t < n
  · rw [if_pos ht, Array.getElem?_toList, Array.getElem?_toList]
    unfold putCells
    rw [Array.getElem?_mapIdx, Array.getElem?_eq_getElem (show t < cur.size by omega)]
    show some (if 0 ≤ t ∧ t < 0 + F.size then id F[t - 0]! else cur[t]) = _
    rw [if_pos ⟨Nat.zero_le _, by omega⟩, Array.getElem?_eq_getElem (show t < F.size by omega), Nat.sub_zero, getElem!_pos F t (by omega)]
    rfl
  · rw [if_neg ht, List.getElem?_eq_none (by simp; omega)]
theorem sort_ok {w : World} {a : Option Addr} {c : Nat} {d : List Td} (hr : TdRow w a c d) (hl : d.length < 4611686018427387904) (hu : ∀ x ∈ d, ∀ y ∈ d, x.birth = y.birth → x = y) (hnd : d.Nodup) :
    Calls Tryd.prog 53 #[.slice a d.length c, .func (.func 54) #[] #[]] w fun e w' => e = .returned (.tuple #[]) ∧ ∃ d' : List Td, d'.Pairwise bef ∧ d'.Perm d ∧ d'.length = d.length ∧ TdRow w' a c d' ∧ Mod (fun k => (Value.slice a d.length c).ownBlock = some k) w w' := by
  rcases Nat.eq_zero_or_pos d.length with h0 | h0
  · have hd : d = [] := List.length_eq_zero_iff.1 h0
    subst hd
    refine (AnyF.slices_SortFunc_none sortTd a c (.func (.func 54) #[] #[]) w).mono ?_
    rintro e w' ⟨rfl, rfl⟩
    exact ⟨rfl, [], List.Pairwise.nil, List.Perm.refl _, rfl, hr, Mod.refl _ _⟩
  · obtain ⟨g, c', hv, hnc, hlt, hcell, hfz, cur, hg, hcs, ht, hm⟩ := owns_at hr h0
    injection hv with ha hn hc
    subst ha hc
    have eg : ∀ args w, (callFunc 54 args).run Tryd.prog w = .ok (.enter 54 args) w := enters_of Tryd.func54 (by kernel_rfl) rfl
    have hH : HoldsK tdC 3 w g 0 d.toArray := fun j hj => by
      rw [size_flatK] at hj
      rw [Nat.zero_add]
      refine ⟨hcell j _ ?_, hfz j⟩
      rw [← show (flatK tdC 3 d.toArray).toList = d.flatMap tdC from flatK_list d.toArray, Array.getElem?_toList, getElem!_pos (flatK tdC 3 d.toArray) j (by rw [size_flatK]; exact hj), Array.getElem?_eq_getElem]
      rfl
    have hs := AnyQ.slices_SortFunc sortTd 3 isAgg_td sizeOf_td tdC (fun _ => rfl) (fun x v hv => by simp [tdC] at hv; rcases hv with rfl | rfl | rfl <;> rfl) cfT swo_cfT 54 #[] g 0 c d.toArray w eg (clos_lays g 0 _ w) hH hlt (by simpa using hl)
    refine Calls.mono hs ?_
    rintro e w' ⟨rfl, d', m, os, ⟨p1, p2, p3⟩, hso, rfl⟩
    have hsz : d'.size = d.length := by simpa using p1
    have e1 : d'.extract 0 d.toArray.size = d' := by rw [← p1]; exact Array.extract_size
    rw [e1, Array.extract_size] at p3
    have hp : d'.toList.Perm d := p3
    have hF : (flatK tdC 3 d').size = d.length * 3 := by rw [size_flatK, hsz]
    refine ⟨rfl, d'.toList, ?_, hp, by simpa using hsz, ?_, ?_⟩
    · rw [List.pairwise_iff_getElem]
      intro i j hi hj hij
      have hi' : i < d'.size := by simpa using hi
      have hj' : j < d'.size := by simpa using hj
      have h1 := hso i j (Nat.zero_le _) hij (by simpa [hsz] using hj')
      rw [getElem!_pos d' i hi', getElem!_pos d' j hj', lt_cfT] at h1
      have hne : d'[i].birth ≠ d'[j].birth := fun e => by
        have m1 : d'[i] ∈ d := hp.mem_iff.1 (by simp)
        have m2 : d'[j] ∈ d := hp.mem_iff.1 (by simp)
        have heq := hu _ m1 _ m2 e
        have hnd' := hp.nodup_iff.2 hnd
        exact (List.pairwise_iff_getElem.1 hnd') i j hi hj hij (by simpa using heq)
      rcases (show bef d'[i] d'[j] ∨ bef d'[j] d'[i] by unfold bef; omega) with k | k
      · simpa using k
      · rw [befB_iff.2 k] at h1; cases h1
    · have hlen : d'.toList.length = d.length := by simpa using hsz
      show World.ownsRow _ 0 _ 3 (.slice (some ⟨g, 0, none⟩) d'.toList.length c) d'.toList.length (d'.toList.flatMap tdC)
      rw [hlen]
      refine ⟨by rw [flat_length tdC 3 (fun _ => rfl), hlen], .inr ⟨g, c, putCells id 0 (flatK tdC 3 d') cur, rfl, Nat.zero_le _, heap_sort hg, hnc, hm, ?_, ?_⟩⟩
      · rw [← hcs]; simp [putCells]
      · rw [put_take hF (by rw [hcs]; exact Nat.mul_le_mul_right 3 hnc), flatK_list]
    · exact Mod.mono (mod_sort (g := g) (F := flatK tdC 3 d') (m := m) (os := os)) (fun k _ e => by rw [e]; rfl)
end Go.Proofs.YtlalpenfgkfkpaaDoor
