/- Lemmas and contracts of functions, strung together out of 1 texts. No condition. -/
import Derived.Test.YtapplindfijngaaGreatJPfCompactDicts23
import Derived.Test.YtapplindfijngaaGreatJPfCompactDicts20
import Derived.Test.YtapplindfijngaaGreatJPfCompactDicts9
/- dict: Remove (plain law and contract). -/
namespace Go.Proofs.YtapplindfijngaaGreat
open Go.RowKit Go.Shelf
set_option maxRecDepth 100000

/-! ### the plain law -/
theorem keyL_set {L : List (Option Ent)} {s t : Nat} (h : t ≠ s) : keyL (L.set s none) t = keyL L t := by
  unfold keyL
  rw [List.getElem?_set_ne (fun e => h e.symm)]
theorem liveS_set (L : List (Option Ent)) (s t : Nat) : liveS (L.set s none) t ↔ t ≠ s ∧ liveS L t := by
  unfold liveS
  by_cases h : t = s
  · subst h
    simp only [ne_eq, not_true_eq_false, false_and, iff_false]
    rintro ⟨e, he⟩
    rw [List.getElem?_set] at he
    simp at he
  · rw [List.getElem?_set_ne (fun e => h e.symm)]
    simp [h]
theorem keys_set {L : List (Option Ent)} (h : KeysOk L) (s : Nat) : KeysOk (L.set s none) := by
  intro a b e f ha hb hk
  have h1 := (liveS_set L s a).1 ⟨e, ha⟩
  have h2 := (liveS_set L s b).1 ⟨f, hb⟩
  rw [List.getElem?_set_ne (fun e => h1.1 e.symm)] at ha
  rw [List.getElem?_set_ne (fun e => h2.1 e.symm)] at hb
  exact h a b e f ha hb hk
theorem liveOf_set : ∀ {L : List (Option Ent)} {s : Nat} {x : Ent}, L[s]? = some (some x) → liveOf (L.set s none) + 1 = liveOf L
  | [], s, x, h => by simp at h
  | o :: L, 0, x, h => by
    simp at h; subst h
    simp [liveOf]
  | o :: L, s + 1, x, h => by
    have := liveOf_set (L := L) (s := s) (x := x) (by simpa using h)
    simp only [List.set_cons_succ, liveOf, List.countP_cons] at this ⊢
    omega
/-- What an index is behind a slot number that was taken out; behind the plan. -/
def takeM (H : Nat → Nat) (Gs : List Grp) (s : Nat) : List Grp := match findM Gs (H s) (fun x => x == s) with
  | some x => delG Gs x.1 x.2
  | none => Gs
def remM (H H' : Nat → Nat) (Gs : List Grp) (s : Nat) : List Grp := doG H' (planR (takeM H Gs s).length (usedN (takeM H Gs s))) (takeM H Gs s)
theorem Keeps.remove {seed : Nat} {same : Bool} {L : List (Option Ent)} {Gs : List Grp} (h : Keeps seed same L Gs) {s : Nat} {x : Ent} (hx : L[s]? = some (some x)) :
    (∃ i j, findM Gs (sumL seed same L s) (fun y => y == s) = some (i, j) ∧ takeM (sumL seed same L) Gs s = delG Gs i j) ∧ IxOk (takeM (sumL seed same L) Gs s) ∧
      ((planR (takeM (sumL seed same L) Gs s).length (usedN (takeM (sumL seed same L) Gs s))).2 = true → Pow (planR (takeM (sumL seed same L) Gs s).length (usedN (takeM (sumL seed same L) Gs s))).1 ∧ usedN (takeM (sumL seed same L) Gs s) ≤ 8 * (planR (takeM (sumL seed same L) Gs s).length (usedN (takeM (sumL seed same L) Gs s))).1) ∧
      Keeps seed same (L.set s none) (remM (sumL seed same L) (sumL seed same (L.set s none)) Gs s) := by
  obtain ⟨i, j, h1, h2⟩ := h.holds.find_some (s := s) ⟨x, hx⟩
  have ht : takeM (sumL seed same L) Gs s = delG Gs i j := by unfold takeM; rw [h1]
  obtain ⟨c1, c2, c3⟩ := del_counts h.holds.ok h2
  have h3 := h.holds.del h2
  have h4 : Holds (sumL seed same (L.set s none)) (liveS (L.set s none)) (delG Gs i j) :=
    (h3.congr (fun t ht => by unfold sumL; rw [keyL_set ht.1])).of_iff (fun t => (liveS_set L s t).symm)
  unfold remM
  rw [ht]
  obtain ⟨p1, p2, p3⟩ := planR_ok (g := (delG Gs i j).length) (live := usedN (delG Gs i j)) c3.pow
  have hle := used_le8 c3
  have hu : usedN (delG Gs i j) ≤ 8 * (planR (delG Gs i j).length (usedN (delG Gs i j))).1 := by
    cases hb : (planR (delG Gs i j).length (usedN (delG Gs i j))).2 with
    | true => exact Nat.le_of_lt (p2 hb)
    | false => rw [p3 hb]; exact hle
  obtain ⟨k1, k2, k3⟩ := h4.do p1 hu p3
  refine ⟨⟨i, j, h1, rfl⟩, c3, fun _ => ⟨p1, hu⟩, k1, keys_set h.keys s, ?_⟩
  rw [k2]
  have := liveOf_set hx
  have := h.used
  omega

/-! ### the contract -/
/-- A block of four cells is written whole. -/
theorem fin4 {X Y : World} {b : Nat} {u0 u1 u2 u3 v0 v1 v2 v3 : Value} {T : TypeId} (h : X.heap[b]? = some (.cells #[u0, u1, u2, u3] T (0, 0)))
    (hY : (((X.setCell ⟨b, 0, none⟩ v0).setCell ⟨b, 1, none⟩ v1).setCell ⟨b, 2, none⟩ v2).setCell ⟨b, 3, none⟩ v3 = Y) : Mod (fun k => k = b) X Y ∧ Y.heap[b]? = some (.cells #[v0, v1, v2, v3] T (0, 0)) := by
  subst hY
  refine ⟨((((Mod.set1 b 0 v0).trans (Mod.set1 b 1 v1)).trans (Mod.set1 b 2 v2)).trans (Mod.set1 b 3 v3)), ?_⟩
  have h1 := heap_set1 (j := 0) (v := v0) h
  have h2 := heap_set1 (j := 1) (v := v1) h1
  have h3 := heap_set1 (j := 2) (v := v2) h2
  have h4 := heap_set1 (j := 3) (v := v3) h3
  simpa using h4
section
variable {w w' : World} {D S : Nat → Prop} {d seed : Nat} {same : Bool} {L : List (Option Ent)} {Gs : List Grp}
def dremPost (w : World) (D : Nat → Prop) (d seed : Nat) (same : Bool) (L : List (Option Ent)) (Gs : List Grp) (s : Nat) (x : Ent) (e : Ending) (w' : World) : Prop :=
  ∃ a n c, e = .returned (.tuple #[.agg #[.string x.key, .slice a n c, .int .u64 x.dl, .int .u64 x.birth], .int .i64 0]) ∧ BytesAt w' (.slice a n c) (bytesOf x.val) ∧ Fresh w (.slice a n c) ∧
    ∃ D', DictAt w' D' d seed same (L.set s none) (remM (sumL seed same L) (sumL seed same (L.set s none)) Gs s) ∧ Mod D w w' ∧ Grew D D' w
def drem0 (w : World) (e : Ending) (w' : World) : Prop := e = .returned (.tuple #[.agg #[.string ⟨#[]⟩, .slice none 0 0, .int .u64 0, .int .u64 0], .int .i64 9]) ∧ Pure w w'
set_option maxHeartbeats 1000000 in
theorem drem_miss (h : DictAt w D d seed same L Gs) {s : Nat} (hs : s ≤ 4294967295) (hx : hasL L s = false) : Calls Tryz.prog 16 #[dPtr d, .int .u32 s] w (drem0 w) := by
  obtain ⟨q, p, sv, Dl, h1, h2, h3⟩ := h
  have hp0 : Pure w (w.alloc (.cells #[.string ⟨#[]⟩, .slice none 0 0, .int .u64 0, .int .u64 0] 42)) := (Mod.refl _ w).alloc _
  have z4 := heap_new (w := w) (o := .cells #[.string ⟨#[]⟩, .slice none 0 0, .int .u64 0, .int .u64 0] 42 (0, 0)) rfl
  have HZ := Lib.hid (dzero_ok (h1.pure hp0))
  have HK := Lib.hid (Key_any (h1.log.pure hp0) s hs)
  have e1 : noL L s = 9 := by unfold noL; rw [hx]; rfl
  rw [e1] at HK
  have hb := (h1.pure hp0).box
  have HP := Lib.hid hp0
  have hdb : d < w.heap.size := lt_of_block h1.box
  clear h1 h2 h3 hp0 e1 hx
  generalize keyL L s = ks at *
  go_enter Tryz.func16, Tryz.ntmps16
  go_upto_region 1 with fail
  generalize w.alloc (.cells #[.string ⟨#[]⟩, .slice none 0 0, .int .u64 0, .int .u64 0] 42) = W1 at *
  obtain ⟨b4, hb4⟩ : ∃ b, w.heap.size = b := ⟨_, rfl⟩
  rw [hb4] at z4 hdb ⊢
  have HB := Lib.hid hb4
  clear hb4
  have hb_0 := cell_of_row _ _ 0 _ _ _ hb; have hb_1 := cell_of_row _ _ 1 _ _ _ hb; have hb_2 := cell_of_row _ _ 2 _ _ _ hb; have hb_3 := cell_of_row _ _ 3 _ _ _ hb; have hb_f := (fun j => frozen_of_row _ _ j _ _ hb); have hb_l := lt_of_block hb; simp at hb_0 hb_1 hb_2 hb_3; have H_hb := Lib.hid hb; clear hb
  have z4_0 := cell_of_row _ _ 0 _ _ _ z4; have z4_1 := cell_of_row _ _ 1 _ _ _ z4; have z4_2 := cell_of_row _ _ 2 _ _ _ z4; have z4_3 := cell_of_row _ _ 3 _ _ _ z4; have z4_f := (fun j => frozen_of_row _ _ j _ _ z4); have z4_l := lt_of_block z4; simp at z4_0 z4_1 z4_2 z4_3; have H_z4 := Lib.hid z4; clear z4
  go_wp2_with (first
    | (go_at_call 48; refine Calls.mono HZ.out ?_; rintro e w' ⟨rfl, rfl⟩)
    | (go_at_call 56; refine Calls.mono HK.out ?_; rintro e w' ⟨rfl, rfl⟩))
  obtain ⟨Y, hY⟩ : ∃ Y, (((W1.setCell ⟨b4, 0, none⟩ (.string ⟨#[]⟩)).setCell ⟨b4, 1, none⟩ (.slice none 0 0)).setCell ⟨b4, 2, none⟩ (.int .u64 0)).setCell ⟨b4, 3, none⟩ (.int .u64 0) = Y := ⟨_, rfl⟩
  obtain ⟨g1, g2⟩ := fin4 H_z4.out hY
  rw [hY]
  have x0 := cell_of_row _ _ 0 _ _ _ g2; have x1 := cell_of_row _ _ 1 _ _ _ g2; have x2 := cell_of_row _ _ 2 _ _ _ g2; have x3 := cell_of_row _ _ 3 _ _ _ g2
  simp at x0 x1 x2 x3
  exact bodyPost_ret (v := .tuple #[.agg #[.string ⟨#[]⟩, .slice none 0 0, .int .u64 0, .int .u64 0], .int .i64 9]) (by simp [results, Tryz.results16, go_sem, x0, x1, x2, x3]) rfl ⟨rfl, HP.out.then g1 (fun i hi e => by have := HB.out; omega)⟩
end
end Go.Proofs.YtapplindfijngaaGreat
