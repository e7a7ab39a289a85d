/- Lemmas and contracts of functions, strung together out of 7 texts. No condition. -/
import Derived.Test.YtlalpenfgkfkpaaDoorJPfDueNil9
import Derived.Test.YtlalpenfgkfkpaaDoorJPfDueNil7
import Derived.Test.YtlalpenfgkfkpaaDoorJPfDueNil8
import Derived.WalkSpells
/- The reference of cascade: Out, Advance. Conditions: the lists lie in memory. -/
namespace Go.Proofs.YtlalpenfgkfkpaaDoor
open Go.RowKit Go.Shelf
set_option maxRecDepth 100000
set_option maxHeartbeats 2000000 in
theorem rout_ok {w : World} {a : Option Addr} {n c i : Nat} {L : List Td} (h : ReadAt w (.slice a n c) 3 (L.flatMap tdC)) (hn : L.length = n) (hl : n ≤ 4194304) (hnc : n ≤ c) (hi : i < n) :
    Calls Tryd.prog 92 #[.slice a n c, .int .i64 i] w fun e w' => ∃ a' c', e = .returned (.slice a' (n - 1) c') ∧ TdRow w' a' c' (L.eraseIdx i) ∧ FreshV w (.slice a' (n - 1) c') ∧ Pure w w' := by
  cases a with
  | none =>
    obtain ⟨_, _, _, e, _, _, h0, _⟩ := h
    injection e with e1 e2 e3
    have := h0 e1.symm
    omega
  | some ad =>
  obtain ⟨k, hk⟩ : ∃ k, i + 1 = k := ⟨_, rfl⟩
  have hkn : k ≤ n := by omega
  have hpre := rd_pre h (j := i) (by omega)
  have hsuf := rd_sufI h (j := k) hkn hnc
  have hpl : (L.take i).length = i := by rw [List.length_take, hn]; omega
  have hsl : (L.drop k).length = n - k := by rw [List.length_drop, hn]
  have her : (L.eraseIdx i).flatMap tdC = (L.take i).flatMap tdC ++ (L.drop k).flatMap tdC := by
    rw [List.eraseIdx_eq_take_drop_succ, List.flatMap_append, hk]
  have hel : (L.eraseIdx i).length = n - 1 := by rw [List.length_eraseIdx, hn, if_pos hi]
  obtain ⟨sv, hsv⟩ : ∃ v, (if c = k then some ad else some (ad.add (k * 3))) = v := ⟨_, rfl⟩
  rw [hsv] at hsuf
  have HSuf := Lib.hid hsuf; have HPre := Lib.hid hpre; have HPL := Lib.hid hpl; have HSL := Lib.hid hsl; have HSV := Lib.hid hsv; have HER := Lib.hid her; have HEL := Lib.hid hel
  obtain ⟨j0, hj, jz0, jz1, jz2⟩ := info_parts info_td
  have wi : IntKind.i64.wrap ((i : Int) + 1) = (k : Int) := by rw [← hk]; exact IntWalk.i64_in _ (by omega)
  have c1 : (i : Int) ≤ (c : Int) := by omega
  have c2 : (k : Int) ≤ (n : Int) := by omega
  have c3 : (i : Int) ≤ (n : Int) := by omega
  have c4 : (k : Int) ≤ (c : Int) := by omega
  have HK := Lib.hid hk
  clear h hpre hsuf hpl hsl hsv hn hk her hel
  go_enter Tryd.func92, Tryd.ntmps92
  go_upto_region 1 with fail
  refine wp_region_held_drew (S := fun _ => True) (by kernel_rfl) trivial (fun hHeld => ?_)
  ((refine wpAnyH_take (i := 0) (v := ?_) rfl (by kernel_rfl) (by kernel_rfl) (by kernel_rfl) (fun _ _ _ h => h) (Yields.yieldsIf (Or.inl ⟨by rfl, ?_⟩)) hHeld ?_; rotate_left 1; focus (intro w; go_simp; try with_reducible rfl)); try simp only [Act.put, List.getElem_toArray, List.getElem_cons_zero, List.getElem_cons_succ, List.setIfInBounds_toArray, List.set_cons_zero, List.set_cons_succ])
  ((refine wpAnyH_take (i := 1) (v := ?_) rfl (by kernel_rfl) (by kernel_rfl) (by kernel_rfl) (fun _ _ _ h => h) (Yields.yieldsIf (Or.inl ⟨by rfl, ?_⟩)) hHeld ?_; rotate_left 1; focus (intro w; go_simp; try with_reducible rfl)); try simp only [Act.put, List.getElem_toArray, List.getElem_cons_zero, List.getElem_cons_succ, List.setIfInBounds_toArray, List.set_cons_zero, List.set_cons_succ])
  ((refine wpAnyH_take (i := 2) (v := ?_) rfl (by kernel_rfl) (by kernel_rfl) (by kernel_rfl) (fun _ _ _ h => h) (Yields.yieldsIf (Or.inl ⟨by rfl, ?_⟩)) hHeld ?_; rotate_left 1; focus (intro w; go_simp; try with_reducible rfl)); try simp only [Act.put, List.getElem_toArray, List.getElem_cons_zero, List.getElem_cons_succ, List.setIfInBounds_toArray, List.set_cons_zero, List.set_cons_succ])
  ((refine wpAnyH_take (i := 4) (v := ?_) rfl (by kernel_rfl) (by kernel_rfl) (by kernel_rfl) (fun _ _ _ h => h) (Yields.yieldsIf (Or.inl ⟨by rfl, ?_⟩)) hHeld ?_; rotate_left 1; focus (intro w; go_simp; try with_reducible rfl)); try simp only [Act.put, List.getElem_toArray, List.getElem_cons_zero, List.getElem_cons_succ, List.setIfInBounds_toArray, List.set_cons_zero, List.set_cons_succ])
  ((refine wpAnyH_take (i := 5) (v := ?_) rfl (by kernel_rfl) (by kernel_rfl) (by kernel_rfl) (fun _ _ _ h => h) (Yields.yieldsIf (Or.inl ⟨by rfl, ?_⟩)) hHeld ?_; rotate_left 1; focus (intro w; go_simp; try with_reducible rfl)); try simp only [Act.put, List.getElem_toArray, List.getElem_cons_zero, List.getElem_cons_succ, List.setIfInBounds_toArray, List.set_cons_zero, List.set_cons_succ])
  ((refine wpAnyH_take (i := 6) (v := ?_) rfl (by kernel_rfl) (by kernel_rfl) (by kernel_rfl) (fun _ _ _ h => h) (Yields.yieldsIf (Or.inl ⟨by rfl, ?_⟩)) hHeld ?_; rotate_left 1; focus (intro w; go_simp; try with_reducible rfl)); try simp only [Act.put, List.getElem_toArray, List.getElem_cons_zero, List.getElem_cons_succ, List.setIfInBounds_toArray, List.set_cons_zero, List.set_cons_succ])
  ((refine wpAnyH_take (i := 7) (v := ?_) rfl (by kernel_rfl) (by kernel_rfl) (by kernel_rfl) (fun _ _ _ h => h) (Yields.yieldsIf (Or.inl ⟨by rfl, ?_⟩)) hHeld ?_; rotate_left 1; focus (intro w; go_simp; try with_reducible rfl)); try simp only [Act.put, List.getElem_toArray, List.getElem_cons_zero, List.getElem_cons_succ, List.setIfInBounds_toArray, List.set_cons_zero, List.set_cons_succ])
  rw [HSV.out]
  have hpq : Pure w w.drew := (Mod.refl _ _).drew
  refine wpAnyH_ready (rs := [3]) (by kernel_rfl) (by simp) ?_
  refine AllReadyH.cons rfl (fun K hK => ?_) AllReadyH.nil
  refine step_append_read _ (by rfl) _ _ 28 (by rfl) 31 j0 _ 3 24 Tryd.underlying28 hj jz0 jz1 jz2 rfl (by decide) (.slice none 0 0) 0 [] (by rfl) (World.ownsRow_nil _ _ _ _) (.slice (some ad) i c) _ i (by rfl) (HPre.out.frame hpq (fun _ _ h => h)) (by rw [flat_length tdC 3 (fun _ => rfl), HPL.out]) (by unfold maxLen; omega) (by omega) ?_
  intro a8 c8 w7 hr8 hg8 hb8
  rw [Nat.zero_add] at hr8 hb8 ⊢
  rw [List.nil_append] at hr8
  have p7 : Pure w w7 := hpq.trans (Mod.of_grown hg8 (fun k e _ => by cases e))
  refine hK.out _ _ trivial (fun hHeld => ?_)
  refine wpAnyH_ready (rs := [8]) (by kernel_rfl) (by simp) ?_
  refine AllReadyH.cons rfl (fun K' hK' => ?_) AllReadyH.nil
  refine step_append_read _ (by rfl) _ _ 28 (by rfl) 31 j0 _ 3 24 Tryd.underlying28 hj jz0 jz1 jz2 rfl (by decide) (.slice a8 i c8) i _ (by rfl) hr8 (.slice sv (n - k) (c - k)) _ (n - k) (by rfl) (HSuf.out.frame p7 (fun _ _ h => h)) (by rw [flat_length tdC 3 (fun _ => rfl), HSL.out]) (by unfold maxLen; omega) (by omega) ?_
  intro a9 c9 w8 hr9 hg9 hb9
  refine hK'.out _ _ trivial (fun hHeld => ?_)
  ((refine wpAnyH_take (i := 9) (v := ?_) rfl (by kernel_rfl) (by kernel_rfl) (by kernel_rfl) (fun _ _ _ h => h) (Yields.yieldsIf (Or.inl ⟨by rfl, ?_⟩)) hHeld ?_; rotate_left 1; focus (intro w; go_simp; try with_reducible rfl)); try simp only [Act.put, List.getElem_toArray, List.getElem_cons_zero, List.getElem_cons_succ, List.setIfInBounds_toArray, List.set_cons_zero, List.set_cons_succ])
  refine wpAnyH_done (by kernel_rfl) ?_ _
  have hm : i + (n - k) = n - 1 := by have := HK.out; omega
  rw [hm] at hr9 hb9 ⊢
  have h8f : ∀ g, (Value.slice a8 i c8).ownBlock = some g → w.heap.size ≤ g := fun g hg => by
    rcases hb8 with e | e
    · rw [e] at hg; cases hg
    · rw [e] at hg; injection hg with hg; have := hpq.size; omega
  have p8 : Pure w w8 := p7.then (Mod.of_grown (S := fun k' => (Value.slice a8 i c8).ownBlock = some k') hg9 (fun k e _ => e)) (fun k hk e => by have := h8f k e; omega)
  have hrow : TdRow w8 a9 c9 (L.eraseIdx i) := by
    show World.ownsRow _ 0 _ 3 (.slice a9 (L.eraseIdx i).length c9) (L.eraseIdx i).length ((L.eraseIdx i).flatMap tdC)
    rw [HEL.out, HER.out]
    exact hr9
  have hfin : FreshV w (.slice a9 (n - 1) c9) := fun g hg => by
    rcases hb9 with e | e
    · exact h8f g (e ▸ hg)
    · rw [e] at hg; injection hg with hg; have := p7.size; omega
  have HF := Lib.hid hfin; have HROW := Lib.hid hrow; have HP8 := Lib.hid p8
  clear hHeld hr9 hg9 hb9 h8f p8 hrow hfin hr8 hg8 hb8 p7 hpq hm
  go_wp2
  refine bodyPost_ret (v := .slice a9 (n - 1) c9) (by simp [results, Tryd.results92, go_sem]) rfl ⟨a9, c9, rfl, HROW.out, HF.out, HP8.out⟩
end Go.Proofs.YtlalpenfgkfkpaaDoor

/- The reference of cascade: Advance. Conditions: the list is read. Printed by wip/gen_rce.py. -/
namespace Go.Proofs.YtlalpenfgkfkpaaDoor
open Go.RowKit Go.Shelf
set_option maxRecDepth 100000
theorem tw_gen {L : List Td} {p : Td → Bool} {k : Nat} (h1 : ∀ i y, i < k → L[i]? = some y → p y = true) (h2 : ∀ y, L[k]? = some y → p y = false) (hk : k ≤ L.length) : L.take k = L.takeWhile p ∧ L.drop k = L.dropWhile p := by
  induction L generalizing k with
  | nil =>
    have : k = 0 := by simpa using hk
    subst this
    exact ⟨rfl, rfl⟩
  | cons a L ih =>
    cases k with
    | zero =>
      have := h2 a rfl
      simp [this]
    | succ k =>
      have := h1 0 a (by omega) rfl
      obtain ⟨i1, i2⟩ := ih (k := k) (fun i y hi hy => h1 (i + 1) y (by omega) hy) (fun y hy => h2 y hy) (by simpa using hk)
      simp [this, i1, i2]
theorem radv_no {w : World} {a : Option Addr} {n c now tt : Nat} (ht : tt < now) : Calls Tryd.prog 21 #[whV now a n c, .int .u64 tt] w fun e w' => e = .returned (.tuple #[whV now a n c, .slice none 0 0, .int .i64 3]) ∧ Pure w w' := by
  unfold whV
  have hlt : (tt : Int) < (now : Int) := by omega
  have hbx := (Mod.refl (fun _ => False) (w.alloc (.cells #[.int .u64 now, .slice a n c] 45))).alloc (.cells #[.int .u64 0, .slice none 0 0] 45)
  have hal : Pure w ((w.alloc (.cells #[.int .u64 now, .slice a n c] 45)).alloc (.cells #[.int .u64 0, .slice none 0 0] 45)) := ((Mod.refl _ w).alloc _).trans hbx
  have h2 := hbx.heap (fun h => h) (heap_new (w := w) (o := .cells #[.int .u64 now, .slice a n c] 45 (0, 0)) rfl)
  have h4 : ((w.alloc (.cells #[.int .u64 now, .slice a n c] 45)).alloc (.cells #[.int .u64 0, .slice none 0 0] 45)).heap[w.heap.size + 1]? = some (.cells #[.int .u64 0, .slice none 0 0] 45 (0, 0)) := heap_new (by simp)
  have HAL := Lib.hid hal
  clear hbx hal
  go_enter Tryd.func21, Tryd.ntmps21
  go_upto_region 1 with fail
  generalize ((w.alloc (.cells #[.int .u64 now, .slice a n c] 45)).alloc (.cells #[.int .u64 0, .slice none 0 0] 45)) = W1 at *
  obtain ⟨b, hb⟩ : ∃ b, w.heap.size = b := ⟨_, rfl⟩
  rw [hb] at h2 h4 ⊢
  have HB := Lib.hid hb
  clear hb
  have h2_0 := cell_of_row _ _ 0 _ _ _ h2; have h2_1 := cell_of_row _ _ 1 _ _ _ h2; have h2_f := (fun j => frozen_of_row _ _ j _ _ h2); have h2_l := lt_of_block h2; simp at h2_0 h2_1; have H_h2 := Lib.hid h2; clear h2
  have h4_0 := cell_of_row _ _ 0 _ _ _ h4; have h4_1 := cell_of_row _ _ 1 _ _ _ h4; have h4_f := (fun j => frozen_of_row _ _ j _ _ h4); have h4_l := lt_of_block h4; simp at h4_0 h4_1; have H_h4 := Lib.hid h4; clear h4
  go_wp2
  refine bodyPost_ret (v := .tuple #[.agg #[.int .u64 now, .slice a n c], .slice none 0 0, .int .i64 3]) (by simp [results, Tryd.results21, go_sem, h2_0, h2_1, h2_l, h4_0, h4_1, h4_l]) rfl ⟨rfl, ?_⟩
  exact HAL.out.then (Mod.set2 (b + 1) 0 1 _ _) (fun k hk e => by have := HB.out; omega)
theorem whbox {w : World} {b : Nat} {x y : Value} {T : Nat} (h : w.heap[b]? = some (.cells #[x, y] T (0, 0))) : w.cell? ⟨b, 0, none⟩ = some x ∧ w.cell? ⟨b, 1, none⟩ = some y := ⟨by rw [cell_of_row _ _ 0 _ _ _ h]; rfl, by rw [cell_of_row _ _ 1 _ _ _ h]; rfl⟩
set_option maxHeartbeats 2000000 in
theorem radv_some {w : World} {ad : Addr} {n c now tt : Nat} {L : List Td} (h : ReadAt w (.slice (some ad) n c) 3 (L.flatMap tdC)) (hn : L.length = n) (hl : n ≤ 4194304) (hnc : n ≤ c) (ht : now ≤ tt) :
    Calls Tryd.prog 21 #[whV now (some ad) n c, .int .u64 tt] w fun e w' => ∃ a1 c1 a2 c2, e = .returned (.tuple #[whV tt a1 (restL tt L).length c1, .slice a2 (dueL tt L).length c2, .int .i64 0]) ∧ TdRow w' a1 c1 (restL tt L) ∧ TdRow w' a2 c2 (dueL tt L) ∧ FreshV w (.slice a1 (restL tt L).length c1) ∧ FreshV w (.slice a2 (dueL tt L).length c2) ∧ Pure w w' := by
  unfold whV
  obtain ⟨j0, hj, jz0, jz1, jz2⟩ := info_parts info_td
  have hlt0 : ¬ (tt : Int) < (now : Int) := by omega
  have hbx := (Mod.refl (fun _ => False) (w.alloc (.cells #[.int .u64 now, .slice (some ad) n c] 45))).alloc (.cells #[.int .u64 0, .slice none 0 0] 45)
  have hal : Pure w ((w.alloc (.cells #[.int .u64 now, .slice (some ad) n c] 45)).alloc (.cells #[.int .u64 0, .slice none 0 0] 45)) := ((Mod.refl _ w).alloc _).trans hbx
  have h2 := hbx.heap (fun h => h) (heap_new (w := w) (o := .cells #[.int .u64 now, .slice (some ad) n c] 45 (0, 0)) rfl)
  have h4 : ((w.alloc (.cells #[.int .u64 now, .slice (some ad) n c] 45)).alloc (.cells #[.int .u64 0, .slice none 0 0] 45)).heap[w.heap.size + 1]? = some (.cells #[.int .u64 0, .slice none 0 0] 45 (0, 0)) := heap_new (by simp)
  have HR := Lib.hid (h.frame hal (fun _ _ h => h)); have HN := Lib.hid hn
  have HAL := Lib.hid hal
  clear h hn hbx hal
  go_enter Tryd.func21, Tryd.ntmps21
  go_upto_region 4 with fail
  generalize ((w.alloc (.cells #[.int .u64 now, .slice (some ad) n c] 45)).alloc (.cells #[.int .u64 0, .slice none 0 0] 45)) = W1 at *
  obtain ⟨b, hb⟩ : ∃ b, w.heap.size = b := ⟨_, rfl⟩
  rw [hb] at h2 h4 ⊢
  obtain ⟨b', hb'⟩ : ∃ b', b + 1 = b' := ⟨_, rfl⟩
  rw [hb'] at h4 ⊢
  have HB := Lib.hid hb; have HB' := Lib.hid hb'
  clear hb hb'
  obtain ⟨x0, x1⟩ := whbox h2
  have H4 := Lib.hid h4
  clear h2 h4
  go_loopw [7] (fun v7 wr => ∃ k : Nat, v7 = .int .i64 (k : Nat) ∧ k ≤ n ∧ W1 = wr ∧ ∀ i y, i < k → L[i]? = some y → decide (y.dl ≤ tt) = true) (fun v7 _ => n - (intOf v7).toNat)
  case atStart => exact ⟨0, rfl, Nat.zero_le _, rfl, fun i y hi => by omega⟩
  case round =>
    obtain ⟨k, rfl, hk, rfl, hall⟩ := hrel
    have HA := Lib.hid hall
    clear hall
    by_cases hlt : k < n
    · have hlt' : (k : Int) < (n : Int) := by omega
      have k0 : (0 : Int) ≤ (k : Int) := by omega
      have wk : IntKind.i64.wrap ((k : Int) + 1) = (k : Int) + 1 := IntWalk.i64_in _ (by omega)
      have d1 : decide (k < n) = true := decide_eq_true hlt
      obtain ⟨y, hy⟩ : ∃ y, L[k]? = some y := ⟨_, List.getElem?_eq_getElem (by rw [HN.out]; exact hlt)⟩
      obtain ⟨ad', had, z0, z1, z2⟩ := td_read HR.out hy
      injection had with had
      subst had
      have HY := Lib.hid hy
      clear hy
      by_cases hb : y.dl ≤ tt
      · have hle : (y.dl : Int) ≤ (tt : Int) := by omega
        have hall2 : ∀ i z, i < k + 1 → L[i]? = some z → decide (z.dl ≤ tt) = true := fun i z hi hz => by
          rcases Nat.lt_or_ge i k with h | h
          · exact HA.out i z h hz
          · have : i = k := by omega
            subst this
            rw [HY.out] at hz
            cases hz
            exact decide_eq_true hb
        have HA2 := Lib.hid hall2
        clear hall2 hb
        go_wp2
        go_roundw
        case rel => exact ⟨k + 1, by go_num, hlt, trivial, HA2.out⟩
        case measure => simp [intOf]; omega
      · have hnle : ¬ (y.dl : Int) ≤ (tt : Int) := by omega
        have htw := tw_gen (p := fun x => decide (x.dl ≤ tt)) (k := k) HA.out (fun y' hy' => by rw [HY.out] at hy'; cases hy'; exact decide_eq_false hb) (by rw [HN.out]; omega)
        have HTw := Lib.hid htw
        clear htw hb
        have hcap : (k : Int) ≤ (c : Int) := by omega
        have hkn : (k : Int) ≤ (n : Int) := by omega
        have hsuf := rd_suf HR.out (j := k) hk rfl
        have hpre := rd_pre HR.out (j := k) hk
        have hpl : (dueL tt L).length = k := by unfold dueL; rw [← HTw.out.1, List.length_take, HN.out]; omega
        have hsl : (restL tt L).length = n - k := by unfold restL; rw [← HTw.out.2, List.length_drop, HN.out]
        rw [HTw.out.1] at hpre
        rw [HTw.out.2] at hsuf
        have HSuf := Lib.hid hsuf; have HPre := Lib.hid hpre; have HPL := Lib.hid hpl; have HSL := Lib.hid hsl
        clear hsuf hpre hpl hsl
        have V1 : True := trivial
        go_wp2_with (first
          | (at_builtin; clear V1; refine wpList_append_read _ rfl _ _ 28 rfl 31 j0 _ 3 24 Tryd.underlying28 hj jz0 jz1 jz2 rfl (by decide) (.slice none 0 0) 0 [] rfl (World.ownsRow_nil _ _ _ _) (.slice (some ad) k c) _ k rfl HPre.out (by rw [flat_length tdC 3 (fun _ => rfl)]; exact congrArg (· * 3) HPL.out) (by unfold maxLen; omega) (by omega) ?_; intro a8 c8 w7 hr8 hg8 hb8
             rw [Nat.zero_add] at hr8 hb8 ⊢
             rw [List.nil_append] at hr8
             have p7 : Pure W1 w7 := Mod.of_grown hg8 (fun k e _ => by cases e)
             have HR8 := Lib.hid hr8; have HB8 := Lib.hid hb8; have HP7 := Lib.hid p7
             have x0 := p7.cell (fun h => h) x0
             have x1 := p7.cell (fun h => h) x1
             clear hr8 hg8 hb8 p7)
          | (at_builtin; refine wpList_append_read _ rfl _ _ 28 rfl 31 j0 _ 3 24 Tryd.underlying28 hj jz0 jz1 jz2 rfl (by decide) (.slice none 0 0) 0 [] rfl (World.ownsRow_nil _ _ _ _) (.slice (some (ad.add (k * 3))) (n - k) (c - k)) _ (n - k) rfl (HSuf.out.frame HP7.out (fun _ _ h => h)) (by rw [flat_length tdC 3 (fun _ => rfl)]; exact congrArg (· * 3) HSL.out) (by unfold maxLen; omega) (by omega) ?_; intro a9 c9 w8 hr9 hg9 hb9
             rw [Nat.zero_add] at hr9 hb9 ⊢
             rw [List.nil_append] at hr9
             have p8 : Pure W1 w8 := HP7.out.trans (Mod.of_grown hg9 (fun k e _ => by cases e))
             have h4 := p8.heap (fun h => h) H4.out
             have HR9 := Lib.hid hr9; have HB9 := Lib.hid hb9; have HP8 := Lib.hid p8; have HG9 := Lib.hid hg9
             clear hr9 hg9 hb9 p8
             have h4_0 := cell_of_row _ _ 0 _ _ _ h4; have h4_1 := cell_of_row _ _ 1 _ _ _ h4; have h4_f := (fun j => frozen_of_row _ _ j _ _ h4); have h4_l := lt_of_block h4; simp at h4_0 h4_1; have H_h4 := Lib.hid h4; clear h4))
        have h8f : ∀ g, (Value.slice a8 k c8).ownBlock = some g → W1.heap.size ≤ g := fun g hg => by
          rcases HB8.out with e | e
          · rw [e] at hg; cases hg
          · rw [e] at hg; injection hg with hg; omega
        have h9f : ∀ g, (Value.slice a9 (n - k) c9).ownBlock = some g → W1.heap.size ≤ g := fun g hg => by
          rcases HB9.out with e | e
          · rw [e] at hg; cases hg
          · rw [e] at hg; injection hg with hg; have := HP7.out.size; omega
        have hw1 := HAL.out.size
        have hbl := lt_of_block H4.out
        have hbw : w.heap.size ≤ b' := by have := HB.out; have := HB'.out; omega
        have hms := Mod.set2 (w := w8) b' 0 1 (.int .u64 tt) (.slice a9 (n - k) c9)
        have r9 := owns_mod HR9.out hms (fun g hg e => by have := h9f g hg; omega)
        have r8 := owns_mod (owns_mod HR8.out (Mod.of_grown (S := fun _ => False) HG9.out (fun k e _ => by cases e)) (fun _ _ h => h)) hms (fun g hg e => by have := h8f g hg; omega)
        have pf : Pure w _ := (HAL.out.trans HP8.out).then hms (fun g hg e => by omega)
        refine bodyPost_ret (v := .tuple #[.agg #[.int .u64 tt, .slice a9 (n - k) c9], .slice a8 k c8, .int .i64 0]) (by simp [results, Tryd.results21, go_sem, h4_0, h4_1, h4_l]) rfl ⟨a9, c9, a8, c8, by rw [HPL.out, HSL.out], ?_, ?_, ?_, ?_, pf⟩
        · show World.ownsRow _ 0 _ 3 (.slice a9 (restL tt L).length c9) (restL tt L).length ((restL tt L).flatMap tdC)
          rw [HSL.out]
          exact r9
        · show World.ownsRow _ 0 _ 3 (.slice a8 (dueL tt L).length c8) (dueL tt L).length ((dueL tt L).flatMap tdC)
          rw [HPL.out]
          exact r8
        · rw [HSL.out]; exact fun g hg => by have := h9f g hg; omega
        · rw [HPL.out]; exact fun g hg => by have := h8f g hg; omega
    · have hge : ¬ (k : Int) < (n : Int) := by omega
      have d1 : decide (k < n) = false := decide_eq_false (by omega)
      have htw := tw_gen (p := fun x => decide (x.dl ≤ tt)) (k := k) HA.out (fun y' hy' => by have := (List.getElem?_eq_some_iff.1 hy').1; rw [HN.out] at this; omega) (by rw [HN.out]; omega)
      have HTw := Lib.hid htw
      clear htw
      have hrs := rd_sufI HR.out (j := k) hk hnc
      obtain ⟨sv, hsv⟩ : ∃ v, (if c = k then some ad else some (ad.add (k * 3))) = v := ⟨_, rfl⟩
      rw [hsv] at hrs
      have HRS := Lib.hid hrs
      clear hrs
      have hcap : (k : Int) ≤ (c : Int) := by omega
      have hkn : (k : Int) ≤ (n : Int) := by omega
      have hsuf := HRS.out
      have hpre := rd_pre HR.out (j := k) hk
      have hpl : (dueL tt L).length = k := by unfold dueL; rw [← HTw.out.1, List.length_take, HN.out]; omega
      have hsl : (restL tt L).length = n - k := by unfold restL; rw [← HTw.out.2, List.length_drop, HN.out]
      rw [HTw.out.1] at hpre
      rw [HTw.out.2] at hsuf
      have HSuf := Lib.hid hsuf; have HPre := Lib.hid hpre; have HPL := Lib.hid hpl; have HSL := Lib.hid hsl
      clear hsuf hpre hpl hsl
      have V1 : True := trivial
      go_wp2_with (first
        | (at_builtin; clear V1; refine wpList_append_read _ rfl _ _ 28 rfl 31 j0 _ 3 24 Tryd.underlying28 hj jz0 jz1 jz2 rfl (by decide) (.slice none 0 0) 0 [] rfl (World.ownsRow_nil _ _ _ _) (.slice (some ad) k c) _ k rfl HPre.out (by rw [flat_length tdC 3 (fun _ => rfl)]; exact congrArg (· * 3) HPL.out) (by unfold maxLen; omega) (by omega) ?_; intro a8 c8 w7 hr8 hg8 hb8
           rw [Nat.zero_add] at hr8 hb8 ⊢
           rw [List.nil_append] at hr8
           have p7 : Pure W1 w7 := Mod.of_grown hg8 (fun k e _ => by cases e)
           have HR8 := Lib.hid hr8; have HB8 := Lib.hid hb8; have HP7 := Lib.hid p7
           have x0 := p7.cell (fun h => h) x0
           have x1 := p7.cell (fun h => h) x1
           clear hr8 hg8 hb8 p7)
        | (at_builtin; refine wpList_append_read _ rfl _ _ 28 rfl 31 j0 _ 3 24 Tryd.underlying28 hj jz0 jz1 jz2 rfl (by decide) (.slice none 0 0) 0 [] rfl (World.ownsRow_nil _ _ _ _) (.slice sv (n - k) (c - k)) _ (n - k) rfl (HSuf.out.frame HP7.out (fun _ _ h => h)) (by rw [flat_length tdC 3 (fun _ => rfl)]; exact congrArg (· * 3) HSL.out) (by unfold maxLen; omega) (by omega) ?_; intro a9 c9 w8 hr9 hg9 hb9
           rw [Nat.zero_add] at hr9 hb9 ⊢
           rw [List.nil_append] at hr9
           have p8 : Pure W1 w8 := HP7.out.trans (Mod.of_grown hg9 (fun k e _ => by cases e))
           have h4 := p8.heap (fun h => h) H4.out
           have HR9 := Lib.hid hr9; have HB9 := Lib.hid hb9; have HP8 := Lib.hid p8; have HG9 := Lib.hid hg9
           clear hr9 hg9 hb9 p8
           have h4_0 := cell_of_row _ _ 0 _ _ _ h4; have h4_1 := cell_of_row _ _ 1 _ _ _ h4; have h4_f := (fun j => frozen_of_row _ _ j _ _ h4); have h4_l := lt_of_block h4; simp at h4_0 h4_1; have H_h4 := Lib.hid h4; clear h4))
      have h8f : ∀ g, (Value.slice a8 k c8).ownBlock = some g → W1.heap.size ≤ g := fun g hg => by
        rcases HB8.out with e | e
        · rw [e] at hg; cases hg
        · rw [e] at hg; injection hg with hg; omega
      have h9f : ∀ g, (Value.slice a9 (n - k) c9).ownBlock = some g → W1.heap.size ≤ g := fun g hg => by
        rcases HB9.out with e | e
        · rw [e] at hg; cases hg
        · rw [e] at hg; injection hg with hg; have := HP7.out.size; omega
      have hw1 := HAL.out.size
      have hbl := lt_of_block H4.out
      have hbw : w.heap.size ≤ b' := by have := HB.out; have := HB'.out; omega
      have hms := Mod.set2 (w := w8) b' 0 1 (.int .u64 tt) (.slice a9 (n - k) c9)
      have r9 := owns_mod HR9.out hms (fun g hg e => by have := h9f g hg; omega)
      have r8 := owns_mod (owns_mod HR8.out (Mod.of_grown (S := fun _ => False) HG9.out (fun k e _ => by cases e)) (fun _ _ h => h)) hms (fun g hg e => by have := h8f g hg; omega)
      have pf : Pure w _ := (HAL.out.trans HP8.out).then hms (fun g hg e => by omega)
      refine bodyPost_ret (v := .tuple #[.agg #[.int .u64 tt, .slice a9 (n - k) c9], .slice a8 k c8, .int .i64 0]) (by simp [results, Tryd.results21, go_sem, h4_0, h4_1, h4_l]) rfl ⟨a9, c9, a8, c8, by rw [HPL.out, HSL.out], ?_, ?_, ?_, ?_, pf⟩
      · show World.ownsRow _ 0 _ 3 (.slice a9 (restL tt L).length c9) (restL tt L).length ((restL tt L).flatMap tdC)
        rw [HSL.out]
        exact r9
      · show World.ownsRow _ 0 _ 3 (.slice a8 (dueL tt L).length c8) (dueL tt L).length ((dueL tt L).flatMap tdC)
        rw [HPL.out]
        exact r8
      · rw [HSL.out]; exact fun g hg => by have := h9f g hg; omega
      · rw [HPL.out]; exact fun g hg => by have := h8f g hg; omega
end Go.Proofs.YtlalpenfgkfkpaaDoor

/- The reference of cascade: Advance and Put of any list. Conditions: the list is read. -/
namespace Go.Proofs.YtlalpenfgkfkpaaDoor
open Go.RowKit Go.Shelf
set_option maxRecDepth 100000
set_option maxHeartbeats 1000000 in
theorem radv_none {w : World} {now tt : Nat} (ht : now ≤ tt) :
    Calls Tryd.prog 21 #[whV now none 0 0, .int .u64 tt] w fun e w' => ∃ a1 c1 a2 c2, e = .returned (.tuple #[whV tt a1 0 c1, .slice a2 0 c2, .int .i64 0]) ∧ TdRow w' a1 c1 [] ∧ TdRow w' a2 c2 [] ∧ FreshV w (.slice a1 0 c1) ∧ FreshV w (.slice a2 0 c2) ∧ Pure w w' := by
  unfold whV
  have hlt0 : ¬ (tt : Int) < (now : Int) := by omega
  have hbx := (Mod.refl (fun _ => False) (w.alloc (.cells #[.int .u64 now, .slice none 0 0] 45))).alloc (.cells #[.int .u64 0, .slice none 0 0] 45)
  have hal : Pure w ((w.alloc (.cells #[.int .u64 now, .slice none 0 0] 45)).alloc (.cells #[.int .u64 0, .slice none 0 0] 45)) := ((Mod.refl _ w).alloc _).trans hbx
  have h2 := hbx.heap (fun h => h) (heap_new (w := w) (o := .cells #[.int .u64 now, .slice none 0 0] 45 (0, 0)) rfl)
  have h4 : ((w.alloc (.cells #[.int .u64 now, .slice none 0 0] 45)).alloc (.cells #[.int .u64 0, .slice none 0 0] 45)).heap[w.heap.size + 1]? = some (.cells #[.int .u64 0, .slice none 0 0] 45 (0, 0)) := heap_new (by simp)
  have HAL := Lib.hid hal
  clear hbx hal
  go_enter Tryd.func21, Tryd.ntmps21
  go_upto_region 4 with fail
  generalize ((w.alloc (.cells #[.int .u64 now, .slice none 0 0] 45)).alloc (.cells #[.int .u64 0, .slice none 0 0] 45)) = W1 at *
  obtain ⟨b, hb⟩ : ∃ b, w.heap.size = b := ⟨_, rfl⟩
  rw [hb] at h2 h4 ⊢
  obtain ⟨b', hb'⟩ : ∃ b', b + 1 = b' := ⟨_, rfl⟩
  rw [hb'] at h4 ⊢
  have HB := Lib.hid hb; have HB' := Lib.hid hb'
  clear hb hb'
  obtain ⟨x0, x1⟩ := whbox h2
  have hbl := lt_of_block h4
  clear h2
  have h4_0 := cell_of_row _ _ 0 _ _ _ h4; have h4_1 := cell_of_row _ _ 1 _ _ _ h4; have h4_f := (fun j => frozen_of_row _ _ j _ _ h4); have h4_l := lt_of_block h4; simp at h4_0 h4_1; have H_h4 := Lib.hid h4; clear h4
  refine wp_loop_rounds 1 ?_
  rw [rounds_succ]
  go_wp2
  have hms := Mod.set2 (w := W1) b' 0 1 (.int .u64 tt) (.slice none 0 0)
  have hf : FreshV w (.slice none 0 0) := fun g hg => by cases hg
  have pf : Pure w _ := HAL.out.then hms (fun g hg e => by have := HB.out; have := HB'.out; omega)
  refine bodyPost_ret (v := .tuple #[.agg #[.int .u64 tt, .slice none 0 0], .slice none 0 0, .int .i64 0]) (by simp [results, Tryd.results21, go_sem, h4_0, h4_1, h4_l]) rfl ⟨none, 0, none, 0, rfl, World.ownsRow_nil _ _ _ _, World.ownsRow_nil _ _ _ _, hf, hf, pf⟩
section
variable {w : World} {a : Option Addr} {n c now tt : Nat} {L : List Td}
theorem rd_none (h : ReadAt w (.slice none n c) 3 (L.flatMap tdC)) (hn : L.length = n) : L = [] := by
  obtain ⟨_, _, _, e, hl, _, h0, _⟩ := h
  injection e with e1 e2 e3
  have h1 := h0 e1.symm
  subst h1
  have : L.length = 0 := by omega
  exact List.eq_nil_of_length_eq_zero this
/-- A list's slice: it is read, it has the length, nothing has no room. -/
structure RdL (w : World) (a : Option Addr) (n c : Nat) (L : List Td) : Prop where
  rd : ReadAt w (.slice a n c) 3 (L.flatMap tdC)
  len : L.length = n
  cap : n ≤ c
  nil : a = none → c = 0
theorem RdL.pure {w' : World} (h : RdL w a n c L) (hp : Pure w w') : RdL w' a n c L := ⟨h.rd.frame hp (fun _ _ h => h), h.len, h.cap, h.nil⟩
theorem RdL.of_row (h : TdRow w a c L) : RdL w a L.length c L := by
  refine ⟨h.rd, rfl, ?_, fun e => ?_⟩
  · obtain ⟨_, ⟨e, e0⟩ | ⟨g, cap, cur, e, _, _, h1, _⟩⟩ := h
    · omega
    · injection e with e1 e2 e3; omega
  · obtain ⟨_, ⟨e', e0⟩ | ⟨g, cap, cur, e', _, _, h1, _⟩⟩ := h
    · injection e' with e1 e2 e3
    · injection e' with e1 e2 e3; rw [e] at e1; cases e1
theorem RdL.zero (h : RdL w none n c L) : n = 0 ∧ c = 0 ∧ L = [] := by
  have h1 := rd_none h.rd h.len
  have h2 := h.len
  subst h1
  exact ⟨h2.symm, h.nil rfl, rfl⟩
theorem radv_ok (h : RdL w a n c L) (hl : n ≤ 4194304) (ht : now ≤ tt) :
    Calls Tryd.prog 21 #[whV now a n c, .int .u64 tt] w fun e w' => ∃ a1 c1 a2 c2, e = .returned (.tuple #[whV tt a1 (restL tt L).length c1, .slice a2 (dueL tt L).length c2, .int .i64 0]) ∧ TdRow w' a1 c1 (restL tt L) ∧ TdRow w' a2 c2 (dueL tt L) ∧ FreshV w (.slice a1 (restL tt L).length c1) ∧ FreshV w (.slice a2 (dueL tt L).length c2) ∧ Pure w w' := by
  cases a with
  | some ad => exact radv_some h.rd h.len hl h.cap ht
  | none =>
    obtain ⟨rfl, rfl, rfl⟩ := h.zero
    exact radv_none ht
theorem rput_ok (h : RdL w a n c L) (hl : n ≤ 4194304) (x : Td) :
    Calls Tryd.prog 59 #[.slice a n c, tdV x] w fun e w' => ∃ a' c', e = .returned (.slice a' (n + 1) c') ∧ TdRow w' a' c' (putL L x) ∧ FreshV w (.slice a' (n + 1) c') ∧ Pure w w' := by
  cases a with
  | some ad => exact rput_some h.rd h.len hl h.cap x
  | none =>
    obtain ⟨rfl, rfl, rfl⟩ := h.zero
    exact rput_none w x
end
end Go.Proofs.YtlalpenfgkfkpaaDoor

/- law21: gets, lens, timed; deadlines that were made since. Conditions: the deadlines lie in memory, the table too. -/
namespace Go.Proofs.YtlalpenfgkfkpaaDoor
open Go.RowKit Go.Shelf
set_option maxRecDepth 100000
theorem timed21_ok (s d b : Nat) (w : World) : Calls Tryd.prog 68 #[.int .u32 s, .int .u64 d, .int .u64 b] w fun e w' => e = .returned (tdV ⟨s, d, b⟩) ∧ Pure w w' := by
  have hal : Pure w (w.alloc (.cells #[.int .u32 0, .int .u64 0, .int .u64 0] 31)) := (Mod.refl _ w).alloc _
  have h6 := heap_new (w := w) (o := .cells #[.int .u32 0, .int .u64 0, .int .u64 0] 31 (0, 0)) rfl
  obtain ⟨b6, hb6⟩ : ∃ b6, w.heap.size = b6 := ⟨_, rfl⟩
  have HAL := Lib.hid hal
  clear hal
  go_enter Tryd.func68, Tryd.ntmps68
  go_upto_region 1 with fail
  generalize w.alloc (.cells #[.int .u32 0, .int .u64 0, .int .u64 0] 31) = W1 at *
  (try rw [hb6] at h6)
  have HB6 := Lib.hid hb6
  clear hb6
  have h6_0 := cell_of_row _ _ 0 _ _ _ h6; have h6_1 := cell_of_row _ _ 1 _ _ _ h6; have h6_2 := cell_of_row _ _ 2 _ _ _ h6; have h6_f := (fun j => frozen_of_row _ _ j _ _ h6); have h6_l := lt_of_block h6; simp at h6_0 h6_1 h6_2; have H_h6 := Lib.hid h6; clear h6
  go_wp2
  have hm : Mod (fun k => k = b6) W1 (((W1.setCell ⟨b6, 0, none⟩ (.int .u32 s)).setCell ⟨b6, 1, none⟩ (.int .u64 d)).setCell ⟨b6, 2, none⟩ (.int .u64 b)) :=
    (((Mod.refl (fun k => k = b6) W1).setCell (p := ⟨b6, 0, none⟩) (fun _ => rfl) _).setCell (p := ⟨b6, 1, none⟩) (fun _ => rfl) _).setCell (p := ⟨b6, 2, none⟩) (fun _ => rfl) _
  have hp := HAL.out.then hm (fun k hk e => by have := HB6.out; omega)
  exact bodyPost_ret (v := tdV ⟨s, d, b⟩) (by simp [results, Tryd.results68, go_sem, h6_0, h6_1, h6_2, h6_l, tdV]) rfl ⟨rfl, hp⟩
section
variable {w w' : World} {D : Nat → Prop} {p now q bb bs : Nat} {Dc : Nat → Prop} {Db Ds : DataW Unit} {M M' L acc : List Td} {x : Td} {tv : List Nat}
theorem DueAt.get (h : DueAt w D p now M) {s : Nat} (h32 : s ≤ 4294967295) :
    Calls Tryd.prog 74 #[lkP p, .int .u32 s] w fun e w' => e = .returned (.tuple #[.int .u64 (getT M s).1.dl, .int .u64 (getT M s).1.birth, .int .i64 (getT M s).2]) ∧ Pure w w' := by
  obtain ⟨q, bb, bs, Dc, Db, Ds, h1, h2⟩ := h
  exact dget_ok h1 h32
theorem DueAt.next (h : DueAt w D p now M) (hT : TabW w) : Calls Tryd.prog 41 #[lkP p] w fun e w' => e = .returned (.int .u64 (nextD M)) ∧ Pure w w' := by
  obtain ⟨q, bb, bs, Dc, Db, Ds, h1, h2⟩ := h
  rw [← nextD_timed h2]
  exact dnext_ok h1 hT
theorem DueAt.now_ (h : DueAt w D p now M) : Calls Tryd.prog 38 #[lkP p] w fun e w' => e = .returned (.int .u64 now) ∧ w = w' := by
  obtain ⟨q, bb, bs, Dc, Db, Ds, h1, h2⟩ := h
  exact dnow_ok h1
theorem DueAt.len_ (h : DueAt w D p now M) : Calls Tryd.prog 75 #[lkP p] w fun e w' => e = .returned (.tuple #[.int .i64 M.length, .int .i64 (timedL M).length]) ∧ Pure w w' := by
  obtain ⟨q, bb, bs, Dc, Db, Ds, h1, h2⟩ := h
  exact dlen_ok h1
theorem DueAt.all (h : DueAt w D p now M) : Calls Tryd.prog 36 #[lkP p] w fun e w' => ∃ a c, e = .returned (.slice a M.length c) ∧ TdRow w' a c M ∧ FreshV w (.slice a M.length c) ∧ Pure w w' := by
  obtain ⟨q, bb, bs, Dc, Db, Ds, h1, h2⟩ := h
  exact duall_ok h1 h2
theorem gets_ok (h : DueAt w D p now M) {s dl b : Nat} {er : Int} (h32 : s ≤ 4294967295) (h1 : (getT M s).1.dl = dl) (h2 : (getT M s).1.birth = b) (h3 : (getT M s).2 = er) :
    Calls Tryd.prog 40 #[lkP p, .int .u32 s, .int .u64 dl, .int .u64 b, .int .i64 er] w fun e w' => e = .returned (.bool true) ∧ Pure w w' := by
  have hg := h.get h32
  rw [h1, h2, h3] at hg
  have HG := Lib.hid hg
  clear h h1 h2 h3 hg h32
  go_enter Tryd.func40, Tryd.ntmps40
  go_wp2_with (go_at_call 74; refine Calls.mono HG.out ?_; rintro e w' ⟨rfl, hp⟩)
  go_ret
  exact ⟨by simp, hp⟩
theorem lens_ok (h : DueAt w D p now M) {a b : Nat} (h1 : M.length = a) (h2 : (timedL M).length = b) :
    Calls Tryd.prog 42 #[lkP p, .int .i64 a, .int .i64 b] w fun e w' => e = .returned (.bool true) ∧ Pure w w' := by
  have hg := h.len_
  rw [h1, h2] at hg
  have HG := Lib.hid hg
  clear h h1 h2 hg
  go_enter Tryd.func42, Tryd.ntmps42
  go_wp2_with (go_at_call 75; refine Calls.mono HG.out ?_; rintro e w' ⟨rfl, hp⟩)
  go_ret
  exact ⟨by simp, hp⟩
end
structure DueT (w : World) (D : Nat → Prop) (p now : Nat) (M : List Td) : Prop where
  at_ : DueAt w D p now M
  tab : TabW w
  off : ¬ D 0
section
variable {w0 w w' : World} {D : Nat → Prop} {p now tt : Nat} {M M' : List Td} {x : Td} {tv : List Nat}
theorem DueT.frame {S : Nat → Prop} (h : DueT w D p now M) (hm : Mod S w w') (hd : ∀ k, D k → ¬ S k) (h0 : ¬ S 0) : DueT w' D p now M := ⟨h.at_.frame hm hd, h.tab.mod hm h0, h.off⟩
theorem DueT.pure (h : DueT w D p now M) (hm : Pure w w') : DueT w' D p now M := h.frame hm (fun _ _ h => h) (fun h => h)
theorem DueT.next {D' : Nat → Prop} {now' : Nat} {M' : List Td} (h : DueT w D p now M) (hc : DueAt w' D' p now' M') (hg : grewD D D' w) (hm : Mod D w w') : DueT w' D' p now' M' :=
  ⟨hc, h.tab.mod hm h.off, fun e => by
    rcases hg 0 e with e | e
    · exact h.off e
    · have := h.tab.lt; omega⟩
theorem DueT.new (hT : TabW w) (hn : now < 18446744073709551616) : Calls Tryd.prog 33 #[.int .u64 now] w fun e w' => ∃ p D, e = .returned (lkP p) ∧ DueT w' D p now [] ∧ Pure w w' ∧ ∀ k, D k → w.heap.size ≤ k := by
  refine (dunew_ok w hn).mono ?_
  rintro e w' ⟨p, D, rfl, hc, hp, hf⟩
  exact ⟨p, D, rfl, ⟨hc, hT.pure hp, fun e => by have := hf 0 e; have := hT.lt; omega⟩, hp, hf⟩
/-- Deadlines that were made since w0. -/
structure KnD (w0 w : World) (D : Nat → Prop) (p now : Nat) (M : List Td) : Prop where
  t : DueT w D p now M
  ge : ∀ k, D k → w0.heap.size ≤ k
  pu : Pure w0 w
theorem KnD.pure (h : KnD w0 w D p now M) (hm : Pure w w') : KnD w0 w' D p now M := ⟨h.t.pure hm, h.ge, h.pu.trans hm⟩
theorem KnD.step (h : KnD w0 w D p now M) {D' : Nat → Prop} {now' : Nat} {M' : List Td} (hc : DueAt w' D' p now' M') (hg : grewD D D' w) (hm : Mod D w w') : KnD w0 w' D' p now' M' :=
  ⟨h.t.next hc hg hm, fun k hk => by
    rcases hg k hk with e | e
    · exact h.ge k e
    · have := h.pu.size; omega, h.pu.then hm (fun k hk e => by have := h.ge k e; omega)⟩
theorem KnD.new (hT : TabW w) (hn : now < 18446744073709551616) : Calls Tryd.prog 33 #[.int .u64 now] w fun e w' => ∃ p D, e = .returned (lkP p) ∧ KnD w w' D p now [] := by
  refine (DueT.new hT hn).mono ?_
  rintro e w' ⟨p, D, rfl, hc, hp, hf⟩
  exact ⟨p, D, rfl, hc, hf, hp⟩
theorem KnD.set (h : KnD w0 w D p now M) {s dl b : Nat} (h32 : s ≤ 4294967295) (hd : dl ≤ 18446744073709551615) (hb : b ≤ 18446744073709551615) {r : Int} (hr : setR now M s dl b = r) (hL : setL now M s dl b = M') :
    Calls Tryd.prog 34 #[lkP p, .int .u32 s, .int .u64 dl, .int .u64 b] w fun e w' => e = .returned (.int .i64 r) ∧ ∃ D', KnD w0 w' D' p now M' := by
  refine (h.t.at_.set h32 hd hb).mono ?_
  rintro e w' ⟨rfl, ⟨D', hc, hg⟩, hm⟩
  rw [hL] at hc
  exact ⟨by rw [hr], D', h.step hc hg hm⟩
theorem KnD.remove (h : KnD w0 w D p now M) {s : Nat} (h32 : s ≤ 4294967295) {r : Int} (hr : (getT M s).2 = r) (hL : canL M s = M') :
    Calls Tryd.prog 35 #[lkP p, .int .u32 s] w fun e w' => e = .returned (.int .i64 r) ∧ ∃ D', KnD w0 w' D' p now M' := by
  refine (h.t.at_.remove h32).mono ?_
  rintro e w' ⟨rfl, ⟨D', hc, hg⟩, hm⟩
  rw [hL] at hc
  exact ⟨by rw [hr], D', h.step hc hg hm⟩
theorem KnD.expire (h : KnD w0 w D p now M) {t0 : Nat} (ht0 : t0 ≤ 18446744073709551615) {now' : Nat} {E : List Td} {n : Nat} (hN : max now t0 = now') (hE : dueE now' M = E) (hL : restE now' M = M') (hn : E.length = n) :
    Calls Tryd.prog 37 #[lkP p, .int .u64 t0] w fun e w' => ∃ a c, e = .returned (.slice a n c) ∧ RdL w' a n c E ∧ ∃ D', KnD w0 w' D' p now' M' := by
  refine (h.t.at_.expire h.t.tab h.t.off ht0).mono ?_
  rintro e w' ⟨a, c, rfl, hr, ⟨D', hc, hg, _⟩, hm⟩
  rw [hN, hE] at hr
  rw [hN, hL] at hc
  refine ⟨a, c, by rw [hN, hE, hn], ?_, D', h.step hc hg hm⟩
  have := RdL.of_row hr
  rw [hn] at this
  exact this
theorem KnD.all (h : KnD w0 w D p now M) {n : Nat} (hn : M.length = n) :
    Calls Tryd.prog 36 #[lkP p] w fun e w' => ∃ a c, e = .returned (.slice a n c) ∧ RdL w' a n c M ∧ KnD w0 w' D p now M := by
  refine h.t.at_.all.mono ?_
  rintro e w' ⟨a, c, rfl, hr, _, hp⟩
  refine ⟨a, c, by rw [hn], ?_, h.pure hp⟩
  have := RdL.of_row hr
  rw [hn] at this
  exact this
theorem KnD.renumber (h : KnD w0 w D p now M) {a0 : Option Addr} {n0 c0 : Nat} (hto : ReadAt w (.slice a0 n0 c0) 1 (nums tv)) (hn0 : tv.length = n0) (hn4 : n0 ≤ 4194304) (ht32 : ∀ t ∈ tv, t ≤ 4294967295) {r : Int} (hr : renR tv M = r) (hL : renM tv M = M') :
    Calls Tryd.prog 43 #[lkP p, .slice a0 n0 c0] w fun e w' => e = .returned (.int .i64 r) ∧ ∃ D', KnD w0 w' D' p now M' := by
  refine (h.t.at_.renumber hto hn0 hn4 ht32).mono ?_
  rintro e w' ⟨rfl, ⟨D', hc, hg⟩, hm⟩
  rw [hL] at hc
  exact ⟨by rw [hr], D', h.step hc hg hm⟩
theorem KnD.gets (h : KnD w0 w D p now M) {s dl b : Nat} {er : Int} (h32 : s ≤ 4294967295) (h1 : (getT M s).1.dl = dl) (h2 : (getT M s).1.birth = b) (h3 : (getT M s).2 = er) :
    Calls Tryd.prog 40 #[lkP p, .int .u32 s, .int .u64 dl, .int .u64 b, .int .i64 er] w fun e w' => e = .returned (.bool true) ∧ KnD w0 w' D p now M := by
  refine (gets_ok h.t.at_ h32 h1 h2 h3).mono ?_
  rintro e w' ⟨rfl, hp⟩
  exact ⟨rfl, h.pure hp⟩
theorem KnD.lens (h : KnD w0 w D p now M) {a b : Nat} (h1 : M.length = a) (h2 : (timedL M).length = b) :
    Calls Tryd.prog 42 #[lkP p, .int .i64 a, .int .i64 b] w fun e w' => e = .returned (.bool true) ∧ KnD w0 w' D p now M := by
  refine (lens_ok h.t.at_ h1 h2).mono ?_
  rintro e w' ⟨rfl, hp⟩
  exact ⟨rfl, h.pure hp⟩
theorem KnD.next (h : KnD w0 w D p now M) {n : Nat} (hn : nextD M = n) : Calls Tryd.prog 41 #[lkP p] w fun e w' => e = .returned (.int .u64 n) ∧ KnD w0 w' D p now M := by
  refine (h.t.at_.next h.t.tab).mono ?_
  rintro e w' ⟨rfl, hp⟩
  exact ⟨by rw [hn], h.pure hp⟩
theorem KnD.now_ (h : KnD w0 w D p now M) : Calls Tryd.prog 38 #[lkP p] w fun e w' => e = .returned (.int .u64 now) ∧ KnD w0 w' D p now M := by
  refine h.t.at_.now_.mono ?_
  rintro e w' ⟨rfl, rfl⟩
  exact ⟨rfl, h⟩
end
end Go.Proofs.YtlalpenfgkfkpaaDoor

/- law20.known: it returns true. Condition: the table of math/bits lies in memory. -/
namespace Go.Proofs.YtlalpenfgkfkpaaDoor
open Go.RowKit
set_option maxRecDepth 100000
/-- A cascade that was made since w0. -/
structure KnS (w0 w : World) (D : Nat → Prop) (p now : Nat) (L : List Td) : Prop where
  t : CasT w D p now L
  ge : ∀ k, D k → w0.heap.size ≤ k
  pu : Pure w0 w
section
variable {w0 w w' : World} {D : Nat → Prop} {p now tt : Nat} {L : List Td}
theorem KnS.pure (h : KnS w0 w D p now L) (hm : Pure w w') : KnS w0 w' D p now L := ⟨h.t.pure hm, h.ge, h.pu.trans hm⟩
theorem KnS.step (h : KnS w0 w D p now L) {D' : Nat → Prop} {now' : Nat} {L' : List Td} (hc : CasT w' D' p now' L') (hg : grewD D D' w) (hm : Mod D w w') : KnS w0 w' D' p now' L' :=
  ⟨hc, fun k hk => by
    rcases hg k hk with e | e
    · exact h.ge k e
    · have := h.pu.size; omega, h.pu.then hm (fun k hk e => by have := h.ge k e; omega)⟩
theorem KnS.new (hT : TabW w) (hn : now < 18446744073709551616) : Calls Tryd.prog 11 #[.int .u64 now] w fun e w' => ∃ p D, e = .returned (lkP p) ∧ KnS w w' D p now [] := by
  refine (cnew_ok w hn).mono ?_
  rintro e w' ⟨p, D, rfl, hc, hp, hf⟩
  exact ⟨p, D, rfl, ⟨hc, hT.pure hp, fun e => by have := hf 0 e; have := hT.lt; omega⟩, hf, hp⟩
theorem KnS.sched (h : KnS w0 w D p now L) {x : Td} {r : Int} {L' : List Td} (hr : schR now L x = r) (hL : schL now L x = L') (h32 : x.slot ≤ 4294967295) (hd : x.dl ≤ 18446744073709551615) (hb : x.birth ≤ 18446744073709551615) :
    Calls Tryd.prog 13 #[lkP p, tdV x] w fun e w' => e = .returned (.int .i64 r) ∧ ∃ D', KnS w0 w' D' p now L' := by
  refine (h.t.at_.sched h32 hd hb (by have := h.t.at_.count; unfold maxLen; omega)).mono ?_
  rintro e w' ⟨rfl, ⟨D', hc, hg⟩, hm⟩
  rw [hL] at hc
  exact ⟨by rw [hr], D', h.step (h.t.next hc hg hm) hg hm⟩
theorem KnS.resched (h : KnS w0 w D p now L) {s dl : Nat} {r : Int} {L' : List Td} (hr : resR now L s dl = r) (hL : resL now L s dl = L') (h32 : s ≤ 4294967295) (hd : dl ≤ 18446744073709551615) :
    Calls Tryd.prog 25 #[lkP p, .int .u32 s, .int .u64 dl] w fun e w' => e = .returned (.int .i64 r) ∧ ∃ D', KnS w0 w' D' p now L' := by
  refine (h.t.at_.resched h32 hd (by have := h.t.at_.count; unfold maxLen; omega)).mono ?_
  rintro e w' ⟨rfl, ⟨D', hc, hg⟩, hm⟩
  rw [hL] at hc
  exact ⟨by rw [hr], D', h.step (h.t.next hc hg hm) hg hm⟩
theorem KnS.where_ (h : KnS w0 w D p now L) {s : Nat} {l b er : Int} (he : whE now L s = .tuple #[.int .i64 l, .int .i64 b, .int .i64 er]) (h32 : s ≤ 4294967295) :
    Calls Tryd.prog 26 #[lkP p, .int .u32 s, .int .i64 l, .int .i64 b, .int .i64 er] w fun e w' => e = .returned (.bool true) ∧ KnS w0 w' D p now L := by
  refine (where_ok h.t.at_ h32 he).mono ?_
  rintro e w' ⟨rfl, hp⟩
  exact ⟨rfl, h.pure hp⟩
theorem KnS.adv (h : KnS w0 w D p now L) {now' : Nat} {L' : List Td} {er : Int} (l : List Td) (a2 : Option Addr) (n2 c2 : Nat) (ho : aOut now tt L = l) (hn : n2 = l.length) (hN : aNow now tt = now') (hL : aRest now tt L = L') (he : er = aErr now tt) (ht : tt < 18446744073709551616)
    (hw : ReadAt w (.slice a2 n2 c2) 3 (l.flatMap tdC)) (hwD : ∀ g, rdBlock (.slice a2 n2 c2) = some g → ¬ D g) :
    Calls Tryd.prog 22 #[lkP p, .int .u64 tt, .slice a2 n2 c2, .int .i64 er] w fun e w' => e = .returned (.bool true) ∧ ∃ D', KnS w0 w' D' p now' L' := by
  subst ho
  refine (advances_ok h.t ht hn hw hwD he).mono ?_
  rintro e w' ⟨rfl, ⟨D', hc, hg⟩, hm⟩
  rw [hN, hL] at hc
  exact ⟨rfl, D', h.step hc hg hm⟩
theorem KnS.next (h : KnS w0 w D p now L) {n : Nat} (hn : nextD L = n) : Calls Tryd.prog 27 #[lkP p] w fun e w' => e = .returned (.int .u64 n) ∧ KnS w0 w' D p now L := by
  refine (h.t.at_.next h.t.tab).mono ?_
  rintro e w' ⟨rfl, hp⟩
  exact ⟨by rw [hn], h.pure hp⟩
theorem KnS.len (h : KnS w0 w D p now L) {n : Nat} (hn : L.length = n) : Calls Tryd.prog 15 #[lkP p] w fun e w' => e = .returned (.int .i64 n) ∧ KnS w0 w' D p now L := by
  refine h.t.at_.len_.mono ?_
  rintro e w' ⟨rfl, rfl⟩
  exact ⟨by rw [hn], h⟩
theorem KnS.lt (h : KnS w0 w D p now L) {k : Nat} (hk : D k) : k < w.heap.size := h.t.at_.lt hk
/-- A list that is made on the spot. -/
theorem lit_read (l : List Td) {n : Nat} (hn : l.length = n) : ReadAt (w.alloc (.cells (l.flatMap tdC).toArray 31)) (.slice (some ⟨w.heap.size, 0, none⟩) n n) 3 (l.flatMap tdC) := by
  have := ReadAt.of_block (w := w.alloc (.cells (l.flatMap tdC).toArray 31)) n n 3 (heap_new rfl) (by rw [List.toList_toArray, flat_length tdC 3 (fun _ => rfl), hn]) (by rw [List.toList_toArray]; exact tdC_one l)
  exact this
theorem lit_off (h : KnS w0 w D p now L) {n : Nat} : ∀ g, rdBlock (.slice (some ⟨w.heap.size, 0, none⟩) n n) = some g → ¬ D g := fun g hg hk => by
  have := h.lt hk
  have e := rdBlock_own hg
  injection e with e
  subst e
  exact Nat.lt_irrefl _ this
end
abbrev ka : Td := ⟨1, 255, 1⟩
abbrev kb : Td := ⟨2, 256, 2⟩
abbrev kc : Td := ⟨3, 300, 3⟩
abbrev kd : Td := ⟨4, 70000, 4⟩
abbrev ke : Td := ⟨4, 300, 4⟩
abbrev kf : Td := ⟨7, 18446744073709551614, 9⟩
theorem q1 : schR 250 [] ka = 0 ∧ schL 250 [] ka = [ka] := ⟨by decide, rfl⟩
theorem q2 : schR 250 [ka] kb = 0 ∧ schL 250 [ka] kb = [ka, kb] := ⟨by decide, rfl⟩
theorem q3 : schR 250 [ka, kb] kc = 0 ∧ schL 250 [ka, kb] kc = [ka, kb, kc] := ⟨by decide, rfl⟩
theorem q4 : schR 250 [ka, kb, kc] kd = 0 ∧ schL 250 [ka, kb, kc] kd = [ka, kb, kc, kd] := ⟨by decide, rfl⟩
theorem q5 : whE 250 [ka, kb, kc, kd] 1 = .tuple #[.int .i64 0, .int .i64 255, .int .i64 0] := rfl
theorem q6 : whE 250 [ka, kb, kc, kd] 3 = .tuple #[.int .i64 1, .int .i64 1, .int .i64 0] := rfl
theorem q7 : whE 250 [ka, kb, kc, kd] 4 = .tuple #[.int .i64 2, .int .i64 1, .int .i64 0] := rfl
theorem q8 : aOut 250 255 [ka, kb, kc, kd] = [ka] ∧ aNow 250 255 = 255 ∧ aRest 250 255 [ka, kb, kc, kd] = [kb, kc, kd] ∧ 0 = aErr 250 255 := ⟨rfl, rfl, rfl, rfl⟩
theorem q9 : whE 255 [kb, kc, kd] 3 = .tuple #[.int .i64 1, .int .i64 1, .int .i64 0] := rfl
theorem q10 : aOut 255 256 [kb, kc, kd] = [kb] ∧ aNow 255 256 = 256 ∧ aRest 255 256 [kb, kc, kd] = [kc, kd] ∧ 0 = aErr 255 256 := ⟨rfl, rfl, rfl, rfl⟩
theorem q11 : whE 256 [kc, kd] 3 = .tuple #[.int .i64 0, .int .i64 44, .int .i64 0] := rfl
theorem q12 : resR 256 [kc, kd] 4 300 = 0 ∧ resL 256 [kc, kd] 4 300 = [kc, ke] := ⟨by decide, rfl⟩
theorem q13 : schR 256 [kc, ke] ⟨5, 300, 0⟩ = 2 ∧ schL 256 [kc, ke] ⟨5, 300, 0⟩ = [kc, ke] := ⟨by decide, rfl⟩
theorem q14 : schR 256 [kc, ke] ⟨5, 256, 9⟩ = 3 ∧ schL 256 [kc, ke] ⟨5, 256, 9⟩ = [kc, ke] := ⟨by decide, rfl⟩
theorem q15 : schR 256 [kc, ke] ⟨5, 300, 3⟩ = 11 ∧ schL 256 [kc, ke] ⟨5, 300, 3⟩ = [kc, ke] := ⟨by decide, rfl⟩
theorem q16 : aOut 256 1000 [kc, ke] = [kc, ke] ∧ aNow 256 1000 = 1000 ∧ aRest 256 1000 [kc, ke] = [] ∧ 0 = aErr 256 1000 := ⟨rfl, rfl, rfl, rfl⟩
theorem q17 : schR 1000 [] ⟨7, 18446744073709551615, 9⟩ = 2 ∧ schL 1000 [] ⟨7, 18446744073709551615, 9⟩ = [] := ⟨by decide, rfl⟩
theorem q18 : schR 1000 [] kf = 0 ∧ schL 1000 [] kf = [kf] := ⟨by decide, rfl⟩
theorem q19 : whE 1000 [kf] 7 = .tuple #[.int .i64 7, .int .i64 255, .int .i64 0] := rfl
theorem q20 : aOut 1000 999 [kf] = [] ∧ aNow 1000 999 = 1000 ∧ aRest 1000 999 [kf] = [kf] ∧ 3 = aErr 1000 999 := ⟨rfl, rfl, rfl, rfl⟩
theorem q21 : aOut 1000 18446744073709551615 [kf] = [kf] ∧ aNow 1000 18446744073709551615 = 18446744073709551615 ∧ aRest 1000 18446744073709551615 [kf] = [] ∧ 0 = aErr 1000 18446744073709551615 := ⟨rfl, rfl, rfl, rfl⟩
set_option maxHeartbeats 4000000 in
theorem known20_ok (w : World) (hT : TabW w) : Calls Tryd.prog 10 #[] w fun e w' => e = .returned (.bool true) ∧ Pure w w' := by
  have HN := Lib.hid (KnS.new (now := 250) hT (by decide))
  have HTm := Lib.hid timed_ok
  clear hT
  have U1 : True := trivial
  have U2 : True := trivial
  have U3 : True := trivial
  have U4 : True := trivial
  have U5 : True := trivial
  have U6 : True := trivial
  have U7 : True := trivial
  have U8 : True := trivial
  have U9 : True := trivial
  have U10 : True := trivial
  have U11 : True := trivial
  have U12 : True := trivial
  have U13 : True := trivial
  have U14 : True := trivial
  have T1 : True := trivial
  have T2 : True := trivial
  have T3 : True := trivial
  have T4 : True := trivial
  have T5 : True := trivial
  have T6 : True := trivial
  have T7 : True := trivial
  have T8 : True := trivial
  have T9 : True := trivial
  have T10 : True := trivial
  have T11 : True := trivial
  have T12 : True := trivial
  have T13 : True := trivial
  have T14 : True := trivial
  have T15 : True := trivial
  have T16 : True := trivial
  have T17 : True := trivial
  have T18 : True := trivial
  have T19 : True := trivial
  have T20 : True := trivial
  have T21 : True := trivial
  go_enter Tryd.func10, Tryd.ntmps10
  go_upto_region 2 with (go_at_call 11; refine Calls.mono HN.out ?_; rintro e w1 ⟨p, D, rfl, hs⟩; have HS := Lib.hid hs; clear hs)
  go_upto_region 4 with (first
    | (go_at_call 12; clear U1; refine Calls.mono (HTm.out 1 255 1 _) ?_; rintro e w' ⟨rfl, hp⟩; replace HS := Lib.hid (HS.out.pure hp); clear hp)
    | (go_at_call 12; clear U2; refine Calls.mono (HTm.out 2 256 2 _) ?_; rintro e w' ⟨rfl, hp⟩; replace HS := Lib.hid (HS.out.pure hp); clear hp)
    | (go_at_call 12; clear U3; refine Calls.mono (HTm.out 3 300 3 _) ?_; rintro e w' ⟨rfl, hp⟩; replace HS := Lib.hid (HS.out.pure hp); clear hp)
    | (go_at_call 12; clear U4; refine Calls.mono (HTm.out 4 70000 4 _) ?_; rintro e w' ⟨rfl, hp⟩; replace HS := Lib.hid (HS.out.pure hp); clear hp)
    | (go_at_call 13; clear T1; refine Calls.mono (HS.out.sched (x := ka) q1.1 q1.2 (by decide) (by decide) (by decide)) ?_; rintro e w' ⟨rfl, D', hs⟩; replace HS := Lib.hid hs; clear hs)
    | (go_at_call 13; clear T2; refine Calls.mono (HS.out.sched (x := kb) q2.1 q2.2 (by decide) (by decide) (by decide)) ?_; rintro e w' ⟨rfl, D', hs⟩; replace HS := Lib.hid hs; clear hs)
    | (go_at_call 13; clear T3; refine Calls.mono (HS.out.sched (x := kc) q3.1 q3.2 (by decide) (by decide) (by decide)) ?_; rintro e w' ⟨rfl, D', hs⟩; replace HS := Lib.hid hs; clear hs)
    | (go_at_call 13; clear T4; refine Calls.mono (HS.out.sched (x := kd) q4.1 q4.2 (by decide) (by decide) (by decide)) ?_; rintro e w' ⟨rfl, D', hs⟩; replace HS := Lib.hid hs; clear hs)
    | (go_at_call 26; clear T5; refine Calls.mono (HS.out.where_ (s := 1) q5 (by decide)) ?_; rintro e w' ⟨rfl, hs⟩; replace HS := Lib.hid hs; clear hs)
    | (go_at_call 26; clear T6; refine Calls.mono (HS.out.where_ (s := 3) q6 (by decide)) ?_; rintro e w' ⟨rfl, hs⟩; replace HS := Lib.hid hs; clear hs)
    | (go_at_call 26; clear T7; refine Calls.mono (HS.out.where_ (s := 4) q7 (by decide)) ?_; rintro e w' ⟨rfl, hs⟩; replace HS := Lib.hid hs; clear hs))
  go_upto_region 6 with (first
    | (go_at_call 12; clear U5; refine Calls.mono (HTm.out 1 255 1 _) ?_; rintro e w' ⟨rfl, hp⟩; replace HS := Lib.hid (HS.out.pure hp); clear hp)
    | (go_at_call 12; clear U6; refine Calls.mono (HTm.out 2 256 2 _) ?_; rintro e w' ⟨rfl, hp⟩; replace HS := Lib.hid (HS.out.pure hp); clear hp)
    | (go_at_call 22; clear T8; refine Calls.mono ((HS.out.pure ((Mod.refl _ _).alloc _)).adv (tt := 255) [ka] _ _ _ q8.1 rfl q8.2.1 q8.2.2.1 q8.2.2.2 (by decide) (lit_read [ka] (n := 1) rfl) (lit_off HS.out)) ?_; rintro e w' ⟨rfl, D', hs⟩; replace HS := Lib.hid hs; clear hs)
    | (go_at_call 26; clear T9; refine Calls.mono (HS.out.where_ (s := 3) q9 (by decide)) ?_; rintro e w' ⟨rfl, hs⟩; replace HS := Lib.hid hs; clear hs)
    | (go_at_call 22; clear T10; refine Calls.mono ((HS.out.pure ((Mod.refl _ _).alloc _)).adv (tt := 256) [kb] _ _ _ q10.1 rfl q10.2.1 q10.2.2.1 q10.2.2.2 (by decide) (lit_read [kb] (n := 1) rfl) (lit_off HS.out)) ?_; rintro e w' ⟨rfl, D', hs⟩; replace HS := Lib.hid hs; clear hs)
    | (go_at_call 26; clear T11; refine Calls.mono (HS.out.where_ (s := 3) q11 (by decide)) ?_; rintro e w' ⟨rfl, hs⟩; replace HS := Lib.hid hs; clear hs)
    | (go_at_call 27; refine Calls.mono (HS.out.next (n := 300) rfl) ?_; rintro e w' ⟨rfl, hs⟩; replace HS := Lib.hid hs; clear hs))
  go_upto_region 8 with (first
    | (go_at_call 25; refine Calls.mono (HS.out.resched (s := 4) (dl := 300) q12.1 q12.2 (by decide) (by decide)) ?_; rintro e w' ⟨rfl, D', hs⟩; replace HS := Lib.hid hs; clear hs)
    | (go_at_call 12; clear U7; refine Calls.mono (HTm.out 5 300 0 _) ?_; rintro e w' ⟨rfl, hp⟩; replace HS := Lib.hid (HS.out.pure hp); clear hp)
    | (go_at_call 12; clear U8; refine Calls.mono (HTm.out 5 256 9 _) ?_; rintro e w' ⟨rfl, hp⟩; replace HS := Lib.hid (HS.out.pure hp); clear hp)
    | (go_at_call 12; clear U9; refine Calls.mono (HTm.out 5 300 3 _) ?_; rintro e w' ⟨rfl, hp⟩; replace HS := Lib.hid (HS.out.pure hp); clear hp)
    | (go_at_call 12; clear U10; refine Calls.mono (HTm.out 3 300 3 _) ?_; rintro e w' ⟨rfl, hp⟩; replace HS := Lib.hid (HS.out.pure hp); clear hp)
    | (go_at_call 12; clear U11; refine Calls.mono (HTm.out 4 300 4 _) ?_; rintro e w' ⟨rfl, hp⟩; replace HS := Lib.hid (HS.out.pure hp); clear hp)
    | (go_at_call 13; clear T13; refine Calls.mono (HS.out.sched (x := ⟨5, 300, 0⟩) q13.1 q13.2 (by decide) (by decide) (by decide)) ?_; rintro e w' ⟨rfl, D', hs⟩; replace HS := Lib.hid hs; clear hs)
    | (go_at_call 13; clear T14; refine Calls.mono (HS.out.sched (x := ⟨5, 256, 9⟩) q14.1 q14.2 (by decide) (by decide) (by decide)) ?_; rintro e w' ⟨rfl, D', hs⟩; replace HS := Lib.hid hs; clear hs)
    | (go_at_call 13; clear T15; refine Calls.mono (HS.out.sched (x := ⟨5, 300, 3⟩) q15.1 q15.2 (by decide) (by decide) (by decide)) ?_; rintro e w' ⟨rfl, D', hs⟩; replace HS := Lib.hid hs; clear hs)
    | (go_at_call 22; clear T16; refine Calls.mono ((HS.out.pure ((Mod.refl _ _).alloc _)).adv (tt := 1000) [kc, ke] _ _ _ q16.1 rfl q16.2.1 q16.2.2.1 q16.2.2.2 (by decide) (lit_read [kc, ke] (n := 2) rfl) (lit_off HS.out)) ?_; rintro e w' ⟨rfl, D', hs⟩; replace HS := Lib.hid hs; clear hs)
    | (go_at_call 15; refine Calls.mono (HS.out.len (n := 0) rfl) ?_; rintro e w' ⟨rfl, hs⟩; replace HS := Lib.hid hs; clear hs))
  go_wp2_with (first
    | (go_at_call 12; clear U12; refine Calls.mono (HTm.out 7 18446744073709551615 9 _) ?_; rintro e w' ⟨rfl, hp⟩; replace HS := Lib.hid (HS.out.pure hp); clear hp)
    | (go_at_call 12; clear U13; refine Calls.mono (HTm.out 7 18446744073709551614 9 _) ?_; rintro e w' ⟨rfl, hp⟩; replace HS := Lib.hid (HS.out.pure hp); clear hp)
    | (go_at_call 12; clear U14; refine Calls.mono (HTm.out 7 18446744073709551614 9 _) ?_; rintro e w' ⟨rfl, hp⟩; replace HS := Lib.hid (HS.out.pure hp); clear hp)
    | (go_at_call 13; clear T17; refine Calls.mono (HS.out.sched (x := ⟨7, 18446744073709551615, 9⟩) q17.1 q17.2 (by decide) (by decide) (by decide)) ?_; rintro e w' ⟨rfl, D', hs⟩; replace HS := Lib.hid hs; clear hs)
    | (go_at_call 13; clear T18; refine Calls.mono (HS.out.sched (x := kf) q18.1 q18.2 (by decide) (by decide) (by decide)) ?_; rintro e w' ⟨rfl, D', hs⟩; replace HS := Lib.hid hs; clear hs)
    | (go_at_call 26; clear T19; refine Calls.mono (HS.out.where_ (s := 7) q19 (by decide)) ?_; rintro e w' ⟨rfl, hs⟩; replace HS := Lib.hid hs; clear hs)
    | (go_at_call 22; clear T20; refine Calls.mono (HS.out.adv (tt := 999) [] _ _ _ q20.1 rfl q20.2.1 q20.2.2.1 q20.2.2.2 (by decide) (ReadAt.nil _ _) (fun g hg => by cases hg)) ?_; rintro e w' ⟨rfl, D', hs⟩; replace HS := Lib.hid hs; clear hs)
    | (go_at_call 22; clear T21; refine Calls.mono ((HS.out.pure ((Mod.refl _ _).alloc _)).adv (tt := 18446744073709551615) [kf] _ _ _ q21.1 rfl q21.2.1 q21.2.2.1 q21.2.2.2 (by decide) (lit_read [kf] (n := 1) rfl) (lit_off HS.out)) ?_; rintro e w' ⟨rfl, D', hs⟩; replace HS := Lib.hid hs; clear hs))
  go_ret
  exact ⟨rfl, HS.out.pu⟩
end Go.Proofs.YtlalpenfgkfkpaaDoor

/- law21.known: it returns true. Condition: the table of math/bits lies in memory. -/
namespace Go.Proofs.YtlalpenfgkfkpaaDoor
open Go.RowKit
set_option maxRecDepth 100000
theorem num_lit {w : World} (l : List Nat) {n : Nat} (hn : l.length = n) : ReadAt (w.alloc (.cells (nums l).toArray 29)) (.slice (some ⟨w.heap.size, 0, none⟩) n n) 1 (nums l) := by
  have := ReadAt.of_block (w := w.alloc (.cells (nums l).toArray 29)) n n 1 (heap_new rfl) (by rw [List.toList_toArray, nums_length, hn, Nat.mul_one]) (by rw [List.toList_toArray]; exact nums_one l)
  exact this
theorem r1 : setR 10 [] 1 20 5 = 0 ∧ setL 10 [] 1 20 5 = [⟨1, 20, 5⟩] := ⟨by decide, rfl⟩
theorem r2 : setR 10 [⟨1, 20, 5⟩] 2 18446744073709551615 6 = 0 ∧ setL 10 [⟨1, 20, 5⟩] 2 18446744073709551615 6 = [⟨1, 20, 5⟩, ⟨2, 18446744073709551615, 6⟩] := ⟨by decide, rfl⟩
theorem r3 : setR 10 [⟨1, 20, 5⟩, ⟨2, 18446744073709551615, 6⟩] 3 20 2 = 0 ∧ setL 10 [⟨1, 20, 5⟩, ⟨2, 18446744073709551615, 6⟩] 3 20 2 = [⟨3, 20, 2⟩, ⟨1, 20, 5⟩, ⟨2, 18446744073709551615, 6⟩] := ⟨by decide, rfl⟩
theorem r4 : setR 10 [⟨3, 20, 2⟩, ⟨1, 20, 5⟩, ⟨2, 18446744073709551615, 6⟩] 4 15 9 = 0 ∧ setL 10 [⟨3, 20, 2⟩, ⟨1, 20, 5⟩, ⟨2, 18446744073709551615, 6⟩] 4 15 9 = [⟨4, 15, 9⟩, ⟨3, 20, 2⟩, ⟨1, 20, 5⟩, ⟨2, 18446744073709551615, 6⟩] := ⟨by decide, rfl⟩
theorem r5 : setR 10 [⟨4, 15, 9⟩, ⟨3, 20, 2⟩, ⟨1, 20, 5⟩, ⟨2, 18446744073709551615, 6⟩] 1 20 7 = 11 ∧ setL 10 [⟨4, 15, 9⟩, ⟨3, 20, 2⟩, ⟨1, 20, 5⟩, ⟨2, 18446744073709551615, 6⟩] 1 20 7 = [⟨4, 15, 9⟩, ⟨3, 20, 2⟩, ⟨1, 20, 5⟩, ⟨2, 18446744073709551615, 6⟩] := ⟨by decide, rfl⟩
theorem r6 : setR 10 [⟨4, 15, 9⟩, ⟨3, 20, 2⟩, ⟨1, 20, 5⟩, ⟨2, 18446744073709551615, 6⟩] 9 30 6 = 11 ∧ setL 10 [⟨4, 15, 9⟩, ⟨3, 20, 2⟩, ⟨1, 20, 5⟩, ⟨2, 18446744073709551615, 6⟩] 9 30 6 = [⟨4, 15, 9⟩, ⟨3, 20, 2⟩, ⟨1, 20, 5⟩, ⟨2, 18446744073709551615, 6⟩] := ⟨by decide, rfl⟩
theorem r7 : setR 10 [⟨4, 15, 9⟩, ⟨3, 20, 2⟩, ⟨1, 20, 5⟩, ⟨2, 18446744073709551615, 6⟩] 5 10 8 = 3 ∧ setL 10 [⟨4, 15, 9⟩, ⟨3, 20, 2⟩, ⟨1, 20, 5⟩, ⟨2, 18446744073709551615, 6⟩] 5 10 8 = [⟨4, 15, 9⟩, ⟨3, 20, 2⟩, ⟨1, 20, 5⟩, ⟨2, 18446744073709551615, 6⟩] := ⟨by decide, rfl⟩
theorem r8 : setR 10 [⟨4, 15, 9⟩, ⟨3, 20, 2⟩, ⟨1, 20, 5⟩, ⟨2, 18446744073709551615, 6⟩] 4 18446744073709551615 9 = 0 ∧ setL 10 [⟨4, 15, 9⟩, ⟨3, 20, 2⟩, ⟨1, 20, 5⟩, ⟨2, 18446744073709551615, 6⟩] 4 18446744073709551615 9 = [⟨3, 20, 2⟩, ⟨1, 20, 5⟩, ⟨2, 18446744073709551615, 6⟩, ⟨4, 18446744073709551615, 9⟩] := ⟨by decide, rfl⟩
theorem r9 : dueE 19 [⟨3, 20, 2⟩, ⟨1, 20, 5⟩, ⟨2, 18446744073709551615, 6⟩, ⟨4, 18446744073709551615, 9⟩] = [] ∧ restE 19 [⟨3, 20, 2⟩, ⟨1, 20, 5⟩, ⟨2, 18446744073709551615, 6⟩, ⟨4, 18446744073709551615, 9⟩] = [⟨3, 20, 2⟩, ⟨1, 20, 5⟩, ⟨2, 18446744073709551615, 6⟩, ⟨4, 18446744073709551615, 9⟩] := ⟨rfl, rfl⟩
theorem r10 : dueE 20 [⟨3, 20, 2⟩, ⟨1, 20, 5⟩, ⟨2, 18446744073709551615, 6⟩, ⟨4, 18446744073709551615, 9⟩] = [⟨3, 20, 2⟩, ⟨1, 20, 5⟩] ∧ restE 20 [⟨3, 20, 2⟩, ⟨1, 20, 5⟩, ⟨2, 18446744073709551615, 6⟩, ⟨4, 18446744073709551615, 9⟩] = [⟨2, 18446744073709551615, 6⟩, ⟨4, 18446744073709551615, 9⟩] := ⟨rfl, rfl⟩
theorem r11 : dueE 20 [⟨2, 18446744073709551615, 6⟩, ⟨4, 18446744073709551615, 9⟩] = [] ∧ restE 20 [⟨2, 18446744073709551615, 6⟩, ⟨4, 18446744073709551615, 9⟩] = [⟨2, 18446744073709551615, 6⟩, ⟨4, 18446744073709551615, 9⟩] := ⟨rfl, rfl⟩
theorem r12 : (getT [⟨2, 18446744073709551615, 6⟩, ⟨4, 18446744073709551615, 9⟩] 2).1.dl = 18446744073709551615 ∧ (getT [⟨2, 18446744073709551615, 6⟩, ⟨4, 18446744073709551615, 9⟩] 2).1.birth = 6 ∧ (getT [⟨2, 18446744073709551615, 6⟩, ⟨4, 18446744073709551615, 9⟩] 2).2 = 0 := ⟨by decide, by decide, by decide⟩
theorem r13 : renR [0, 0, 7, 0, 2] [⟨2, 18446744073709551615, 6⟩, ⟨4, 18446744073709551615, 9⟩] = 0 ∧ renM [0, 0, 7, 0, 2] [⟨2, 18446744073709551615, 6⟩, ⟨4, 18446744073709551615, 9⟩] = [⟨7, 18446744073709551615, 6⟩, ⟨2, 18446744073709551615, 9⟩] := ⟨by decide, rfl⟩
theorem r14 : (getT [⟨7, 18446744073709551615, 6⟩, ⟨2, 18446744073709551615, 9⟩] 7).1.dl = 18446744073709551615 ∧ (getT [⟨7, 18446744073709551615, 6⟩, ⟨2, 18446744073709551615, 9⟩] 7).1.birth = 6 ∧ (getT [⟨7, 18446744073709551615, 6⟩, ⟨2, 18446744073709551615, 9⟩] 7).2 = 0 := ⟨by decide, by decide, by decide⟩
theorem r15 : (getT [⟨7, 18446744073709551615, 6⟩, ⟨2, 18446744073709551615, 9⟩] 4).1.dl = 0 ∧ (getT [⟨7, 18446744073709551615, 6⟩, ⟨2, 18446744073709551615, 9⟩] 4).1.birth = 0 ∧ (getT [⟨7, 18446744073709551615, 6⟩, ⟨2, 18446744073709551615, 9⟩] 4).2 = 9 := ⟨by decide, by decide, by decide⟩
theorem r16 : (getT [⟨7, 18446744073709551615, 6⟩, ⟨2, 18446744073709551615, 9⟩] 2).2 = 0 ∧ canL [⟨7, 18446744073709551615, 6⟩, ⟨2, 18446744073709551615, 9⟩] 2 = [⟨7, 18446744073709551615, 6⟩] := ⟨by decide, rfl⟩
theorem r17 : (getT [⟨7, 18446744073709551615, 6⟩] 2).2 = 9 ∧ canL [⟨7, 18446744073709551615, 6⟩] 2 = [⟨7, 18446744073709551615, 6⟩] := ⟨by decide, rfl⟩
theorem r18 : dueE 18446744073709551615 [⟨7, 18446744073709551615, 6⟩] = [] ∧ restE 18446744073709551615 [⟨7, 18446744073709551615, 6⟩] = [⟨7, 18446744073709551615, 6⟩] := ⟨rfl, rfl⟩
set_option maxHeartbeats 4000000 in
theorem known21_ok (w : World) (hT : TabW w) : Calls Tryd.prog 32 #[] w fun e w' => e = .returned (.bool true) ∧ Pure w w' := by
  have HN := Lib.hid (KnD.new (now := 10) hT (by decide))
  clear hT
  have U1 : True := trivial
  have U2 : True := trivial
  have U3 : True := trivial
  have U4 : True := trivial
  have U5 : True := trivial
  have U6 : True := trivial
  have HX1 : Hid (∀ W, Calls Tryd.prog 68 #[.int .u32 4, .int .u64 15, .int .u64 9] W fun e w' => e = .returned (.agg #[.int .u32 4, .int .u64 15, .int .u64 9]) ∧ Pure W w') := Lib.hid (fun W => timed21_ok 4 15 9 W)
  have HX2 : Hid (∀ W, Calls Tryd.prog 68 #[.int .u32 3, .int .u64 20, .int .u64 2] W fun e w' => e = .returned (.agg #[.int .u32 3, .int .u64 20, .int .u64 2]) ∧ Pure W w') := Lib.hid (fun W => timed21_ok 3 20 2 W)
  have HX3 : Hid (∀ W, Calls Tryd.prog 68 #[.int .u32 1, .int .u64 20, .int .u64 5] W fun e w' => e = .returned (.agg #[.int .u32 1, .int .u64 20, .int .u64 5]) ∧ Pure W w') := Lib.hid (fun W => timed21_ok 1 20 5 W)
  have HX4 : Hid (∀ W, Calls Tryd.prog 68 #[.int .u32 2, .int .u64 18446744073709551615, .int .u64 6] W fun e w' => e = .returned (.agg #[.int .u32 2, .int .u64 18446744073709551615, .int .u64 6]) ∧ Pure W w') := Lib.hid (fun W => timed21_ok 2 18446744073709551615 6 W)
  have HX5 : Hid (∀ W, Calls Tryd.prog 68 #[.int .u32 3, .int .u64 20, .int .u64 2] W fun e w' => e = .returned (.agg #[.int .u32 3, .int .u64 20, .int .u64 2]) ∧ Pure W w') := Lib.hid (fun W => timed21_ok 3 20 2 W)
  have HX6 : Hid (∀ W, Calls Tryd.prog 68 #[.int .u32 1, .int .u64 20, .int .u64 5] W fun e w' => e = .returned (.agg #[.int .u32 1, .int .u64 20, .int .u64 5]) ∧ Pure W w') := Lib.hid (fun W => timed21_ok 1 20 5 W)
  have T1 : True := trivial
  have T2 : True := trivial
  have T3 : True := trivial
  have T4 : True := trivial
  have T5 : True := trivial
  have T6 : True := trivial
  have T7 : True := trivial
  have T8 : True := trivial
  have T9 : True := trivial
  have T10 : True := trivial
  have T11 : True := trivial
  have T12 : True := trivial
  have T13 : True := trivial
  have T14 : True := trivial
  have T15 : True := trivial
  have T16 : True := trivial
  have T17 : True := trivial
  have T18 : True := trivial
  go_enter Tryd.func32, Tryd.ntmps32
  go_upto_region 2 with (go_at_call 33; refine Calls.mono HN.out ?_; rintro e w1 ⟨p, D, rfl, hs⟩; have HS := Lib.hid hs; clear hs)
  go_upto_region 4 with (first
    | (go_at_call 34; clear T1; refine Calls.mono (HS.out.set (s := 1) (dl := 20) (b := 5) (by decide) (by decide) (by decide) r1.1 r1.2) ?_; rintro e w' ⟨rfl, D', hs⟩; replace HS := Lib.hid hs; clear hs)
    | (go_at_call 34; clear T2; refine Calls.mono (HS.out.set (s := 2) (dl := 18446744073709551615) (b := 6) (by decide) (by decide) (by decide) r2.1 r2.2) ?_; rintro e w' ⟨rfl, D', hs⟩; replace HS := Lib.hid hs; clear hs)
    | (go_at_call 34; clear T3; refine Calls.mono (HS.out.set (s := 3) (dl := 20) (b := 2) (by decide) (by decide) (by decide) r3.1 r3.2) ?_; rintro e w' ⟨rfl, D', hs⟩; replace HS := Lib.hid hs; clear hs)
    | (go_at_call 34; clear T4; refine Calls.mono (HS.out.set (s := 4) (dl := 15) (b := 9) (by decide) (by decide) (by decide) r4.1 r4.2) ?_; rintro e w' ⟨rfl, D', hs⟩; replace HS := Lib.hid hs; clear hs)
    | (go_at_call 34; clear T5; refine Calls.mono (HS.out.set (s := 1) (dl := 20) (b := 7) (by decide) (by decide) (by decide) r5.1 r5.2) ?_; rintro e w' ⟨rfl, D', hs⟩; replace HS := Lib.hid hs; clear hs)
    | (go_at_call 34; clear T6; refine Calls.mono (HS.out.set (s := 9) (dl := 30) (b := 6) (by decide) (by decide) (by decide) r6.1 r6.2) ?_; rintro e w' ⟨rfl, D', hs⟩; replace HS := Lib.hid hs; clear hs)
    | (go_at_call 34; clear T7; refine Calls.mono (HS.out.set (s := 5) (dl := 10) (b := 8) (by decide) (by decide) (by decide) r7.1 r7.2) ?_; rintro e w' ⟨rfl, D', hs⟩; replace HS := Lib.hid hs; clear hs))
  go_upto_region 6 with (first
    | (go_at_call 36; refine Calls.mono (HS.out.all (n := 4) rfl) ?_; rintro e w' ⟨a, c, rfl, hw, hs⟩; replace HS := Lib.hid hs; have HW := Lib.hid hw; clear hs hw)
    | (go_at_call 68; clear U1; refine Calls.mono (HX1.out _) ?_; rintro e w' ⟨rfl, hp⟩; replace HS := Lib.hid (HS.out.pure hp); (try replace HW := Lib.hid (HW.out.pure hp)); clear hp)
    | (go_at_call 68; clear U2; refine Calls.mono (HX2.out _) ?_; rintro e w' ⟨rfl, hp⟩; replace HS := Lib.hid (HS.out.pure hp); (try replace HW := Lib.hid (HW.out.pure hp)); clear hp)
    | (go_at_call 68; clear U3; refine Calls.mono (HX3.out _) ?_; rintro e w' ⟨rfl, hp⟩; replace HS := Lib.hid (HS.out.pure hp); (try replace HW := Lib.hid (HW.out.pure hp)); clear hp)
    | (go_at_call 68; clear U4; refine Calls.mono (HX4.out _) ?_; rintro e w' ⟨rfl, hp⟩; replace HS := Lib.hid (HS.out.pure hp); (try replace HW := Lib.hid (HW.out.pure hp)); clear hp)
    | (go_at_call 17; refine Calls.mono (rsame_ok (L := [⟨4, 15, 9⟩, ⟨3, 20, 2⟩, ⟨1, 20, 5⟩, ⟨2, 18446744073709551615, 6⟩]) (HW.out.pure ((Mod.refl _ _).alloc _)).rd (lit_read [⟨4, 15, 9⟩, ⟨3, 20, 2⟩, ⟨1, 20, 5⟩, ⟨2, 18446744073709551615, 6⟩] (n := 4) rfl) rfl (by decide)) ?_; rintro e w' ⟨rfl, hp⟩; have hp := ((Mod.refl (fun _ => False) _).alloc _).trans hp; replace HS := Lib.hid (HS.out.pure hp); clear HW hp)
    | (go_at_call 42; refine Calls.mono (HS.out.lens (a := 4) (b := 3) rfl rfl) ?_; rintro e w' ⟨rfl, hs⟩; replace HS := Lib.hid hs; clear hs)
    | (go_at_call 41; refine Calls.mono (HS.out.next (n := 15) rfl) ?_; rintro e w' ⟨rfl, hs⟩; replace HS := Lib.hid hs; clear hs))
  go_upto_region 8 with (first
    | (go_at_call 34; clear T8; refine Calls.mono (HS.out.set (s := 4) (dl := 18446744073709551615) (b := 9) (by decide) (by decide) (by decide) r8.1 r8.2) ?_; rintro e w' ⟨rfl, D', hs⟩; replace HS := Lib.hid hs; clear hs)
    | (go_at_call 37; clear T9; refine Calls.mono (HS.out.expire (t0 := 19) (by decide) (now' := 19) (n := 0) (by decide) r9.1 r9.2 rfl) ?_; rintro e w' ⟨a, c, rfl, hw, D', hs⟩; replace HS := Lib.hid hs; clear hs hw)
    | (go_at_call 37; clear T10; refine Calls.mono (HS.out.expire (t0 := 20) (by decide) (now' := 20) (n := 2) (by decide) r10.1 r10.2 rfl) ?_; rintro e w' ⟨a, c, rfl, hw, D', hs⟩; replace HS := Lib.hid hs; have HW := Lib.hid hw; clear hs hw)
    | (go_at_call 68; clear U5; refine Calls.mono (HX5.out _) ?_; rintro e w' ⟨rfl, hp⟩; replace HS := Lib.hid (HS.out.pure hp); (try replace HW := Lib.hid (HW.out.pure hp)); clear hp)
    | (go_at_call 68; clear U6; refine Calls.mono (HX6.out _) ?_; rintro e w' ⟨rfl, hp⟩; replace HS := Lib.hid (HS.out.pure hp); (try replace HW := Lib.hid (HW.out.pure hp)); clear hp)
    | (go_at_call 17; refine Calls.mono (rsame_ok (L := [⟨3, 20, 2⟩, ⟨1, 20, 5⟩]) (HW.out.pure ((Mod.refl _ _).alloc _)).rd (lit_read [⟨3, 20, 2⟩, ⟨1, 20, 5⟩] (n := 2) rfl) rfl (by decide)) ?_; rintro e w' ⟨rfl, hp⟩; have hp := ((Mod.refl (fun _ => False) _).alloc _).trans hp; replace HS := Lib.hid (HS.out.pure hp); clear HW hp)
    | (go_at_call 38; refine Calls.mono HS.out.now_ ?_; rintro e w' ⟨rfl, hs⟩; replace HS := Lib.hid hs; clear hs)
    | (go_at_call 37; clear T11; refine Calls.mono (HS.out.expire (t0 := 5) (by decide) (now' := 20) (n := 0) (by decide) r11.1 r11.2 rfl) ?_; rintro e w' ⟨a, c, rfl, hw, D', hs⟩; replace HS := Lib.hid hs; clear hs hw)
    | (go_at_call 40; clear T12; refine Calls.mono (HS.out.gets (s := 2) (dl := 18446744073709551615) (b := 6) (by decide) r12.1 r12.2.1 r12.2.2) ?_; rintro e w' ⟨rfl, hs⟩; replace HS := Lib.hid hs; clear hs))
  go_wp2_with (first
    | (go_at_call 43; refine Calls.mono ((HS.out.pure ((Mod.refl _ _).alloc _)).renumber (tv := [0, 0, 7, 0, 2]) (n0 := 5) (num_lit [0, 0, 7, 0, 2] rfl) rfl (by decide) (by decide) r13.1 r13.2) ?_; rintro e w' ⟨rfl, D', hs⟩; replace HS := Lib.hid hs; clear hs)
    | (go_at_call 40; clear T14; refine Calls.mono (HS.out.gets (s := 7) (dl := 18446744073709551615) (b := 6) (by decide) r14.1 r14.2.1 r14.2.2) ?_; rintro e w' ⟨rfl, hs⟩; replace HS := Lib.hid hs; clear hs)
    | (go_at_call 40; clear T15; refine Calls.mono (HS.out.gets (s := 4) (dl := 0) (b := 0) (by decide) r15.1 r15.2.1 r15.2.2) ?_; rintro e w' ⟨rfl, hs⟩; replace HS := Lib.hid hs; clear hs)
    | (go_at_call 35; clear T16; refine Calls.mono (HS.out.remove (s := 2) (by decide) r16.1 r16.2) ?_; rintro e w' ⟨rfl, D', hs⟩; replace HS := Lib.hid hs; clear hs)
    | (go_at_call 35; clear T17; refine Calls.mono (HS.out.remove (s := 2) (by decide) r17.1 r17.2) ?_; rintro e w' ⟨rfl, D', hs⟩; replace HS := Lib.hid hs; clear hs)
    | (go_at_call 37; clear T18; refine Calls.mono (HS.out.expire (t0 := 18446744073709551615) (by decide) (now' := 18446744073709551615) (n := 0) (by decide) r18.1 r18.2 rfl) ?_; rintro e w' ⟨a, c, rfl, hw, D', hs⟩; replace HS := Lib.hid hs; clear hs hw)
    | (go_at_call 42; refine Calls.mono (HS.out.lens (a := 1) (b := 0) rfl rfl) ?_; rintro e w' ⟨rfl, hs⟩; replace HS := Lib.hid hs; clear hs))
  go_ret
  exact ⟨rfl, HS.out.pu⟩
end Go.Proofs.YtlalpenfgkfkpaaDoor

/- due: nil and zero deadlines; law21.DueNil. Conditions: the zero ones lie in memory. -/
namespace Go.Proofs.YtlalpenfgkfkpaaDoor
open Go.RowKit
set_option maxRecDepth 100000
/-- Nil deadlines, or zero ones. -/
def NilU (w : World) (v : Value) : Prop := v = .pointer none ∨ ∃ p, v = lkP p ∧ w.heap[p]? = some (.cells #[.pointer none, .map none, .map none] 85 (0, 0))
section
variable {w w' : World} {v : Value}
theorem NilU.pure (h : NilU w v) (hm : Pure w w') : NilU w' v := by
  rcases h with h | ⟨p, h1, h2⟩
  · exact .inl h
  · exact .inr ⟨p, h1, hm.heap (fun h => h) h2⟩
theorem nucheck_ok (h : NilU w v) (s : Int) : Calls Tryd.prog 69 #[v, .int .u32 s] w fun e w' => e = .returned (.int .i64 1) ∧ w = w' := by
  rcases h with rfl | ⟨p, rfl, h⟩
  · go_enter Tryd.func69, Tryd.ntmps69
    go_wp2
    go_ret
    exact ⟨rfl, rfl⟩
  · have c0 : w.cell? ⟨p, 0, none⟩ = some (.pointer none) := by rw [cell_of_row w p 0 _ _ (0, 0) h]; rfl
    clear h
    go_enter Tryd.func69, Tryd.ntmps69
    go_wp2
    go_ret
    exact ⟨rfl, rfl⟩
theorem nuset (h : NilU w v) (s d b : Int) : Calls Tryd.prog 34 #[v, .int .u32 s, .int .u64 d, .int .u64 b] w fun e w' => e = .returned (.int .i64 1) ∧ w = w' := by
  have HCk := Lib.hid (nucheck_ok h)
  clear h
  go_enter Tryd.func34, Tryd.ntmps34
  go_wp2_with (go_at_call 69; refine Calls.mono (HCk.out _) ?_; rintro e w' ⟨rfl, rfl⟩)
  exact bodyPost_ret (v := .int .i64 1) (by simp [results, Tryd.results34, go_sem]) rfl ⟨rfl, rfl⟩
theorem nuremove (h : NilU w v) (s : Int) : Calls Tryd.prog 35 #[v, .int .u32 s] w fun e w' => e = .returned (.int .i64 1) ∧ w = w' := by
  have HCk := Lib.hid (nucheck_ok h)
  clear h
  go_enter Tryd.func35, Tryd.ntmps35
  go_wp2_with (go_at_call 69; refine Calls.mono (HCk.out _) ?_; rintro e w' ⟨rfl, rfl⟩)
  exact bodyPost_ret (v := .int .i64 1) (by simp [results, Tryd.results35, go_sem]) rfl ⟨rfl, rfl⟩
theorem nuget (h : NilU w v) (s : Int) : Calls Tryd.prog 74 #[v, .int .u32 s] w fun e w' => e = .returned (.tuple #[.int .u64 0, .int .u64 0, .int .i64 1]) ∧ w = w' := by
  have HCk := Lib.hid (nucheck_ok h)
  clear h
  go_enter Tryd.func74, Tryd.ntmps74
  go_wp2_with (go_at_call 69; refine Calls.mono (HCk.out _) ?_; rintro e w' ⟨rfl, rfl⟩)
  exact bodyPost_ret (v := .tuple #[.int .u64 0, .int .u64 0, .int .i64 1]) (by simp [results, Tryd.results74, go_sem]) rfl ⟨rfl, rfl⟩
theorem nuexpire (h : NilU w v) (d : Int) : Calls Tryd.prog 37 #[v, .int .u64 d] w fun e w' => e = .returned (.slice none 0 0) ∧ w = w' := by
  have HCk := Lib.hid (nucheck_ok h)
  clear h
  go_enter Tryd.func37, Tryd.ntmps37
  go_wp2_with (go_at_call 69; refine Calls.mono (HCk.out _) ?_; rintro e w' ⟨rfl, rfl⟩)
  exact bodyPost_ret (v := .slice none 0 0) (by simp [results, Tryd.results37, go_sem]) rfl ⟨rfl, rfl⟩
theorem nunext (h : NilU w v) : Calls Tryd.prog 41 #[v] w fun e w' => e = .returned (.int .u64 18446744073709551615) ∧ w = w' := by
  have HCk := Lib.hid (nucheck_ok h)
  clear h
  go_enter Tryd.func41, Tryd.ntmps41
  go_wp2_with (go_at_call 69; refine Calls.mono (HCk.out _) ?_; rintro e w' ⟨rfl, rfl⟩)
  exact bodyPost_ret (v := .int .u64 18446744073709551615) (by simp [results, Tryd.results41, go_sem]) rfl ⟨rfl, rfl⟩
theorem nunow (h : NilU w v) : Calls Tryd.prog 38 #[v] w fun e w' => e = .returned (.int .u64 0) ∧ w = w' := by
  have HCk := Lib.hid (nucheck_ok h)
  clear h
  go_enter Tryd.func38, Tryd.ntmps38
  go_wp2_with (go_at_call 69; refine Calls.mono (HCk.out _) ?_; rintro e w' ⟨rfl, rfl⟩)
  exact bodyPost_ret (v := .int .u64 0) (by simp [results, Tryd.results38, go_sem]) rfl ⟨rfl, rfl⟩
theorem nulen (h : NilU w v) : Calls Tryd.prog 75 #[v] w fun e w' => e = .returned (.tuple #[.int .i64 0, .int .i64 0]) ∧ w = w' := by
  have HCk := Lib.hid (nucheck_ok h)
  clear h
  go_enter Tryd.func75, Tryd.ntmps75
  go_wp2_with (go_at_call 69; refine Calls.mono (HCk.out _) ?_; rintro e w' ⟨rfl, rfl⟩)
  exact bodyPost_ret (v := .tuple #[.int .i64 0, .int .i64 0]) (by simp [results, Tryd.results75, go_sem]) rfl ⟨rfl, rfl⟩
theorem nuall (h : NilU w v) : Calls Tryd.prog 36 #[v] w fun e w' => e = .returned (.slice none 0 0) ∧ w = w' := by
  have HCk := Lib.hid (nucheck_ok h)
  clear h
  go_enter Tryd.func36, Tryd.ntmps36
  go_wp2_with (go_at_call 69; refine Calls.mono (HCk.out _) ?_; rintro e w' ⟨rfl, rfl⟩)
  exact bodyPost_ret (v := .slice none 0 0) (by simp [results, Tryd.results36, go_sem]) rfl ⟨rfl, rfl⟩
theorem nurenumber (h : NilU w v) (x : Value) : Calls Tryd.prog 43 #[v, x] w fun e w' => e = .returned (.int .i64 1) ∧ w = w' := by
  have HCk := Lib.hid (nucheck_ok h)
  clear h
  go_enter Tryd.func43, Tryd.ntmps43
  go_wp2_with (go_at_call 69; refine Calls.mono (HCk.out _) ?_; rintro e w' ⟨rfl, rfl⟩)
  exact bodyPost_ret (v := .int .i64 1) (by simp [results, Tryd.results43, go_sem]) rfl ⟨rfl, rfl⟩
theorem nucopy (h : NilU w v) : Calls Tryd.prog 44 #[v] w fun e w' => e = .returned (.pointer none) ∧ w = w' := by
  have HCk := Lib.hid (nucheck_ok h)
  clear h
  go_enter Tryd.func44, Tryd.ntmps44
  go_wp2_with (go_at_call 69; refine Calls.mono (HCk.out _) ?_; rintro e w' ⟨rfl, rfl⟩)
  exact bodyPost_ret (v := .pointer none) (by simp [results, Tryd.results44, go_sem]) rfl ⟨rfl, rfl⟩
theorem nugets (h : NilU w v) (s : Int) : Calls Tryd.prog 40 #[v, .int .u32 s, .int .u64 0, .int .u64 0, .int .i64 1] w fun e w' => e = .returned (.bool true) ∧ w = w' := by
  have HG := Lib.hid (nuget h)
  clear h
  go_enter Tryd.func40, Tryd.ntmps40
  go_wp2_with (go_at_call 74; refine Calls.mono (HG.out _) ?_; rintro e w' ⟨rfl, rfl⟩)
  go_ret
  exact ⟨by simp, rfl⟩
theorem nulens (h : NilU w v) : Calls Tryd.prog 42 #[v, .int .i64 0, .int .i64 0] w fun e w' => e = .returned (.bool true) ∧ w = w' := by
  have HG := Lib.hid (nulen h)
  clear h
  go_enter Tryd.func42, Tryd.ntmps42
  go_wp2_with (go_at_call 75; refine Calls.mono HG.out ?_; rintro e w' ⟨rfl, rfl⟩)
  go_ret
  exact ⟨by simp, rfl⟩
end
set_option maxHeartbeats 2000000 in
theorem DueNil_true (w : World) (hT : TabW w) (s : Nat) (_ : s < 4294967296) (d : Nat) (_ : d < 18446744073709551616) (b : Nat) (_ : b < 18446744073709551616) : Calls Tryd.prog 8 #[.int .u32 s, .int .u64 d, .int .u64 b] w fun e w' => e = .returned (.bool true) ∧ Pure w w' := by
  have a1 : Pure w (w.alloc (.cells #[.pointer none, .map none, .map none] 85)) := (Mod.refl _ w).alloc _
  have x1 := heap_new (w := w) (o := .cells #[.pointer none, .map none, .map none] 85 (0, 0)) rfl
  have a2 : Pure (w.alloc (.cells #[.pointer none, .map none, .map none] 85)) ((w.alloc (.cells #[.pointer none, .map none, .map none] 85)).alloc (.cells #[.pointer none, lkP w.heap.size] 72)) := (Mod.refl _ _).alloc _
  have x2 := heap_new (w := w.alloc (.cells #[.pointer none, .map none, .map none] 85)) (o := .cells #[.pointer none, lkP w.heap.size] 72 (0, 0)) (n := w.heap.size + 1) (by simp)
  have x1 := a2.heap (fun h => h) x1
  have aa := a1.trans a2
  have HKn := Lib.hid (fun (W : World) (hW : Pure w W) => known21_ok W (hT.pure hW))
  clear a1 a2 hT
  have X1 := Lib.hid x1; have X2 := Lib.hid x2; have AA := Lib.hid aa
  clear x1 x2 aa
  go_enter Tryd.func8, Tryd.ntmps8
  go_upto_region 2 with fail
  generalize (w.alloc (.cells #[.pointer none, .map none, .map none] 85)).alloc (.cells #[.pointer none, lkP w.heap.size] 72) = W at *
  obtain ⟨bx, hbx⟩ : ∃ bx, w.heap.size = bx := ⟨_, rfl⟩
  simp only [hbx] at X1 X2 ⊢
  clear hbx
  go_loopw [13] (fun v13 wr => ∃ i : Nat, v13 = .int .i64 (i : Nat) ∧ i ≤ 2 ∧ W = wr) (fun v13 _ => 2 - (intOf v13).toNat)
  case atStart => exact ⟨0, rfl, Nat.zero_le _, rfl⟩
  case round =>
    obtain ⟨i, rfl, hi2, rfl⟩ := hrel
    by_cases hlt : i < 2
    · have hlt' : (i : Int) < 2 := by omega
      have i0 : (0 : Int) ≤ (i : Int) := by omega
      have wi : IntKind.i64.wrap ((i : Int) + 1) = (i : Int) + 1 := IntWalk.i64_in _ (by omega)
      obtain ⟨v, hv, hn⟩ : ∃ v, W.cell? ⟨bx + 1, i, none⟩ = some v ∧ NilU W v := by
        rcases (show i = 0 ∨ i = 1 by omega) with rfl | rfl
        · exact ⟨.pointer none, by rw [cell_of_row W _ 0 _ _ (0, 0) X2.out]; rfl, .inl rfl⟩
        · exact ⟨lkP bx, by rw [cell_of_row W _ 1 _ _ (0, 0) X2.out]; rfl, .inr ⟨bx, rfl, X1.out⟩⟩
      have HN := Lib.hid hn
      clear hn
      go_upto_region 6 with (first
        | (go_at_call 34; refine Calls.mono (nuset HN.out _ _ _) ?_; rintro e w' ⟨rfl, rfl⟩)
        | (go_at_call 35; refine Calls.mono (nuremove HN.out _) ?_; rintro e w' ⟨rfl, rfl⟩)
        | (go_at_call 40; refine Calls.mono (nugets HN.out _) ?_; rintro e w' ⟨rfl, rfl⟩)
        | (go_at_call 37; refine Calls.mono (nuexpire HN.out _) ?_; rintro e w' ⟨rfl, rfl⟩)
        | (go_at_call 41; refine Calls.mono (nunext HN.out) ?_; rintro e w' ⟨rfl, rfl⟩)
        | (go_at_call 38; refine Calls.mono (nunow HN.out) ?_; rintro e w' ⟨rfl, rfl⟩)
        | (go_at_call 42; refine Calls.mono (nulens HN.out) ?_; rintro e w' ⟨rfl, rfl⟩)
        | (go_at_call 36; refine Calls.mono (nuall HN.out) ?_; rintro e w' ⟨rfl, rfl⟩)
        | (go_at_call 43; refine Calls.mono (nurenumber HN.out _) ?_; rintro e w' ⟨rfl, rfl⟩)
        | (go_at_call 44; refine Calls.mono (nucopy HN.out) ?_; rintro e w' ⟨rfl, rfl⟩))
      go_wp2
      go_roundw
      case rel => exact ⟨i + 1, by go_num, hlt, by trivial⟩
      case measure => simp [intOf]; omega
    · have e : i = 2 := by omega
      subst e
      go_wp2_with (go_at_call 32; refine Calls.mono (HKn.out _ AA.out) ?_; rintro e w' ⟨rfl, hp⟩)
      have hpp := AA.out.trans hp
      exact bodyPost_ret (v := .bool true) (by simp [results, Tryd.results8, go_sem]) rfl ⟨rfl, hpp⟩
end Go.Proofs.YtlalpenfgkfkpaaDoor
