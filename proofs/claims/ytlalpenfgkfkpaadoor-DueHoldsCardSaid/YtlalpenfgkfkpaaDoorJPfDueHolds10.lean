/- Lemmas and contracts of functions, strung together out of 10 texts. No condition. -/
import Derived.Test.YtlalpenfgkfkpaaDoorJPfDueHolds9
import Derived.Test.YtlalpenfgkfkpaaDoorJPfDueHolds7
import Derived.Test.YtlalpenfgkfkpaaDoorJPfDueHolds6
import Derived.Test.YtlalpenfgkfkpaaDoorJPfDueHolds8
/- The reference of cascade: Out, Advance. Conditions: the lists lie in memory. -/
namespace Go.Proofs.YtlalpenfgkfkpaaDoor
open Go.RowKit Go.Shelf
set_option maxRecDepth 100000
set_option maxHeartbeats 2000000 in
theorem rout_ok {w : World} {a : Option Addr} {n c i : Nat} {L : List Td} (h : ReadAt w (.slice a n c) 3 (L.flatMap tdC)) (hn : L.length = n) (hl : n ≤ 4194304) (hnc : n ≤ c) (hi : i < n) :
    Calls Tryd.prog 92 #[.slice a n c, .int .i64 i] w fun e w' => ∃ a' c', e = .returned (.slice a' (n - 1) c') ∧ TdRow w' a' c' (L.eraseIdx i) ∧ FreshV w (.slice a' (n - 1) c') ∧ Pure w w' := by
  cases a with
  | none =>
    obtain ⟨_, _, _, e, _, _, h0, _⟩ := h
    injection e with e1 e2 e3
    have := h0 e1.symm
    omega
  | some ad =>
  obtain ⟨k, hk⟩ : ∃ k, i + 1 = k := ⟨_, rfl⟩
  have hkn : k ≤ n := by omega
  have hpre := rd_pre h (j := i) (by omega)
  have hsuf := rd_sufI h (j := k) hkn hnc
  have hpl : (L.take i).length = i := by rw [List.length_take, hn]; omega
  have hsl : (L.drop k).length = n - k := by rw [List.length_drop, hn]
  have her : (L.eraseIdx i).flatMap tdC = (L.take i).flatMap tdC ++ (L.drop k).flatMap tdC := by
    rw [List.eraseIdx_eq_take_drop_succ, List.flatMap_append, hk]
  have hel : (L.eraseIdx i).length = n - 1 := by rw [List.length_eraseIdx, hn, if_pos hi]
  obtain ⟨sv, hsv⟩ : ∃ v, (if c = k then some ad else some (ad.add (k * 3))) = v := ⟨_, rfl⟩
  rw [hsv] at hsuf
  have HSuf := Lib.hid hsuf; have HPre := Lib.hid hpre; have HPL := Lib.hid hpl; have HSL := Lib.hid hsl; have HSV := Lib.hid hsv; have HER := Lib.hid her; have HEL := Lib.hid hel
  obtain ⟨j0, hj, jz0, jz1, jz2⟩ := info_parts info_td
  have wi : IntKind.i64.wrap ((i : Int) + 1) = (k : Int) := by rw [← hk]; exact IntWalk.i64_in _ (by omega)
  have c1 : (i : Int) ≤ (c : Int) := by omega
  have c2 : (k : Int) ≤ (n : Int) := by omega
  have c3 : (i : Int) ≤ (n : Int) := by omega
  have c4 : (k : Int) ≤ (c : Int) := by omega
  have HK := Lib.hid hk
  clear h hpre hsuf hpl hsl hsv hn hk her hel
  go_enter Tryd.func92, Tryd.ntmps92
  go_upto_region 1 with fail
  refine wp_region_held_drew (S := fun _ => True) (by kernel_rfl) trivial (fun hHeld => ?_)
  ((refine wpAnyH_take (i := 0) (v := ?_) rfl (by kernel_rfl) (by kernel_rfl) (by kernel_rfl) (fun _ _ _ h => h) (Yields.yieldsIf (Or.inl ⟨by rfl, ?_⟩)) hHeld ?_; rotate_left 1; focus (intro w; go_simp; try with_reducible rfl)); try simp only [Act.put, List.getElem_toArray, List.getElem_cons_zero, List.getElem_cons_succ, List.setIfInBounds_toArray, List.set_cons_zero, List.set_cons_succ])
  ((refine wpAnyH_take (i := 1) (v := ?_) rfl (by kernel_rfl) (by kernel_rfl) (by kernel_rfl) (fun _ _ _ h => h) (Yields.yieldsIf (Or.inl ⟨by rfl, ?_⟩)) hHeld ?_; rotate_left 1; focus (intro w; go_simp; try with_reducible rfl)); try simp only [Act.put, List.getElem_toArray, List.getElem_cons_zero, List.getElem_cons_succ, List.setIfInBounds_toArray, List.set_cons_zero, List.set_cons_succ])
  ((refine wpAnyH_take (i := 2) (v := ?_) rfl (by kernel_rfl) (by kernel_rfl) (by kernel_rfl) (fun _ _ _ h => h) (Yields.yieldsIf (Or.inl ⟨by rfl, ?_⟩)) hHeld ?_; rotate_left 1; focus (intro w; go_simp; try with_reducible rfl)); try simp only [Act.put, List.getElem_toArray, List.getElem_cons_zero, List.getElem_cons_succ, List.setIfInBounds_toArray, List.set_cons_zero, List.set_cons_succ])
  ((refine wpAnyH_take (i := 4) (v := ?_) rfl (by kernel_rfl) (by kernel_rfl) (by kernel_rfl) (fun _ _ _ h => h) (Yields.yieldsIf (Or.inl ⟨by rfl, ?_⟩)) hHeld ?_; rotate_left 1; focus (intro w; go_simp; try with_reducible rfl)); try simp only [Act.put, List.getElem_toArray, List.getElem_cons_zero, List.getElem_cons_succ, List.setIfInBounds_toArray, List.set_cons_zero, List.set_cons_succ])
  ((refine wpAnyH_take (i := 5) (v := ?_) rfl (by kernel_rfl) (by kernel_rfl) (by kernel_rfl) (fun _ _ _ h => h) (Yields.yieldsIf (Or.inl ⟨by rfl, ?_⟩)) hHeld ?_; rotate_left 1; focus (intro w; go_simp; try with_reducible rfl)); try simp only [Act.put, List.getElem_toArray, List.getElem_cons_zero, List.getElem_cons_succ, List.setIfInBounds_toArray, List.set_cons_zero, List.set_cons_succ])
  ((refine wpAnyH_take (i := 6) (v := ?_) rfl (by kernel_rfl) (by kernel_rfl) (by kernel_rfl) (fun _ _ _ h => h) (Yields.yieldsIf (Or.inl ⟨by rfl, ?_⟩)) hHeld ?_; rotate_left 1; focus (intro w; go_simp; try with_reducible rfl)); try simp only [Act.put, List.getElem_toArray, List.getElem_cons_zero, List.getElem_cons_succ, List.setIfInBounds_toArray, List.set_cons_zero, List.set_cons_succ])
  ((refine wpAnyH_take (i := 7) (v := ?_) rfl (by kernel_rfl) (by kernel_rfl) (by kernel_rfl) (fun _ _ _ h => h) (Yields.yieldsIf (Or.inl ⟨by rfl, ?_⟩)) hHeld ?_; rotate_left 1; focus (intro w; go_simp; try with_reducible rfl)); try simp only [Act.put, List.getElem_toArray, List.getElem_cons_zero, List.getElem_cons_succ, List.setIfInBounds_toArray, List.set_cons_zero, List.set_cons_succ])
  rw [HSV.out]
  have hpq : Pure w w.drew := (Mod.refl _ _).drew
  refine wpAnyH_ready (rs := [3]) (by kernel_rfl) (by simp) ?_
  refine AllReadyH.cons rfl (fun K hK => ?_) AllReadyH.nil
  refine step_append_read _ (by rfl) _ _ 28 (by rfl) 31 j0 _ 3 24 Tryd.underlying28 hj jz0 jz1 jz2 rfl (by decide) (.slice none 0 0) 0 [] (by rfl) (World.ownsRow_nil _ _ _ _) (.slice (some ad) i c) _ i (by rfl) (HPre.out.frame hpq (fun _ _ h => h)) (by rw [flat_length tdC 3 (fun _ => rfl), HPL.out]) (by unfold maxLen; omega) (by omega) ?_
  intro a8 c8 w7 hr8 hg8 hb8
  rw [Nat.zero_add] at hr8 hb8 ⊢
  rw [List.nil_append] at hr8
  have p7 : Pure w w7 := hpq.trans (Mod.of_grown hg8 (fun k e _ => by cases e))
  refine hK.out _ _ trivial (fun hHeld => ?_)
  refine wpAnyH_ready (rs := [8]) (by kernel_rfl) (by simp) ?_
  refine AllReadyH.cons rfl (fun K' hK' => ?_) AllReadyH.nil
  refine step_append_read _ (by rfl) _ _ 28 (by rfl) 31 j0 _ 3 24 Tryd.underlying28 hj jz0 jz1 jz2 rfl (by decide) (.slice a8 i c8) i _ (by rfl) hr8 (.slice sv (n - k) (c - k)) _ (n - k) (by rfl) (HSuf.out.frame p7 (fun _ _ h => h)) (by rw [flat_length tdC 3 (fun _ => rfl), HSL.out]) (by unfold maxLen; omega) (by omega) ?_
  intro a9 c9 w8 hr9 hg9 hb9
  refine hK'.out _ _ trivial (fun hHeld => ?_)
  ((refine wpAnyH_take (i := 9) (v := ?_) rfl (by kernel_rfl) (by kernel_rfl) (by kernel_rfl) (fun _ _ _ h => h) (Yields.yieldsIf (Or.inl ⟨by rfl, ?_⟩)) hHeld ?_; rotate_left 1; focus (intro w; go_simp; try with_reducible rfl)); try simp only [Act.put, List.getElem_toArray, List.getElem_cons_zero, List.getElem_cons_succ, List.setIfInBounds_toArray, List.set_cons_zero, List.set_cons_succ])
  refine wpAnyH_done (by kernel_rfl) ?_ _
  have hm : i + (n - k) = n - 1 := by have := HK.out; omega
  rw [hm] at hr9 hb9 ⊢
  have h8f : ∀ g, (Value.slice a8 i c8).ownBlock = some g → w.heap.size ≤ g := fun g hg => by
    rcases hb8 with e | e
    · rw [e] at hg; cases hg
    · rw [e] at hg; injection hg with hg; have := hpq.size; omega
  have p8 : Pure w w8 := p7.then (Mod.of_grown (S := fun k' => (Value.slice a8 i c8).ownBlock = some k') hg9 (fun k e _ => e)) (fun k hk e => by have := h8f k e; omega)
  have hrow : TdRow w8 a9 c9 (L.eraseIdx i) := by
    show World.ownsRow _ 0 _ 3 (.slice a9 (L.eraseIdx i).length c9) (L.eraseIdx i).length ((L.eraseIdx i).flatMap tdC)
    rw [HEL.out, HER.out]
    exact hr9
  have hfin : FreshV w (.slice a9 (n - 1) c9) := fun g hg => by
    rcases hb9 with e | e
    · exact h8f g (e ▸ hg)
    · rw [e] at hg; injection hg with hg; have := p7.size; omega
  have HF := Lib.hid hfin; have HROW := Lib.hid hrow; have HP8 := Lib.hid p8
  clear hHeld hr9 hg9 hb9 h8f p8 hrow hfin hr8 hg8 hb8 p7 hpq hm
  go_wp2
  refine bodyPost_ret (v := .slice a9 (n - 1) c9) (by simp [results, Tryd.results92, go_sem]) rfl ⟨a9, c9, rfl, HROW.out, HF.out, HP8.out⟩
end Go.Proofs.YtlalpenfgkfkpaaDoor

/- The reference of cascade: Advance. Conditions: the list is read. Printed by wip/gen_rce.py. -/
namespace Go.Proofs.YtlalpenfgkfkpaaDoor
open Go.RowKit Go.Shelf
set_option maxRecDepth 100000
theorem tw_gen {L : List Td} {p : Td → Bool} {k : Nat} (h1 : ∀ i y, i < k → L[i]? = some y → p y = true) (h2 : ∀ y, L[k]? = some y → p y = false) (hk : k ≤ L.length) : L.take k = L.takeWhile p ∧ L.drop k = L.dropWhile p := by
  induction L generalizing k with
  | nil =>
    have : k = 0 := by simpa using hk
    subst this
    exact ⟨rfl, rfl⟩
  | cons a L ih =>
    cases k with
    | zero =>
      have := h2 a rfl
      simp [this]
    | succ k =>
      have := h1 0 a (by omega) rfl
      obtain ⟨i1, i2⟩ := ih (k := k) (fun i y hi hy => h1 (i + 1) y (by omega) hy) (fun y hy => h2 y hy) (by simpa using hk)
      simp [this, i1, i2]
theorem radv_no {w : World} {a : Option Addr} {n c now tt : Nat} (ht : tt < now) : Calls Tryd.prog 21 #[whV now a n c, .int .u64 tt] w fun e w' => e = .returned (.tuple #[whV now a n c, .slice none 0 0, .int .i64 3]) ∧ Pure w w' := by
  unfold whV
  have hlt : (tt : Int) < (now : Int) := by omega
  have hbx := (Mod.refl (fun _ => False) (w.alloc (.cells #[.int .u64 now, .slice a n c] 45))).alloc (.cells #[.int .u64 0, .slice none 0 0] 45)
  have hal : Pure w ((w.alloc (.cells #[.int .u64 now, .slice a n c] 45)).alloc (.cells #[.int .u64 0, .slice none 0 0] 45)) := ((Mod.refl _ w).alloc _).trans hbx
  have h2 := hbx.heap (fun h => h) (heap_new (w := w) (o := .cells #[.int .u64 now, .slice a n c] 45 (0, 0)) rfl)
  have h4 : ((w.alloc (.cells #[.int .u64 now, .slice a n c] 45)).alloc (.cells #[.int .u64 0, .slice none 0 0] 45)).heap[w.heap.size + 1]? = some (.cells #[.int .u64 0, .slice none 0 0] 45 (0, 0)) := heap_new (by simp)
  have HAL := Lib.hid hal
  clear hbx hal
  go_enter Tryd.func21, Tryd.ntmps21
  go_upto_region 1 with fail
  generalize ((w.alloc (.cells #[.int .u64 now, .slice a n c] 45)).alloc (.cells #[.int .u64 0, .slice none 0 0] 45)) = W1 at *
  obtain ⟨b, hb⟩ : ∃ b, w.heap.size = b := ⟨_, rfl⟩
  rw [hb] at h2 h4 ⊢
  have HB := Lib.hid hb
  clear hb
  have h2_0 := cell_of_row _ _ 0 _ _ _ h2; have h2_1 := cell_of_row _ _ 1 _ _ _ h2; have h2_f := (fun j => frozen_of_row _ _ j _ _ h2); have h2_l := lt_of_block h2; simp at h2_0 h2_1; have H_h2 := Lib.hid h2; clear h2
  have h4_0 := cell_of_row _ _ 0 _ _ _ h4; have h4_1 := cell_of_row _ _ 1 _ _ _ h4; have h4_f := (fun j => frozen_of_row _ _ j _ _ h4); have h4_l := lt_of_block h4; simp at h4_0 h4_1; have H_h4 := Lib.hid h4; clear h4
  go_wp2
  refine bodyPost_ret (v := .tuple #[.agg #[.int .u64 now, .slice a n c], .slice none 0 0, .int .i64 3]) (by simp [results, Tryd.results21, go_sem, h2_0, h2_1, h2_l, h4_0, h4_1, h4_l]) rfl ⟨rfl, ?_⟩
  exact HAL.out.then (Mod.set2 (b + 1) 0 1 _ _) (fun k hk e => by have := HB.out; omega)
theorem whbox {w : World} {b : Nat} {x y : Value} {T : Nat} (h : w.heap[b]? = some (.cells #[x, y] T (0, 0))) : w.cell? ⟨b, 0, none⟩ = some x ∧ w.cell? ⟨b, 1, none⟩ = some y := ⟨by rw [cell_of_row _ _ 0 _ _ _ h]; rfl, by rw [cell_of_row _ _ 1 _ _ _ h]; rfl⟩
set_option maxHeartbeats 2000000 in
theorem radv_some {w : World} {ad : Addr} {n c now tt : Nat} {L : List Td} (h : ReadAt w (.slice (some ad) n c) 3 (L.flatMap tdC)) (hn : L.length = n) (hl : n ≤ 4194304) (hnc : n ≤ c) (ht : now ≤ tt) :
    Calls Tryd.prog 21 #[whV now (some ad) n c, .int .u64 tt] w fun e w' => ∃ a1 c1 a2 c2, e = .returned (.tuple #[whV tt a1 (restL tt L).length c1, .slice a2 (dueL tt L).length c2, .int .i64 0]) ∧ TdRow w' a1 c1 (restL tt L) ∧ TdRow w' a2 c2 (dueL tt L) ∧ FreshV w (.slice a1 (restL tt L).length c1) ∧ FreshV w (.slice a2 (dueL tt L).length c2) ∧ Pure w w' := by
  unfold whV
  obtain ⟨j0, hj, jz0, jz1, jz2⟩ := info_parts info_td
  have hlt0 : ¬ (tt : Int) < (now : Int) := by omega
  have hbx := (Mod.refl (fun _ => False) (w.alloc (.cells #[.int .u64 now, .slice (some ad) n c] 45))).alloc (.cells #[.int .u64 0, .slice none 0 0] 45)
  have hal : Pure w ((w.alloc (.cells #[.int .u64 now, .slice (some ad) n c] 45)).alloc (.cells #[.int .u64 0, .slice none 0 0] 45)) := ((Mod.refl _ w).alloc _).trans hbx
  have h2 := hbx.heap (fun h => h) (heap_new (w := w) (o := .cells #[.int .u64 now, .slice (some ad) n c] 45 (0, 0)) rfl)
  have h4 : ((w.alloc (.cells #[.int .u64 now, .slice (some ad) n c] 45)).alloc (.cells #[.int .u64 0, .slice none 0 0] 45)).heap[w.heap.size + 1]? = some (.cells #[.int .u64 0, .slice none 0 0] 45 (0, 0)) := heap_new (by simp)
  have HR := Lib.hid (h.frame hal (fun _ _ h => h)); have HN := Lib.hid hn
  have HAL := Lib.hid hal
  clear h hn hbx hal
  go_enter Tryd.func21, Tryd.ntmps21
  go_upto_region 4 with fail
  generalize ((w.alloc (.cells #[.int .u64 now, .slice (some ad) n c] 45)).alloc (.cells #[.int .u64 0, .slice none 0 0] 45)) = W1 at *
  obtain ⟨b, hb⟩ : ∃ b, w.heap.size = b := ⟨_, rfl⟩
  rw [hb] at h2 h4 ⊢
  obtain ⟨b', hb'⟩ : ∃ b', b + 1 = b' := ⟨_, rfl⟩
  rw [hb'] at h4 ⊢
  have HB := Lib.hid hb; have HB' := Lib.hid hb'
  clear hb hb'
  obtain ⟨x0, x1⟩ := whbox h2
  have H4 := Lib.hid h4
  clear h2 h4
  go_loopw [7] (fun v7 wr => ∃ k : Nat, v7 = .int .i64 (k : Nat) ∧ k ≤ n ∧ W1 = wr ∧ ∀ i y, i < k → L[i]? = some y → decide (y.dl ≤ tt) = true) (fun v7 _ => n - (intOf v7).toNat)
  case atStart => exact ⟨0, rfl, Nat.zero_le _, rfl, fun i y hi => by omega⟩
  case round =>
    obtain ⟨k, rfl, hk, rfl, hall⟩ := hrel
    have HA := Lib.hid hall
    clear hall
    by_cases hlt : k < n
    · have hlt' : (k : Int) < (n : Int) := by omega
      have k0 : (0 : Int) ≤ (k : Int) := by omega
      have wk : IntKind.i64.wrap ((k : Int) + 1) = (k : Int) + 1 := IntWalk.i64_in _ (by omega)
      have d1 : decide (k < n) = true := decide_eq_true hlt
      obtain ⟨y, hy⟩ : ∃ y, L[k]? = some y := ⟨_, List.getElem?_eq_getElem (by rw [HN.out]; exact hlt)⟩
      obtain ⟨ad', had, z0, z1, z2⟩ := td_read HR.out hy
      injection had with had
      subst had
      have HY := Lib.hid hy
      clear hy
      by_cases hb : y.dl ≤ tt
      · have hle : (y.dl : Int) ≤ (tt : Int) := by omega
        have hall2 : ∀ i z, i < k + 1 → L[i]? = some z → decide (z.dl ≤ tt) = true := fun i z hi hz => by
          rcases Nat.lt_or_ge i k with h | h
          · exact HA.out i z h hz
          · have : i = k := by omega
            subst this
            rw [HY.out] at hz
            cases hz
            exact decide_eq_true hb
        have HA2 := Lib.hid hall2
        clear hall2 hb
        go_wp2
        go_roundw
        case rel => exact ⟨k + 1, by go_num, hlt, trivial, HA2.out⟩
        case measure => simp [intOf]; omega
      · have hnle : ¬ (y.dl : Int) ≤ (tt : Int) := by omega
        have htw := tw_gen (p := fun x => decide (x.dl ≤ tt)) (k := k) HA.out (fun y' hy' => by rw [HY.out] at hy'; cases hy'; exact decide_eq_false hb) (by rw [HN.out]; omega)
        have HTw := Lib.hid htw
        clear htw hb
        have hcap : (k : Int) ≤ (c : Int) := by omega
        have hkn : (k : Int) ≤ (n : Int) := by omega
        have hsuf := rd_suf HR.out (j := k) hk rfl
        have hpre := rd_pre HR.out (j := k) hk
        have hpl : (dueL tt L).length = k := by unfold dueL; rw [← HTw.out.1, List.length_take, HN.out]; omega
        have hsl : (restL tt L).length = n - k := by unfold restL; rw [← HTw.out.2, List.length_drop, HN.out]
        rw [HTw.out.1] at hpre
        rw [HTw.out.2] at hsuf
        have HSuf := Lib.hid hsuf; have HPre := Lib.hid hpre; have HPL := Lib.hid hpl; have HSL := Lib.hid hsl
        clear hsuf hpre hpl hsl
        have V1 : True := trivial
        go_wp2_with (first
          | (at_builtin; clear V1; refine wpList_append_read _ rfl _ _ 28 rfl 31 j0 _ 3 24 Tryd.underlying28 hj jz0 jz1 jz2 rfl (by decide) (.slice none 0 0) 0 [] rfl (World.ownsRow_nil _ _ _ _) (.slice (some ad) k c) _ k rfl HPre.out (by rw [flat_length tdC 3 (fun _ => rfl)]; exact congrArg (· * 3) HPL.out) (by unfold maxLen; omega) (by omega) ?_; intro a8 c8 w7 hr8 hg8 hb8
             rw [Nat.zero_add] at hr8 hb8 ⊢
             rw [List.nil_append] at hr8
             have p7 : Pure W1 w7 := Mod.of_grown hg8 (fun k e _ => by cases e)
             have HR8 := Lib.hid hr8; have HB8 := Lib.hid hb8; have HP7 := Lib.hid p7
             have x0 := p7.cell (fun h => h) x0
             have x1 := p7.cell (fun h => h) x1
             clear hr8 hg8 hb8 p7)
          | (at_builtin; refine wpList_append_read _ rfl _ _ 28 rfl 31 j0 _ 3 24 Tryd.underlying28 hj jz0 jz1 jz2 rfl (by decide) (.slice none 0 0) 0 [] rfl (World.ownsRow_nil _ _ _ _) (.slice (some (ad.add (k * 3))) (n - k) (c - k)) _ (n - k) rfl (HSuf.out.frame HP7.out (fun _ _ h => h)) (by rw [flat_length tdC 3 (fun _ => rfl)]; exact congrArg (· * 3) HSL.out) (by unfold maxLen; omega) (by omega) ?_; intro a9 c9 w8 hr9 hg9 hb9
             rw [Nat.zero_add] at hr9 hb9 ⊢
             rw [List.nil_append] at hr9
             have p8 : Pure W1 w8 := HP7.out.trans (Mod.of_grown hg9 (fun k e _ => by cases e))
             have h4 := p8.heap (fun h => h) H4.out
             have HR9 := Lib.hid hr9; have HB9 := Lib.hid hb9; have HP8 := Lib.hid p8; have HG9 := Lib.hid hg9
             clear hr9 hg9 hb9 p8
             have h4_0 := cell_of_row _ _ 0 _ _ _ h4; have h4_1 := cell_of_row _ _ 1 _ _ _ h4; have h4_f := (fun j => frozen_of_row _ _ j _ _ h4); have h4_l := lt_of_block h4; simp at h4_0 h4_1; have H_h4 := Lib.hid h4; clear h4))
        have h8f : ∀ g, (Value.slice a8 k c8).ownBlock = some g → W1.heap.size ≤ g := fun g hg => by
          rcases HB8.out with e | e
          · rw [e] at hg; cases hg
          · rw [e] at hg; injection hg with hg; omega
        have h9f : ∀ g, (Value.slice a9 (n - k) c9).ownBlock = some g → W1.heap.size ≤ g := fun g hg => by
          rcases HB9.out with e | e
          · rw [e] at hg; cases hg
          · rw [e] at hg; injection hg with hg; have := HP7.out.size; omega
        have hw1 := HAL.out.size
        have hbl := lt_of_block H4.out
        have hbw : w.heap.size ≤ b' := by have := HB.out; have := HB'.out; omega
        have hms := Mod.set2 (w := w8) b' 0 1 (.int .u64 tt) (.slice a9 (n - k) c9)
        have r9 := owns_mod HR9.out hms (fun g hg e => by have := h9f g hg; omega)
        have r8 := owns_mod (owns_mod HR8.out (Mod.of_grown (S := fun _ => False) HG9.out (fun k e _ => by cases e)) (fun _ _ h => h)) hms (fun g hg e => by have := h8f g hg; omega)
        have pf : Pure w _ := (HAL.out.trans HP8.out).then hms (fun g hg e => by omega)
        refine bodyPost_ret (v := .tuple #[.agg #[.int .u64 tt, .slice a9 (n - k) c9], .slice a8 k c8, .int .i64 0]) (by simp [results, Tryd.results21, go_sem, h4_0, h4_1, h4_l]) rfl ⟨a9, c9, a8, c8, by rw [HPL.out, HSL.out], ?_, ?_, ?_, ?_, pf⟩
        · show World.ownsRow _ 0 _ 3 (.slice a9 (restL tt L).length c9) (restL tt L).length ((restL tt L).flatMap tdC)
          rw [HSL.out]
          exact r9
        · show World.ownsRow _ 0 _ 3 (.slice a8 (dueL tt L).length c8) (dueL tt L).length ((dueL tt L).flatMap tdC)
          rw [HPL.out]
          exact r8
        · rw [HSL.out]; exact fun g hg => by have := h9f g hg; omega
        · rw [HPL.out]; exact fun g hg => by have := h8f g hg; omega
    · have hge : ¬ (k : Int) < (n : Int) := by omega
      have d1 : decide (k < n) = false := decide_eq_false (by omega)
      have htw := tw_gen (p := fun x => decide (x.dl ≤ tt)) (k := k) HA.out (fun y' hy' => by have := (List.getElem?_eq_some_iff.1 hy').1; rw [HN.out] at this; omega) (by rw [HN.out]; omega)
      have HTw := Lib.hid htw
      clear htw
      have hrs := rd_sufI HR.out (j := k) hk hnc
      obtain ⟨sv, hsv⟩ : ∃ v, (if c = k then some ad else some (ad.add (k * 3))) = v := ⟨_, rfl⟩
      rw [hsv] at hrs
      have HRS := Lib.hid hrs
      clear hrs
      have hcap : (k : Int) ≤ (c : Int) := by omega
      have hkn : (k : Int) ≤ (n : Int) := by omega
      have hsuf := HRS.out
      have hpre := rd_pre HR.out (j := k) hk
      have hpl : (dueL tt L).length = k := by unfold dueL; rw [← HTw.out.1, List.length_take, HN.out]; omega
      have hsl : (restL tt L).length = n - k := by unfold restL; rw [← HTw.out.2, List.length_drop, HN.out]
      rw [HTw.out.1] at hpre
      rw [HTw.out.2] at hsuf
      have HSuf := Lib.hid hsuf; have HPre := Lib.hid hpre; have HPL := Lib.hid hpl; have HSL := Lib.hid hsl
      clear hsuf hpre hpl hsl
      have V1 : True := trivial
      go_wp2_with (first
        | (at_builtin; clear V1; refine wpList_append_read _ rfl _ _ 28 rfl 31 j0 _ 3 24 Tryd.underlying28 hj jz0 jz1 jz2 rfl (by decide) (.slice none 0 0) 0 [] rfl (World.ownsRow_nil _ _ _ _) (.slice (some ad) k c) _ k rfl HPre.out (by rw [flat_length tdC 3 (fun _ => rfl)]; exact congrArg (· * 3) HPL.out) (by unfold maxLen; omega) (by omega) ?_; intro a8 c8 w7 hr8 hg8 hb8
           rw [Nat.zero_add] at hr8 hb8 ⊢
           rw [List.nil_append] at hr8
           have p7 : Pure W1 w7 := Mod.of_grown hg8 (fun k e _ => by cases e)
           have HR8 := Lib.hid hr8; have HB8 := Lib.hid hb8; have HP7 := Lib.hid p7
           have x0 := p7.cell (fun h => h) x0
           have x1 := p7.cell (fun h => h) x1
           clear hr8 hg8 hb8 p7)
        | (at_builtin; refine wpList_append_read _ rfl _ _ 28 rfl 31 j0 _ 3 24 Tryd.underlying28 hj jz0 jz1 jz2 rfl (by decide) (.slice none 0 0) 0 [] rfl (World.ownsRow_nil _ _ _ _) (.slice sv (n - k) (c - k)) _ (n - k) rfl (HSuf.out.frame HP7.out (fun _ _ h => h)) (by rw [flat_length tdC 3 (fun _ => rfl)]; exact congrArg (· * 3) HSL.out) (by unfold maxLen; omega) (by omega) ?_; intro a9 c9 w8 hr9 hg9 hb9
           rw [Nat.zero_add] at hr9 hb9 ⊢
           rw [List.nil_append] at hr9
           have p8 : Pure W1 w8 := HP7.out.trans (Mod.of_grown hg9 (fun k e _ => by cases e))
           have h4 := p8.heap (fun h => h) H4.out
           have HR9 := Lib.hid hr9; have HB9 := Lib.hid hb9; have HP8 := Lib.hid p8; have HG9 := Lib.hid hg9
           clear hr9 hg9 hb9 p8
           have h4_0 := cell_of_row _ _ 0 _ _ _ h4; have h4_1 := cell_of_row _ _ 1 _ _ _ h4; have h4_f := (fun j => frozen_of_row _ _ j _ _ h4); have h4_l := lt_of_block h4; simp at h4_0 h4_1; have H_h4 := Lib.hid h4; clear h4))
      have h8f : ∀ g, (Value.slice a8 k c8).ownBlock = some g → W1.heap.size ≤ g := fun g hg => by
        rcases HB8.out with e | e
        · rw [e] at hg; cases hg
        · rw [e] at hg; injection hg with hg; omega
      have h9f : ∀ g, (Value.slice a9 (n - k) c9).ownBlock = some g → W1.heap.size ≤ g := fun g hg => by
        rcases HB9.out with e | e
        · rw [e] at hg; cases hg
        · rw [e] at hg; injection hg with hg; have := HP7.out.size; omega
      have hw1 := HAL.out.size
      have hbl := lt_of_block H4.out
      have hbw : w.heap.size ≤ b' := by have := HB.out; have := HB'.out; omega
      have hms := Mod.set2 (w := w8) b' 0 1 (.int .u64 tt) (.slice a9 (n - k) c9)
      have r9 := owns_mod HR9.out hms (fun g hg e => by have := h9f g hg; omega)
      have r8 := owns_mod (owns_mod HR8.out (Mod.of_grown (S := fun _ => False) HG9.out (fun k e _ => by cases e)) (fun _ _ h => h)) hms (fun g hg e => by have := h8f g hg; omega)
      have pf : Pure w _ := (HAL.out.trans HP8.out).then hms (fun g hg e => by omega)
      refine bodyPost_ret (v := .tuple #[.agg #[.int .u64 tt, .slice a9 (n - k) c9], .slice a8 k c8, .int .i64 0]) (by simp [results, Tryd.results21, go_sem, h4_0, h4_1, h4_l]) rfl ⟨a9, c9, a8, c8, by rw [HPL.out, HSL.out], ?_, ?_, ?_, ?_, pf⟩
      · show World.ownsRow _ 0 _ 3 (.slice a9 (restL tt L).length c9) (restL tt L).length ((restL tt L).flatMap tdC)
        rw [HSL.out]
        exact r9
      · show World.ownsRow _ 0 _ 3 (.slice a8 (dueL tt L).length c8) (dueL tt L).length ((dueL tt L).flatMap tdC)
        rw [HPL.out]
        exact r8
      · rw [HSL.out]; exact fun g hg => by have := h9f g hg; omega
      · rw [HPL.out]; exact fun g hg => by have := h8f g hg; omega
end Go.Proofs.YtlalpenfgkfkpaaDoor

/- The reference of cascade: Advance and Put of any list. Conditions: the list is read. -/
namespace Go.Proofs.YtlalpenfgkfkpaaDoor
open Go.RowKit Go.Shelf
set_option maxRecDepth 100000
set_option maxHeartbeats 1000000 in
theorem radv_none {w : World} {now tt : Nat} (ht : now ≤ tt) :
    Calls Tryd.prog 21 #[whV now none 0 0, .int .u64 tt] w fun e w' => ∃ a1 c1 a2 c2, e = .returned (.tuple #[whV tt a1 0 c1, .slice a2 0 c2, .int .i64 0]) ∧ TdRow w' a1 c1 [] ∧ TdRow w' a2 c2 [] ∧ FreshV w (.slice a1 0 c1) ∧ FreshV w (.slice a2 0 c2) ∧ Pure w w' := by
  unfold whV
  have hlt0 : ¬ (tt : Int) < (now : Int) := by omega
  have hbx := (Mod.refl (fun _ => False) (w.alloc (.cells #[.int .u64 now, .slice none 0 0] 45))).alloc (.cells #[.int .u64 0, .slice none 0 0] 45)
  have hal : Pure w ((w.alloc (.cells #[.int .u64 now, .slice none 0 0] 45)).alloc (.cells #[.int .u64 0, .slice none 0 0] 45)) := ((Mod.refl _ w).alloc _).trans hbx
  have h2 := hbx.heap (fun h => h) (heap_new (w := w) (o := .cells #[.int .u64 now, .slice none 0 0] 45 (0, 0)) rfl)
  have h4 : ((w.alloc (.cells #[.int .u64 now, .slice none 0 0] 45)).alloc (.cells #[.int .u64 0, .slice none 0 0] 45)).heap[w.heap.size + 1]? = some (.cells #[.int .u64 0, .slice none 0 0] 45 (0, 0)) := heap_new (by simp)
  have HAL := Lib.hid hal
  clear hbx hal
  go_enter Tryd.func21, Tryd.ntmps21
  go_upto_region 4 with fail
  generalize ((w.alloc (.cells #[.int .u64 now, .slice none 0 0] 45)).alloc (.cells #[.int .u64 0, .slice none 0 0] 45)) = W1 at *
  obtain ⟨b, hb⟩ : ∃ b, w.heap.size = b := ⟨_, rfl⟩
  rw [hb] at h2 h4 ⊢
  obtain ⟨b', hb'⟩ : ∃ b', b + 1 = b' := ⟨_, rfl⟩
  rw [hb'] at h4 ⊢
  have HB := Lib.hid hb; have HB' := Lib.hid hb'
  clear hb hb'
  obtain ⟨x0, x1⟩ := whbox h2
  have hbl := lt_of_block h4
  clear h2
  have h4_0 := cell_of_row _ _ 0 _ _ _ h4; have h4_1 := cell_of_row _ _ 1 _ _ _ h4; have h4_f := (fun j => frozen_of_row _ _ j _ _ h4); have h4_l := lt_of_block h4; simp at h4_0 h4_1; have H_h4 := Lib.hid h4; clear h4
  refine wp_loop_rounds 1 ?_
  rw [rounds_succ]
  go_wp2
  have hms := Mod.set2 (w := W1) b' 0 1 (.int .u64 tt) (.slice none 0 0)
  have hf : FreshV w (.slice none 0 0) := fun g hg => by cases hg
  have pf : Pure w _ := HAL.out.then hms (fun g hg e => by have := HB.out; have := HB'.out; omega)
  refine bodyPost_ret (v := .tuple #[.agg #[.int .u64 tt, .slice none 0 0], .slice none 0 0, .int .i64 0]) (by simp [results, Tryd.results21, go_sem, h4_0, h4_1, h4_l]) rfl ⟨none, 0, none, 0, rfl, World.ownsRow_nil _ _ _ _, World.ownsRow_nil _ _ _ _, hf, hf, pf⟩
section
variable {w : World} {a : Option Addr} {n c now tt : Nat} {L : List Td}
theorem rd_none (h : ReadAt w (.slice none n c) 3 (L.flatMap tdC)) (hn : L.length = n) : L = [] := by
  obtain ⟨_, _, _, e, hl, _, h0, _⟩ := h
  injection e with e1 e2 e3
  have h1 := h0 e1.symm
  subst h1
  have : L.length = 0 := by omega
  exact List.eq_nil_of_length_eq_zero this
/-- A list's slice: it is read, it has the length, nothing has no room. -/
structure RdL (w : World) (a : Option Addr) (n c : Nat) (L : List Td) : Prop where
  rd : ReadAt w (.slice a n c) 3 (L.flatMap tdC)
  len : L.length = n
  cap : n ≤ c
  nil : a = none → c = 0
theorem RdL.pure {w' : World} (h : RdL w a n c L) (hp : Pure w w') : RdL w' a n c L := ⟨h.rd.frame hp (fun _ _ h => h), h.len, h.cap, h.nil⟩
theorem RdL.of_row (h : TdRow w a c L) : RdL w a L.length c L := by
  refine ⟨h.rd, rfl, ?_, fun e => ?_⟩
  · obtain ⟨_, ⟨e, e0⟩ | ⟨g, cap, cur, e, _, _, h1, _⟩⟩ := h
    · omega
    · injection e with e1 e2 e3; omega
  · obtain ⟨_, ⟨e', e0⟩ | ⟨g, cap, cur, e', _, _, h1, _⟩⟩ := h
    · injection e' with e1 e2 e3
    · injection e' with e1 e2 e3; rw [e] at e1; cases e1
theorem RdL.zero (h : RdL w none n c L) : n = 0 ∧ c = 0 ∧ L = [] := by
  have h1 := rd_none h.rd h.len
  have h2 := h.len
  subst h1
  exact ⟨h2.symm, h.nil rfl, rfl⟩
theorem radv_ok (h : RdL w a n c L) (hl : n ≤ 4194304) (ht : now ≤ tt) :
    Calls Tryd.prog 21 #[whV now a n c, .int .u64 tt] w fun e w' => ∃ a1 c1 a2 c2, e = .returned (.tuple #[whV tt a1 (restL tt L).length c1, .slice a2 (dueL tt L).length c2, .int .i64 0]) ∧ TdRow w' a1 c1 (restL tt L) ∧ TdRow w' a2 c2 (dueL tt L) ∧ FreshV w (.slice a1 (restL tt L).length c1) ∧ FreshV w (.slice a2 (dueL tt L).length c2) ∧ Pure w w' := by
  cases a with
  | some ad => exact radv_some h.rd h.len hl h.cap ht
  | none =>
    obtain ⟨rfl, rfl, rfl⟩ := h.zero
    exact radv_none ht
theorem rput_ok (h : RdL w a n c L) (hl : n ≤ 4194304) (x : Td) :
    Calls Tryd.prog 59 #[.slice a n c, tdV x] w fun e w' => ∃ a' c', e = .returned (.slice a' (n + 1) c') ∧ TdRow w' a' c' (putL L x) ∧ FreshV w (.slice a' (n + 1) c') ∧ Pure w w' := by
  cases a with
  | some ad => exact rput_some h.rd h.len hl h.cap x
  | none =>
    obtain ⟨rfl, rfl, rfl⟩ := h.zero
    exact rput_none w x
end
end Go.Proofs.YtlalpenfgkfkpaaDoor

/- law21: gets, lens, timed; deadlines that were made since. Conditions: the deadlines lie in memory, the table too. -/
namespace Go.Proofs.YtlalpenfgkfkpaaDoor
open Go.RowKit Go.Shelf
set_option maxRecDepth 100000
theorem timed21_ok (s d b : Nat) (w : World) : Calls Tryd.prog 68 #[.int .u32 s, .int .u64 d, .int .u64 b] w fun e w' => e = .returned (tdV ⟨s, d, b⟩) ∧ Pure w w' := by
  have hal : Pure w (w.alloc (.cells #[.int .u32 0, .int .u64 0, .int .u64 0] 31)) := (Mod.refl _ w).alloc _
  have h6 := heap_new (w := w) (o := .cells #[.int .u32 0, .int .u64 0, .int .u64 0] 31 (0, 0)) rfl
  obtain ⟨b6, hb6⟩ : ∃ b6, w.heap.size = b6 := ⟨_, rfl⟩
  have HAL := Lib.hid hal
  clear hal
  go_enter Tryd.func68, Tryd.ntmps68
  go_upto_region 1 with fail
  generalize w.alloc (.cells #[.int .u32 0, .int .u64 0, .int .u64 0] 31) = W1 at *
  (try rw [hb6] at h6)
  have HB6 := Lib.hid hb6
  clear hb6
  have h6_0 := cell_of_row _ _ 0 _ _ _ h6; have h6_1 := cell_of_row _ _ 1 _ _ _ h6; have h6_2 := cell_of_row _ _ 2 _ _ _ h6; have h6_f := (fun j => frozen_of_row _ _ j _ _ h6); have h6_l := lt_of_block h6; simp at h6_0 h6_1 h6_2; have H_h6 := Lib.hid h6; clear h6
  go_wp2
  have hm : Mod (fun k => k = b6) W1 (((W1.setCell ⟨b6, 0, none⟩ (.int .u32 s)).setCell ⟨b6, 1, none⟩ (.int .u64 d)).setCell ⟨b6, 2, none⟩ (.int .u64 b)) :=
    (((Mod.refl (fun k => k = b6) W1).setCell (p := ⟨b6, 0, none⟩) (fun _ => rfl) _).setCell (p := ⟨b6, 1, none⟩) (fun _ => rfl) _).setCell (p := ⟨b6, 2, none⟩) (fun _ => rfl) _
  have hp := HAL.out.then hm (fun k hk e => by have := HB6.out; omega)
  exact bodyPost_ret (v := tdV ⟨s, d, b⟩) (by simp [results, Tryd.results68, go_sem, h6_0, h6_1, h6_2, h6_l, tdV]) rfl ⟨rfl, hp⟩
section
variable {w w' : World} {D : Nat → Prop} {p now q bb bs : Nat} {Dc : Nat → Prop} {Db Ds : DataW Unit} {M M' L acc : List Td} {x : Td} {tv : List Nat}
theorem DueAt.get (h : DueAt w D p now M) {s : Nat} (h32 : s ≤ 4294967295) :
    Calls Tryd.prog 74 #[lkP p, .int .u32 s] w fun e w' => e = .returned (.tuple #[.int .u64 (getT M s).1.dl, .int .u64 (getT M s).1.birth, .int .i64 (getT M s).2]) ∧ Pure w w' := by
  obtain ⟨q, bb, bs, Dc, Db, Ds, h1, h2⟩ := h
  exact dget_ok h1 h32
theorem DueAt.next (h : DueAt w D p now M) (hT : TabW w) : Calls Tryd.prog 41 #[lkP p] w fun e w' => e = .returned (.int .u64 (nextD M)) ∧ Pure w w' := by
  obtain ⟨q, bb, bs, Dc, Db, Ds, h1, h2⟩ := h
  rw [← nextD_timed h2]
  exact dnext_ok h1 hT
theorem DueAt.now_ (h : DueAt w D p now M) : Calls Tryd.prog 38 #[lkP p] w fun e w' => e = .returned (.int .u64 now) ∧ w = w' := by
  obtain ⟨q, bb, bs, Dc, Db, Ds, h1, h2⟩ := h
  exact dnow_ok h1
theorem DueAt.len_ (h : DueAt w D p now M) : Calls Tryd.prog 75 #[lkP p] w fun e w' => e = .returned (.tuple #[.int .i64 M.length, .int .i64 (timedL M).length]) ∧ Pure w w' := by
  obtain ⟨q, bb, bs, Dc, Db, Ds, h1, h2⟩ := h
  exact dlen_ok h1
theorem DueAt.all (h : DueAt w D p now M) : Calls Tryd.prog 36 #[lkP p] w fun e w' => ∃ a c, e = .returned (.slice a M.length c) ∧ TdRow w' a c M ∧ FreshV w (.slice a M.length c) ∧ Pure w w' := by
  obtain ⟨q, bb, bs, Dc, Db, Ds, h1, h2⟩ := h
  exact duall_ok h1 h2
theorem gets_ok (h : DueAt w D p now M) {s dl b : Nat} {er : Int} (h32 : s ≤ 4294967295) (h1 : (getT M s).1.dl = dl) (h2 : (getT M s).1.birth = b) (h3 : (getT M s).2 = er) :
    Calls Tryd.prog 40 #[lkP p, .int .u32 s, .int .u64 dl, .int .u64 b, .int .i64 er] w fun e w' => e = .returned (.bool true) ∧ Pure w w' := by
  have hg := h.get h32
  rw [h1, h2, h3] at hg
  have HG := Lib.hid hg
  clear h h1 h2 h3 hg h32
  go_enter Tryd.func40, Tryd.ntmps40
  go_wp2_with (go_at_call 74; refine Calls.mono HG.out ?_; rintro e w' ⟨rfl, hp⟩)
  go_ret
  exact ⟨by simp, hp⟩
theorem lens_ok (h : DueAt w D p now M) {a b : Nat} (h1 : M.length = a) (h2 : (timedL M).length = b) :
    Calls Tryd.prog 42 #[lkP p, .int .i64 a, .int .i64 b] w fun e w' => e = .returned (.bool true) ∧ Pure w w' := by
  have hg := h.len_
  rw [h1, h2] at hg
  have HG := Lib.hid hg
  clear h h1 h2 hg
  go_enter Tryd.func42, Tryd.ntmps42
  go_wp2_with (go_at_call 75; refine Calls.mono HG.out ?_; rintro e w' ⟨rfl, hp⟩)
  go_ret
  exact ⟨by simp, hp⟩
end
structure DueT (w : World) (D : Nat → Prop) (p now : Nat) (M : List Td) : Prop where
  at_ : DueAt w D p now M
  tab : TabW w
  off : ¬ D 0
section
variable {w0 w w' : World} {D : Nat → Prop} {p now tt : Nat} {M M' : List Td} {x : Td} {tv : List Nat}
theorem DueT.frame {S : Nat → Prop} (h : DueT w D p now M) (hm : Mod S w w') (hd : ∀ k, D k → ¬ S k) (h0 : ¬ S 0) : DueT w' D p now M := ⟨h.at_.frame hm hd, h.tab.mod hm h0, h.off⟩
theorem DueT.pure (h : DueT w D p now M) (hm : Pure w w') : DueT w' D p now M := h.frame hm (fun _ _ h => h) (fun h => h)
theorem DueT.next {D' : Nat → Prop} {now' : Nat} {M' : List Td} (h : DueT w D p now M) (hc : DueAt w' D' p now' M') (hg : grewD D D' w) (hm : Mod D w w') : DueT w' D' p now' M' :=
  ⟨hc, h.tab.mod hm h.off, fun e => by
    rcases hg 0 e with e | e
    · exact h.off e
    · have := h.tab.lt; omega⟩
theorem DueT.new (hT : TabW w) (hn : now < 18446744073709551616) : Calls Tryd.prog 33 #[.int .u64 now] w fun e w' => ∃ p D, e = .returned (lkP p) ∧ DueT w' D p now [] ∧ Pure w w' ∧ ∀ k, D k → w.heap.size ≤ k := by
  refine (dunew_ok w hn).mono ?_
  rintro e w' ⟨p, D, rfl, hc, hp, hf⟩
  exact ⟨p, D, rfl, ⟨hc, hT.pure hp, fun e => by have := hf 0 e; have := hT.lt; omega⟩, hp, hf⟩
/-- Deadlines that were made since w0. -/
structure KnD (w0 w : World) (D : Nat → Prop) (p now : Nat) (M : List Td) : Prop where
  t : DueT w D p now M
  ge : ∀ k, D k → w0.heap.size ≤ k
  pu : Pure w0 w
theorem KnD.pure (h : KnD w0 w D p now M) (hm : Pure w w') : KnD w0 w' D p now M := ⟨h.t.pure hm, h.ge, h.pu.trans hm⟩
theorem KnD.step (h : KnD w0 w D p now M) {D' : Nat → Prop} {now' : Nat} {M' : List Td} (hc : DueAt w' D' p now' M') (hg : grewD D D' w) (hm : Mod D w w') : KnD w0 w' D' p now' M' :=
  ⟨h.t.next hc hg hm, fun k hk => by
    rcases hg k hk with e | e
    · exact h.ge k e
    · have := h.pu.size; omega, h.pu.then hm (fun k hk e => by have := h.ge k e; omega)⟩
theorem KnD.new (hT : TabW w) (hn : now < 18446744073709551616) : Calls Tryd.prog 33 #[.int .u64 now] w fun e w' => ∃ p D, e = .returned (lkP p) ∧ KnD w w' D p now [] := by
  refine (DueT.new hT hn).mono ?_
  rintro e w' ⟨p, D, rfl, hc, hp, hf⟩
  exact ⟨p, D, rfl, hc, hf, hp⟩
theorem KnD.set (h : KnD w0 w D p now M) {s dl b : Nat} (h32 : s ≤ 4294967295) (hd : dl ≤ 18446744073709551615) (hb : b ≤ 18446744073709551615) {r : Int} (hr : setR now M s dl b = r) (hL : setL now M s dl b = M') :
    Calls Tryd.prog 34 #[lkP p, .int .u32 s, .int .u64 dl, .int .u64 b] w fun e w' => e = .returned (.int .i64 r) ∧ ∃ D', KnD w0 w' D' p now M' := by
  refine (h.t.at_.set h32 hd hb).mono ?_
  rintro e w' ⟨rfl, ⟨D', hc, hg⟩, hm⟩
  rw [hL] at hc
  exact ⟨by rw [hr], D', h.step hc hg hm⟩
theorem KnD.remove (h : KnD w0 w D p now M) {s : Nat} (h32 : s ≤ 4294967295) {r : Int} (hr : (getT M s).2 = r) (hL : canL M s = M') :
    Calls Tryd.prog 35 #[lkP p, .int .u32 s] w fun e w' => e = .returned (.int .i64 r) ∧ ∃ D', KnD w0 w' D' p now M' := by
  refine (h.t.at_.remove h32).mono ?_
  rintro e w' ⟨rfl, ⟨D', hc, hg⟩, hm⟩
  rw [hL] at hc
  exact ⟨by rw [hr], D', h.step hc hg hm⟩
theorem KnD.expire (h : KnD w0 w D p now M) {t0 : Nat} (ht0 : t0 ≤ 18446744073709551615) {now' : Nat} {E : List Td} {n : Nat} (hN : max now t0 = now') (hE : dueE now' M = E) (hL : restE now' M = M') (hn : E.length = n) :
    Calls Tryd.prog 37 #[lkP p, .int .u64 t0] w fun e w' => ∃ a c, e = .returned (.slice a n c) ∧ RdL w' a n c E ∧ ∃ D', KnD w0 w' D' p now' M' := by
  refine (h.t.at_.expire h.t.tab h.t.off ht0).mono ?_
  rintro e w' ⟨a, c, rfl, hr, ⟨D', hc, hg, _⟩, hm⟩
  rw [hN, hE] at hr
  rw [hN, hL] at hc
  refine ⟨a, c, by rw [hN, hE, hn], ?_, D', h.step hc hg hm⟩
  have := RdL.of_row hr
  rw [hn] at this
  exact this
theorem KnD.all (h : KnD w0 w D p now M) {n : Nat} (hn : M.length = n) :
    Calls Tryd.prog 36 #[lkP p] w fun e w' => ∃ a c, e = .returned (.slice a n c) ∧ RdL w' a n c M ∧ KnD w0 w' D p now M := by
  refine h.t.at_.all.mono ?_
  rintro e w' ⟨a, c, rfl, hr, _, hp⟩
  refine ⟨a, c, by rw [hn], ?_, h.pure hp⟩
  have := RdL.of_row hr
  rw [hn] at this
  exact this
theorem KnD.renumber (h : KnD w0 w D p now M) {a0 : Option Addr} {n0 c0 : Nat} (hto : ReadAt w (.slice a0 n0 c0) 1 (nums tv)) (hn0 : tv.length = n0) (hn4 : n0 ≤ 4194304) (ht32 : ∀ t ∈ tv, t ≤ 4294967295) {r : Int} (hr : renR tv M = r) (hL : renM tv M = M') :
    Calls Tryd.prog 43 #[lkP p, .slice a0 n0 c0] w fun e w' => e = .returned (.int .i64 r) ∧ ∃ D', KnD w0 w' D' p now M' := by
  refine (h.t.at_.renumber hto hn0 hn4 ht32).mono ?_
  rintro e w' ⟨rfl, ⟨D', hc, hg⟩, hm⟩
  rw [hL] at hc
  exact ⟨by rw [hr], D', h.step hc hg hm⟩
theorem KnD.gets (h : KnD w0 w D p now M) {s dl b : Nat} {er : Int} (h32 : s ≤ 4294967295) (h1 : (getT M s).1.dl = dl) (h2 : (getT M s).1.birth = b) (h3 : (getT M s).2 = er) :
    Calls Tryd.prog 40 #[lkP p, .int .u32 s, .int .u64 dl, .int .u64 b, .int .i64 er] w fun e w' => e = .returned (.bool true) ∧ KnD w0 w' D p now M := by
  refine (gets_ok h.t.at_ h32 h1 h2 h3).mono ?_
  rintro e w' ⟨rfl, hp⟩
  exact ⟨rfl, h.pure hp⟩
theorem KnD.lens (h : KnD w0 w D p now M) {a b : Nat} (h1 : M.length = a) (h2 : (timedL M).length = b) :
    Calls Tryd.prog 42 #[lkP p, .int .i64 a, .int .i64 b] w fun e w' => e = .returned (.bool true) ∧ KnD w0 w' D p now M := by
  refine (lens_ok h.t.at_ h1 h2).mono ?_
  rintro e w' ⟨rfl, hp⟩
  exact ⟨rfl, h.pure hp⟩
theorem KnD.next (h : KnD w0 w D p now M) {n : Nat} (hn : nextD M = n) : Calls Tryd.prog 41 #[lkP p] w fun e w' => e = .returned (.int .u64 n) ∧ KnD w0 w' D p now M := by
  refine (h.t.at_.next h.t.tab).mono ?_
  rintro e w' ⟨rfl, hp⟩
  exact ⟨by rw [hn], h.pure hp⟩
theorem KnD.now_ (h : KnD w0 w D p now M) : Calls Tryd.prog 38 #[lkP p] w fun e w' => e = .returned (.int .u64 now) ∧ KnD w0 w' D p now M := by
  refine h.t.at_.now_.mono ?_
  rintro e w' ⟨rfl, rfl⟩
  exact ⟨rfl, h⟩
end
end Go.Proofs.YtlalpenfgkfkpaaDoor

/- The reference of cascade: Schedule. Conditions: the list is read. -/
namespace Go.Proofs.YtlalpenfgkfkpaaDoor
open Go.RowKit Go.Shelf
set_option maxRecDepth 100000
/-- A slice of the reference: the one that was, or a new one. -/
def Kept (w : World) (a : Option Addr) (n c : Nat) (a' : Option Addr) (n' c' : Nat) : Prop := (a' = a ∧ n' = n ∧ c' = c) ∨ FreshV w (.slice a' n' c')
section
variable {w : World} {a : Option Addr} {n c now tt : Nat} {L : List Td} {x : Td}
/-- Three boxes: a wheel, what is timed, a wheel's result. -/
def box3 (w : World) (now : Nat) (a : Option Addr) (n c : Nat) (x : Td) : World := ((w.alloc (.cells #[.int .u64 now, .slice a n c] 45)).alloc (.cells #[.int .u32 x.slot, .int .u64 x.dl, .int .u64 x.birth] 31)).alloc (.cells #[.int .u64 0, .slice none 0 0] 45)
structure Box3 (w W : World) (b0 b1 b2 : Nat) (now : Nat) (a : Option Addr) (n c : Nat) (x : Td) : Prop where
  pure : Pure w W
  z0 : w.heap.size ≤ b0
  z1 : w.heap.size ≤ b1
  z2 : w.heap.size ≤ b2
  h0 : W.heap[b0]? = some (.cells #[.int .u64 now, .slice a n c] 45 (0, 0))
  h1 : W.heap[b1]? = some (.cells #[.int .u32 x.slot, .int .u64 x.dl, .int .u64 x.birth] 31 (0, 0))
  h2 : W.heap[b2]? = some (.cells #[.int .u64 0, .slice none 0 0] 45 (0, 0))
  ne01 : b0 ≠ b1
  ne02 : b0 ≠ b2
  ne12 : b1 ≠ b2
theorem box3_ok : ∃ W b0 b1 b2, box3 w now a n c x = W ∧ w.heap.size = b0 ∧ w.heap.size + 1 = b1 ∧ w.heap.size + 1 + 1 = b2 ∧ Box3 w W b0 b1 b2 now a n c x := by
  refine ⟨_, _, _, _, rfl, rfl, rfl, rfl, ?_⟩
  have p1 := (Mod.refl (fun _ => False) w).alloc (.cells #[.int .u64 now, .slice a n c] 45)
  have p2 := (Mod.refl (fun _ => False) (w.alloc (.cells #[.int .u64 now, .slice a n c] 45))).alloc (.cells #[.int .u32 x.slot, .int .u64 x.dl, .int .u64 x.birth] 31)
  have p3 := (Mod.refl (fun _ => False) ((w.alloc (.cells #[.int .u64 now, .slice a n c] 45)).alloc (.cells #[.int .u32 x.slot, .int .u64 x.dl, .int .u64 x.birth] 31))).alloc (.cells #[.int .u64 0, .slice none 0 0] 45)
  refine ⟨(p1.trans p2).trans p3, Nat.le_refl _, by omega, by omega, ?_, ?_, ?_, by omega, by omega, by omega⟩
  · exact (p2.trans p3).heap (fun h => h) (heap_new rfl)
  · exact p3.heap (fun h => h) (heap_new (by simp))
  · exact heap_new (by simp)
theorem rsched_er (he : schE now x ≠ 0) (h32 : x.slot ≤ 4294967295) (hd : x.dl ≤ 18446744073709551615) (hb : x.birth ≤ 18446744073709551615) :
    Calls Tryd.prog 20 #[whV now a n c, tdV x] w fun e w' => e = .returned (.tuple #[whV now a n c, .int .i64 (schE now x)]) ∧ Pure w w' := by
  unfold whV tdV
  obtain ⟨W1, b0, b1, b2, hW, e0, e1, e2, hB⟩ := box3_ok (w := w) (now := now) (a := a) (n := n) (c := c) (x := x)
  unfold box3 at hW
  obtain ⟨y0, y1, y2⟩ : W1.cell? ⟨b1, 0, none⟩ = some (.int .u32 x.slot) ∧ W1.cell? ⟨b1, 1, none⟩ = some (.int .u64 x.dl) ∧ W1.cell? ⟨b1, 2, none⟩ = some (.int .u64 x.birth) := ⟨by rw [cell_of_row _ _ 0 _ _ _ hB.h1]; rfl, by rw [cell_of_row _ _ 1 _ _ _ hB.h1]; rfl, by rw [cell_of_row _ _ 2 _ _ _ hB.h1]; rfl⟩
  have h0 := hB.h0; have h2 := hB.h2
  have HB := Lib.hid hB; have HW := Lib.hid hW; have E0 := Lib.hid e0; have E1 := Lib.hid e1; have E2 := Lib.hid e2
  clear hB hW e0 e1 e2
  have h0_0 := cell_of_row _ _ 0 _ _ _ h0; have h0_1 := cell_of_row _ _ 1 _ _ _ h0; have h0_f := (fun j => frozen_of_row _ _ j _ _ h0); have h0_l := lt_of_block h0; simp at h0_0 h0_1; have H_h0 := Lib.hid h0; clear h0
  have h2_0 := cell_of_row _ _ 0 _ _ _ h2; have h2_1 := cell_of_row _ _ 1 _ _ _ h2; have h2_f := (fun j => frozen_of_row _ _ j _ _ h2); have h2_l := lt_of_block h2; simp at h2_0 h2_1; have H_h2 := Lib.hid h2; clear h2
  have fin : ∀ W (q : Pure W1 W), W.heap[b2]? = some (.cells #[.int .u64 0, .slice none 0 0] 45 (0, 0)) → Pure w ((W.setCell ⟨b2, 0, none⟩ (.int .u64 now)).setCell ⟨b2, 1, none⟩ (.slice a n c)) := fun W q _ =>
    (HB.out.pure.trans q).then (Mod.set2 b2 0 1 _ _) (fun k hk e => by have := HB.out.z2; omega)
  have HFin := Lib.hid fin
  clear fin
  have V1 : True := trivial
  unfold schE at he ⊢
  by_cases hs : x.slot < 4194304
  · have hs' : ¬ (4194304 : Int) ≤ (x.slot : Int) := by omega
    rw [if_pos hs] at he ⊢
    by_cases hz : x.birth = 0
    · rw [if_pos hz]
      have e0 : ((x.birth : Int) == 0) = true := by simp; omega
      clear he hz
      go_enter Tryd.func20, Tryd.ntmps20
      go_upto_region 1 with fail
      rw [HW.out, E2.out, E1.out, E0.out]
      go_wp2
      refine bodyPost_ret (v := .tuple #[.agg #[.int .u64 now, .slice a n c], .int .i64 2]) (by simp [results, Tryd.results20, go_sem, h0_0, h0_1, h0_l, h2_0, h2_1, h2_l]) rfl ⟨rfl, HFin.out _ (Mod.refl _ _) HB.out.h2⟩
    · rw [if_neg hz] at he ⊢
      have e0 : ((x.birth : Int) == 0) = false := by simp; omega
      unfold atE at he ⊢
      rw [if_pos hs] at he ⊢
      by_cases hm : x.dl = 18446744073709551615
      · rw [if_pos hm]
        have e1 : ((x.dl : Int) == 18446744073709551615) = true := by simp; omega
        clear he hz hm
        go_enter Tryd.func20, Tryd.ntmps20
        go_upto_region 1 with fail
        rw [HW.out, E2.out, E1.out, E0.out]
        go_wp2
        refine bodyPost_ret (v := .tuple #[.agg #[.int .u64 now, .slice a n c], .int .i64 2]) (by simp [results, Tryd.results20, go_sem, h0_0, h0_1, h0_l, h2_0, h2_1, h2_l]) rfl ⟨rfl, HFin.out _ (Mod.refl _ _) HB.out.h2⟩
      · rw [if_neg hm] at he ⊢
        have e1 : ((x.dl : Int) == 18446744073709551615) = false := by simp; omega
        by_cases hn : x.dl ≤ now
        · rw [if_pos hn]
          have hn' : (x.dl : Int) ≤ (now : Int) := by omega
          clear he hz hm hn
          go_enter Tryd.func20, Tryd.ntmps20
          go_upto_region 1 with fail
          rw [HW.out, E2.out, E1.out, E0.out]
          go_wp2
          refine bodyPost_ret (v := .tuple #[.agg #[.int .u64 now, .slice a n c], .int .i64 3]) (by simp [results, Tryd.results20, go_sem, h0_0, h0_1, h0_l, h2_0, h2_1, h2_l]) rfl ⟨rfl, HFin.out _ (Mod.refl _ _) HB.out.h2⟩
        · rw [if_neg hn] at he
          exact absurd rfl he
  · have hs' : (4194304 : Int) ≤ (x.slot : Int) := by omega
    rw [if_neg hs]
    clear he
    go_enter Tryd.func20, Tryd.ntmps20
    go_upto_region 1 with fail
    rw [HW.out, E2.out, E1.out, E0.out]
    go_wp2
    refine bodyPost_ret (v := .tuple #[.agg #[.int .u64 now, .slice a n c], .int .i64 2]) (by simp [results, Tryd.results20, go_sem, h0_0, h0_1, h0_l, h2_0, h2_1, h2_l]) rfl ⟨rfl, HFin.out _ (Mod.refl _ _) HB.out.h2⟩
theorem findR_pos {s : Nat} (h : hasB L s = true) : 0 ≤ findR L s := by unfold findR; rw [if_pos h]; omega
theorem findR_neg {s : Nat} (h : hasB L s = false) : findR L s = -1 := by unfold findR; rw [if_neg (by rw [h]; decide)]
theorem rsched_busy (h : RdL w a n c L) (hl : n ≤ 4194304) (he : schE now x = 0) (hd : x.dl ≤ 18446744073709551615) (hy : (hasB L x.slot || bornB L x.birth) = true) :
    Calls Tryd.prog 20 #[whV now a n c, tdV x] w fun e w' => e = .returned (.tuple #[whV now a n c, .int .i64 11]) ∧ Pure w w' := by
  unfold whV tdV
  obtain ⟨W1, b0, b1, b2, hW, e0, e1, e2, hB⟩ := box3_ok (w := w) (now := now) (a := a) (n := n) (c := c) (x := x)
  unfold box3 at hW
  obtain ⟨y0, y1, y2⟩ : W1.cell? ⟨b1, 0, none⟩ = some (.int .u32 x.slot) ∧ W1.cell? ⟨b1, 1, none⟩ = some (.int .u64 x.dl) ∧ W1.cell? ⟨b1, 2, none⟩ = some (.int .u64 x.birth) := ⟨by rw [cell_of_row _ _ 0 _ _ _ hB.h1]; rfl, by rw [cell_of_row _ _ 1 _ _ _ hB.h1]; rfl, by rw [cell_of_row _ _ 2 _ _ _ hB.h1]; rfl⟩
  have hr := h.pure hB.pure
  have hfi := rfind_ok hr.rd hr.len (by omega) x.slot
  have hbo := rborn_ok hr.rd hr.len (by omega) x.birth
  obtain ⟨a1, a2, a3, a4⟩ := schE_zero he hd
  have c1 : ¬ (4194304 : Int) ≤ (x.slot : Int) := by omega
  have c2 : ((x.birth : Int) == 0) = false := by simp; omega
  have c3 : ((x.dl : Int) == 18446744073709551615) = false := by simp; omega
  have c4 : ¬ (x.dl : Int) ≤ (now : Int) := by omega
  have h0 := hB.h0; have h2 := hB.h2
  have HB := Lib.hid hB; have HW := Lib.hid hW; have E0 := Lib.hid e0; have E1 := Lib.hid e1; have E2 := Lib.hid e2; have HBo := Lib.hid hbo
  clear hB hW e0 e1 e2 h hr hbo he a1 a2 a3 a4 hd
  have h0_0 := cell_of_row _ _ 0 _ _ _ h0; have h0_1 := cell_of_row _ _ 1 _ _ _ h0; have h0_f := (fun j => frozen_of_row _ _ j _ _ h0); have h0_l := lt_of_block h0; simp at h0_0 h0_1; have H_h0 := Lib.hid h0; clear h0
  have h2_0 := cell_of_row _ _ 0 _ _ _ h2; have h2_1 := cell_of_row _ _ 1 _ _ _ h2; have h2_f := (fun j => frozen_of_row _ _ j _ _ h2); have h2_l := lt_of_block h2; simp at h2_0 h2_1; have H_h2 := Lib.hid h2; clear h2
  have fin : Pure w ((W1.setCell ⟨b2, 0, none⟩ (.int .u64 now)).setCell ⟨b2, 1, none⟩ (.slice a n c)) :=
    HB.out.pure.then (Mod.set2 b2 0 1 _ _) (fun k hk e => by have := HB.out.z2; omega)
  have HFin := Lib.hid fin
  clear fin
  cases hh : hasB L x.slot with
  | true =>
    have f0 := findR_pos hh
    generalize findR L x.slot = f at *
    have HFi := Lib.hid hfi
    clear hfi hh hy
    go_enter Tryd.func20, Tryd.ntmps20
    go_upto_region 1 with fail
    rw [HW.out, E2.out, E1.out, E0.out]
    go_wp2_with (go_at_call 18; refine Calls.mono HFi.out ?_; rintro e w' ⟨rfl, rfl⟩)
    refine bodyPost_ret (v := .tuple #[.agg #[.int .u64 now, .slice a n c], .int .i64 11]) (by simp [results, Tryd.results20, go_sem, h0_0, h0_1, h0_l, h2_0, h2_1, h2_l]) rfl ⟨rfl, HFin.out⟩
  | false =>
    have f0 := findR_neg hh
    rw [f0] at hfi
    have HFi := Lib.hid hfi
    rw [hh, Bool.false_or] at hy
    rw [hy] at HBo
    clear hfi hh hy f0
    go_enter Tryd.func20, Tryd.ntmps20
    go_upto_region 1 with fail
    rw [HW.out, E2.out, E1.out, E0.out]
    go_wp2_with (first
      | (go_at_call 18; refine Calls.mono HFi.out ?_; rintro e w' ⟨rfl, rfl⟩)
      | (go_at_call 58; refine Calls.mono HBo.out ?_; rintro e w' ⟨rfl, rfl⟩))
    refine bodyPost_ret (v := .tuple #[.agg #[.int .u64 now, .slice a n c], .int .i64 11]) (by simp [results, Tryd.results20, go_sem, h0_0, h0_1, h0_l, h2_0, h2_1, h2_l]) rfl ⟨rfl, HFin.out⟩
theorem rsched_put (h : RdL w a n c L) (hl : n ≤ 4194304) (he : schE now x = 0) (hd : x.dl ≤ 18446744073709551615) (hy : (hasB L x.slot || bornB L x.birth) = false) :
    Calls Tryd.prog 20 #[whV now a n c, tdV x] w fun e w' => ∃ a' c', e = .returned (.tuple #[whV now a' (n + 1) c', .int .i64 0]) ∧ TdRow w' a' c' (putL L x) ∧ FreshV w (.slice a' (n + 1) c') ∧ Pure w w' := by
  unfold whV tdV
  obtain ⟨W1, b0, b1, b2, hW, e0, e1, e2, hB⟩ := box3_ok (w := w) (now := now) (a := a) (n := n) (c := c) (x := x)
  unfold box3 at hW
  obtain ⟨y0, y1, y2⟩ : W1.cell? ⟨b1, 0, none⟩ = some (.int .u32 x.slot) ∧ W1.cell? ⟨b1, 1, none⟩ = some (.int .u64 x.dl) ∧ W1.cell? ⟨b1, 2, none⟩ = some (.int .u64 x.birth) := ⟨by rw [cell_of_row _ _ 0 _ _ _ hB.h1]; rfl, by rw [cell_of_row _ _ 1 _ _ _ hB.h1]; rfl, by rw [cell_of_row _ _ 2 _ _ _ hB.h1]; rfl⟩
  have hr := h.pure hB.pure
  have hfi := rfind_ok hr.rd hr.len (by omega) x.slot
  have hbo := rborn_ok hr.rd hr.len (by omega) x.birth
  obtain ⟨a1, a2, a3, a4⟩ := schE_zero he hd
  have c1 : ¬ (4194304 : Int) ≤ (x.slot : Int) := by omega
  have c2 : ((x.birth : Int) == 0) = false := by simp; omega
  have c3 : ((x.dl : Int) == 18446744073709551615) = false := by simp; omega
  have c4 : ¬ (x.dl : Int) ≤ (now : Int) := by omega
  have hpu := rput_ok hr hl x
  unfold tdV at hpu
  obtain ⟨m, hm⟩ : ∃ m, n + 1 = m := ⟨_, rfl⟩
  rw [hm] at hpu ⊢
  have HM := Lib.hid hm
  clear hm
  rw [Bool.or_eq_false_iff] at hy
  rw [findR_neg hy.1] at hfi
  rw [hy.2] at hbo
  have HB := Lib.hid hB; have HW := Lib.hid hW; have E0 := Lib.hid e0; have E1 := Lib.hid e1; have E2 := Lib.hid e2; have HBo := Lib.hid hbo; have HFi := Lib.hid hfi; have HPu := Lib.hid hpu
  have x0 := whbox hB.h0
  have HLen := Lib.hid h.len
  obtain ⟨x0, x1⟩ := x0
  clear hB hW e0 e1 e2 h hr hbo hfi he a1 a2 a3 a4 hd hpu hy
  go_enter Tryd.func20, Tryd.ntmps20
  go_upto_region 1 with fail
  rw [HW.out, E2.out, E1.out, E0.out]
  go_upto_region 7 with (first
    | (go_at_call 18; refine Calls.mono HFi.out ?_; rintro e w' ⟨rfl, rfl⟩)
    | (go_at_call 58; refine Calls.mono HBo.out ?_; rintro e w' ⟨rfl, rfl⟩))
  go_upto_region 8 with (first
    | (go_at_call 59; refine Calls.mono HPu.out ?_; rintro e w7 ⟨a7, c7, rfl, hr7, hf7, hp7⟩
       have h0 := hp7.heap (fun h => h) HB.out.h0; have HR7 := Lib.hid hr7; have HF7 := Lib.hid hf7; have HP7 := Lib.hid hp7; clear hr7 hf7 hp7 x0 x1
       have h0_0 := cell_of_row _ _ 0 _ _ _ h0; have h0_1 := cell_of_row _ _ 1 _ _ _ h0; have h0_f := (fun j => frozen_of_row _ _ j _ _ h0); have h0_l := lt_of_block h0; simp at h0_0 h0_1; have H_h0 := Lib.hid h0; clear h0
       clear y0 y1 y2 H_h0 HBo HFi HPu HW E0 E1 E2 c1 c2 c3 c4))
  have h07 := HP7.out.heap (fun h => h) HB.out.h0
  have h27 := HP7.out.heap (fun h => h) HB.out.h2
  have p7 := HB.out.pure.trans HP7.out
  have hl7 : ∀ k, k < W1.heap.size → (Value.slice a7 m c7).ownBlock = some k → False := fun k hk e => by have := HF7.out k e; omega
  have hb0 := lt_of_block HB.out.h0; have hb2 := lt_of_block HB.out.h2
  have hr8 := owns_mod HR7.out (Mod.set1 (w := w7) b0 1 (.slice a7 m c7)) (fun k hk e => by subst e; exact hl7 _ hb0 (by rw [← HM.out, ← HLen.out, ← putL_length (x := x)]; exact hk))
  have p8 : Pure w (w7.setCell ⟨b0, 1, none⟩ (.slice a7 m c7)) := p7.then (Mod.set1 b0 1 _) (fun k hk e => by have := HB.out.z0; omega)
  have h08 : (w7.setCell ⟨b0, 1, none⟩ (.slice a7 m c7)).heap[b0]? = some (.cells #[.int .u64 now, .slice a7 m c7] 45 (0, 0)) := by
    rw [heap_setCell_same w7 b0 1 _ _ (.slice a7 m c7) h07]; rfl
  have h28 := (Mod.set1 (w := w7) b0 1 (.slice a7 m c7)).heap (fun e => HB.out.ne02 e.symm) h27
  generalize w7.setCell ⟨b0, 1, none⟩ (.slice a7 m c7) = w8 at *
  have hr9 := owns_mod hr8 (Mod.set2 (w := w8) b2 0 1 (.int .u64 now) (.slice a7 m c7)) (fun k hk e => by subst e; exact hl7 _ hb2 (by rw [← HM.out, ← HLen.out, ← putL_length (x := x)]; exact hk))
  have p9 : Pure w ((w8.setCell ⟨b2, 0, none⟩ (.int .u64 now)).setCell ⟨b2, 1, none⟩ (.slice a7 m c7)) := p8.then (Mod.set2 b2 0 1 _ _) (fun k hk e => by have := HB.out.z2; omega)
  have hfr : FreshV w (.slice a7 m c7) := fun k hk => Nat.le_trans HB.out.pure.size (HF7.out k hk)
  have HR9 := Lib.hid hr9; have HP9 := Lib.hid p9; have HFr := Lib.hid hfr
  clear h07 h27 p7 hl7 hb0 hb2 hr8 p8 hr9 p9 hfr h0_0 h0_1 h0_l
  have h08_0 := cell_of_row _ _ 0 _ _ _ h08; have h08_1 := cell_of_row _ _ 1 _ _ _ h08; have h08_f := (fun j => frozen_of_row _ _ j _ _ h08); have h08_l := lt_of_block h08; simp at h08_0 h08_1; have H_h08 := Lib.hid h08; clear h08
  have h28_0 := cell_of_row _ _ 0 _ _ _ h28; have h28_1 := cell_of_row _ _ 1 _ _ _ h28; have h28_f := (fun j => frozen_of_row _ _ j _ _ h28); have h28_l := lt_of_block h28; simp at h28_0 h28_1; have H_h28 := Lib.hid h28; clear h28
  go_wp2
  refine bodyPost_ret (v := .tuple #[.agg #[.int .u64 now, .slice a7 m c7], .int .i64 0]) (by simp [results, Tryd.results20, go_sem, h28_0, h28_1, h28_l]) rfl ⟨a7, c7, rfl, HR9.out, HFr.out, HP9.out⟩
end
end Go.Proofs.YtlalpenfgkfkpaaDoor

/- The reference of cascade: Schedule in one, Cancel. Conditions: the list is read. -/
namespace Go.Proofs.YtlalpenfgkfkpaaDoor
open Go.RowKit Go.Shelf
set_option maxRecDepth 100000
section
variable {w : World} {a : Option Addr} {n c now tt : Nat} {L : List Td} {x : Td}
theorem rsched_ok (h : RdL w a n c L) (hl : n ≤ 4194304) (h32 : x.slot ≤ 4294967295) (hd : x.dl ≤ 18446744073709551615) (hb : x.birth ≤ 18446744073709551615) :
    Calls Tryd.prog 20 #[whV now a n c, tdV x] w fun e w' => ∃ a' n' c', e = .returned (.tuple #[whV now a' n' c', .int .i64 (schR now L x)]) ∧ RdL w' a' n' c' (schL now L x) ∧ Kept w a n c a' n' c' ∧ Pure w w' := by
  unfold schL
  by_cases he : schE now x = 0
  · cases hy : (hasB L x.slot || bornB L x.birth) with
    | true =>
      have er : schR now L x = 11 := by unfold schR; rw [if_pos he, if_pos hy]
      rw [er, if_neg (by decide)]
      refine (rsched_busy h hl he hd hy).mono ?_
      rintro e w' ⟨rfl, hp⟩
      exact ⟨a, n, c, rfl, h.pure hp, .inl ⟨rfl, rfl, rfl⟩, hp⟩
    | false =>
      have er : schR now L x = 0 := by unfold schR; rw [if_pos he, hy]; rfl
      rw [er, if_pos rfl]
      refine (rsched_put h hl he hd hy).mono ?_
      rintro e w' ⟨a', c', rfl, hr, hf, hp⟩
      have hlen : (putL L x).length = n + 1 := by rw [putL_length, h.len]
      exact ⟨a', n + 1, c', rfl, by rw [← hlen]; exact RdL.of_row hr, .inr hf, hp⟩
  · have er : schR now L x = schE now x := by unfold schR; rw [if_neg he]
    rw [er, if_neg he]
    refine (rsched_er he h32 hd hb).mono ?_
    rintro e w' ⟨rfl, hp⟩
    exact ⟨a, n, c, rfl, h.pure hp, .inl ⟨rfl, rfl, rfl⟩, hp⟩
/-- Three boxes: a wheel, a wheel's result, what is timed. -/
def box3c (w : World) (now : Nat) (a : Option Addr) (n c : Nat) : World := ((w.alloc (.cells #[.int .u64 now, .slice a n c] 45)).alloc (.cells #[.int .u64 0, .slice none 0 0] 45)).alloc (.cells #[.int .u32 0, .int .u64 0, .int .u64 0] 31)
structure Box3c (w W : World) (b0 b1 b2 : Nat) (now : Nat) (a : Option Addr) (n c : Nat) : Prop where
  pure : Pure w W
  z0 : w.heap.size ≤ b0
  z1 : w.heap.size ≤ b1
  z2 : w.heap.size ≤ b2
  h0 : W.heap[b0]? = some (.cells #[.int .u64 now, .slice a n c] 45 (0, 0))
  h1 : W.heap[b1]? = some (.cells #[.int .u64 0, .slice none 0 0] 45 (0, 0))
  h2 : W.heap[b2]? = some (.cells #[.int .u32 0, .int .u64 0, .int .u64 0] 31 (0, 0))
  ne01 : b0 ≠ b1
  ne02 : b0 ≠ b2
  ne12 : b1 ≠ b2
theorem box3c_ok : ∃ W b0 b1 b2, box3c w now a n c = W ∧ w.heap.size = b0 ∧ w.heap.size + 1 = b1 ∧ w.heap.size + 1 + 1 = b2 ∧ Box3c w W b0 b1 b2 now a n c := by
  refine ⟨_, _, _, _, rfl, rfl, rfl, rfl, ?_⟩
  have p1 := (Mod.refl (fun _ => False) w).alloc (.cells #[.int .u64 now, .slice a n c] 45)
  have p2 := (Mod.refl (fun _ => False) (w.alloc (.cells #[.int .u64 now, .slice a n c] 45))).alloc (.cells #[.int .u64 0, .slice none 0 0] 45)
  have p3 := (Mod.refl (fun _ => False) ((w.alloc (.cells #[.int .u64 now, .slice a n c] 45)).alloc (.cells #[.int .u64 0, .slice none 0 0] 45))).alloc (.cells #[.int .u32 0, .int .u64 0, .int .u64 0] 31)
  refine ⟨(p1.trans p2).trans p3, Nat.le_refl _, by omega, by omega, ?_, ?_, ?_, by omega, by omega, by omega⟩
  · exact (p2.trans p3).heap (fun h => h) (heap_new rfl)
  · exact p3.heap (fun h => h) (heap_new (by simp))
  · exact heap_new (by simp)
theorem mod_wt {W : World} {b1 b2 : Nat} (v0 v1 u0 u1 u2 : Value) : Mod (fun k => k = b1 ∨ k = b2) W (((((W.setCell ⟨b1, 0, none⟩ v0).setCell ⟨b1, 1, none⟩ v1).setCell ⟨b2, 0, none⟩ u0).setCell ⟨b2, 1, none⟩ u1).setCell ⟨b2, 2, none⟩ u2) :=
  (((((Mod.refl (fun k => k = b1 ∨ k = b2) W).setCell (p := ⟨b1, 0, none⟩) (fun _ => .inl rfl) _).setCell (p := ⟨b1, 1, none⟩) (fun _ => .inl rfl) _).setCell (p := ⟨b2, 0, none⟩) (fun _ => .inr rfl) _).setCell (p := ⟨b2, 1, none⟩) (fun _ => .inr rfl) _).setCell (p := ⟨b2, 2, none⟩) (fun _ => .inr rfl) _
theorem rcan_no (h : RdL w a n c L) (hl : n ≤ 4194304) {s : Nat} (h32 : s ≤ 4294967295) {er : Int} (he : getT L s = (zTd, er)) (hne : er ≠ 0) :
    Calls Tryd.prog 66 #[whV now a n c, .int .u32 s] w fun e w' => e = .returned (.tuple #[whV now a n c, tdV zTd, .int .i64 er]) ∧ Pure w w' := by
  unfold whV
  obtain ⟨W1, b0, b1, b2, hW, e0, e1, e2, hB⟩ := box3c_ok (w := w) (now := now) (a := a) (n := n) (c := c)
  unfold box3c at hW
  have hr := h.pure hB.pure
  have hfi := rfind_ok hr.rd hr.len (by omega) s
  have h0 := hB.h0; have h1 := hB.h1; have h2 := hB.h2
  have HB := Lib.hid hB; have HW := Lib.hid hW; have E0 := Lib.hid e0; have E1 := Lib.hid e1; have E2 := Lib.hid e2
  clear hB hW e0 e1 e2 h hr
  have h0_0 := cell_of_row _ _ 0 _ _ _ h0; have h0_1 := cell_of_row _ _ 1 _ _ _ h0; have h0_f := (fun j => frozen_of_row _ _ j _ _ h0); have h0_l := lt_of_block h0; simp at h0_0 h0_1; have H_h0 := Lib.hid h0; clear h0
  have h1_0 := cell_of_row _ _ 0 _ _ _ h1; have h1_1 := cell_of_row _ _ 1 _ _ _ h1; have h1_f := (fun j => frozen_of_row _ _ j _ _ h1); have h1_l := lt_of_block h1; simp at h1_0 h1_1; have H_h1 := Lib.hid h1; clear h1
  have h2_0 := cell_of_row _ _ 0 _ _ _ h2; have h2_1 := cell_of_row _ _ 1 _ _ _ h2; have h2_2 := cell_of_row _ _ 2 _ _ _ h2; have h2_f := (fun j => frozen_of_row _ _ j _ _ h2); have h2_l := lt_of_block h2; simp at h2_0 h2_1 h2_2; have H_h2 := Lib.hid h2; clear h2
  have fin : Pure w (((((W1.setCell ⟨b1, 0, none⟩ (.int .u64 now)).setCell ⟨b1, 1, none⟩ (.slice a n c)).setCell ⟨b2, 0, none⟩ (.int .u32 0)).setCell ⟨b2, 1, none⟩ (.int .u64 0)).setCell ⟨b2, 2, none⟩ (.int .u64 0)) :=
    HB.out.pure.then (mod_wt _ _ _ _ _) (fun k hk e => by have := HB.out.z2; have := HB.out.z1; rcases e with e | e <;> omega)
  have HFin := Lib.hid fin
  have n12 := HB.out.ne12
  clear fin
  by_cases hs : s < 4194304
  · have hh : hasB L s = false := by
      cases hh : hasB L s with
      | false => rfl
      | true =>
        obtain ⟨x, h1, h2, h3, h4⟩ := findI_get (findI_lt.2 hh)
        rw [getT_hit hs h3] at he
        injection he with he1 he2
        exact absurd he2.symm hne
    have e9 : er = 9 := by
      rw [getT_miss hs (find_none hh)] at he
      injection he with he1 he2
      exact he2.symm
    subst e9
    rw [findR_neg hh] at hfi
    have HFi := Lib.hid hfi
    have hs' : ¬ (4194304 : Int) ≤ (s : Int) := by omega
    clear hfi hh he hne
    go_enter Tryd.func66, Tryd.ntmps66
    go_upto_region 1 with fail
    rw [HW.out, E2.out, E1.out, E0.out]
    go_wp2_with (go_at_call 18; refine Calls.mono HFi.out ?_; rintro e w' ⟨rfl, rfl⟩)
    refine bodyPost_ret (v := .tuple #[.agg #[.int .u64 now, .slice a n c], tdV zTd, .int .i64 9]) (by simp [results, Tryd.results66, go_sem, h1_0, h1_1, h1_l, h2_0, h2_1, h2_2, h2_l, n12, n12.symm, tdV, zTd]) rfl ⟨rfl, HFin.out⟩
  · have e2 : er = 2 := by
      rw [getT_arg hs] at he
      injection he with he1 he2
      exact he2.symm
    subst e2
    have hs' : (4194304 : Int) ≤ (s : Int) := by omega
    clear hfi he hne
    go_enter Tryd.func66, Tryd.ntmps66
    go_upto_region 1 with fail
    rw [HW.out, E2.out, E1.out, E0.out]
    go_wp2
    refine bodyPost_ret (v := .tuple #[.agg #[.int .u64 now, .slice a n c], tdV zTd, .int .i64 2]) (by simp [results, Tryd.results66, go_sem, h1_0, h1_1, h1_l, h2_0, h2_1, h2_2, h2_l, n12, n12.symm, tdV, zTd]) rfl ⟨rfl, HFin.out⟩
end
end Go.Proofs.YtlalpenfgkfkpaaDoor

/- The reference of cascade: Cancel. Conditions: the list is read. -/
namespace Go.Proofs.YtlalpenfgkfkpaaDoor
open Go.RowKit Go.Shelf
set_option maxRecDepth 100000
section
variable {w : World} {a : Option Addr} {n c now tt : Nat} {L : List Td} {x : Td}
set_option maxHeartbeats 1000000 in
theorem rcan_hit (h : RdL w a n c L) (hl : n ≤ 4194304) {s : Nat} (hs : s < 4194304) (hh : hasB L s = true) (hx : L[findI L s]? = some x) :
    Calls Tryd.prog 66 #[whV now a n c, .int .u32 s] w fun e w' => ∃ a' c', e = .returned (.tuple #[whV now a' (n - 1) c', tdV x, .int .i64 0]) ∧ TdRow w' a' c' (outI L s) ∧ FreshV w (.slice a' (n - 1) c') ∧ Pure w w' := by
  unfold whV
  obtain ⟨i, hi⟩ : ∃ i, findI L s = i := ⟨_, rfl⟩
  have hfi' : findR L s = (i : Nat) := by unfold findR; rw [if_pos hh, hi]
  unfold outI
  rw [hi] at hx ⊢
  obtain ⟨W1, b0, b1, b2, hW, e0, e1, e2, hB⟩ := box3c_ok (w := w) (now := now) (a := a) (n := n) (c := c)
  unfold box3c at hW
  have hr := h.pure hB.pure
  have hfi := rfind_ok hr.rd hr.len (by omega) s
  rw [hfi'] at hfi
  have hin : i < n := by have := (List.getElem?_eq_some_iff.1 hx).1; rw [h.len] at this; exact this
  obtain ⟨ad, rfl, z0, z1, z2⟩ := td_read hr.rd hx
  have hx0 := whbox hB.h0
  obtain ⟨x0, x1⟩ := hx0
  have hlt' : (i : Int) < (n : Int) := by omega
  have i0 : (0 : Int) ≤ (i : Int) := by omega
  have hs' : ¬ (4194304 : Int) ≤ (s : Int) := by omega
  obtain ⟨m, hm⟩ : ∃ m, n - 1 = m := ⟨_, rfl⟩
  rw [hm]
  have HM := Lib.hid hm
  clear hm
  have HB := Lib.hid hB; have HW := Lib.hid hW; have E0 := Lib.hid e0; have E1 := Lib.hid e1; have E2 := Lib.hid e2; have HR := Lib.hid hr; have HFi := Lib.hid hfi
  clear hB hW e0 e1 e2 h hr hfi hfi' hi hh hx
  go_enter Tryd.func66, Tryd.ntmps66
  go_upto_region 1 with fail
  rw [HW.out, E2.out, E1.out, E0.out]
  clear HW E0 E1 E2
  go_upto_region 3 with fail
  have hz := And.intro z0 (And.intro z1 z2)
  have HZ := Lib.hid hz; have HI := Lib.hid hin
  clear hs' z0 z1 z2 hz hin hlt'
  go_upto_region 6 with (go_at_call 18; refine Calls.mono HFi.out ?_; rintro e w' ⟨rfl, rfl⟩)
  obtain ⟨z0, z1, z2⟩ := HZ.out
  have hlt' : (i : Int) < (n : Int) := by have := HI.out; omega
  clear HFi
  go_upto_region 7 with fail
  have ha2 : Pure W1 (W1.alloc (.cells #[.int .u32 x.slot, .int .u64 x.dl, .int .u64 x.birth] 31)) := (Mod.refl _ W1).alloc _
  have h32 := heap_new (w := W1) (o := .cells #[.int .u32 x.slot, .int .u64 x.dl, .int .u64 x.birth] 31 (0, 0)) rfl
  obtain ⟨b3, hb3⟩ : ∃ b3, W1.heap.size = b3 := ⟨_, rfl⟩
  rw [hb3] at h32 ⊢
  generalize W1.alloc (.cells #[.int .u32 x.slot, .int .u64 x.dl, .int .u64 x.birth] 31) = W2 at *
  have hou := rout_ok (i := i) (HR.out.pure ha2).rd HR.out.len hl HR.out.cap HI.out
  have hm := HM.out
  rw [hm] at hou
  have x0 := ha2.cell (fun h => h) x0
  have x1 := ha2.cell (fun h => h) x1
  have hel : (L.eraseIdx i).length = m := by rw [List.length_eraseIdx, HR.out.len, if_pos HI.out, hm]
  have HOu := Lib.hid hou; have HEl := Lib.hid hel; have HB3 := Lib.hid hb3; have H32 := Lib.hid h32; have HA2 := Lib.hid ha2
  clear hou hm hel hb3 h32 ha2 z0 z1 z2
  go_upto_region 8 with (first
    | (go_at_call 92; refine Calls.mono HOu.out ?_; rintro e w7 ⟨a7, c7, rfl, hr7, hf7, hp7⟩
       have h0 := hp7.heap (fun h => h) (HA2.out.heap (fun h => h) HB.out.h0)
       have HR7 := Lib.hid hr7; have HF7 := Lib.hid hf7; have HP7 := Lib.hid hp7
       clear hr7 hf7 hp7 x0 x1
       have h0_0 := cell_of_row _ _ 0 _ _ _ h0; have h0_1 := cell_of_row _ _ 1 _ _ _ h0; have h0_f := (fun j => frozen_of_row _ _ j _ _ h0); have h0_l := lt_of_block h0; simp at h0_0 h0_1; have H_h0 := Lib.hid h0; clear h0
       clear H_h0 HOu i0 hlt'))
  have p27 := HA2.out.trans HP7.out
  have h07 := p27.heap (fun h => h) HB.out.h0
  have h17 := p27.heap (fun h => h) HB.out.h1
  have h27 := p27.heap (fun h => h) HB.out.h2
  have h37 := HP7.out.heap (fun h => h) H32.out
  have p7 := HB.out.pure.trans p27
  have hl7 : ∀ k, k < W1.heap.size → (Value.slice a7 m c7).ownBlock = some k → False := fun k hk e => by have := HF7.out k e; have := HA2.out.size; omega
  have hb0 := lt_of_block HB.out.h0; have hb1 := lt_of_block HB.out.h1; have hb2 := lt_of_block HB.out.h2
  have n03 : b0 ≠ b3 := by have := HB3.out; omega
  have n13 : b1 ≠ b3 := by have := HB3.out; omega
  have n23 : b2 ≠ b3 := by have := HB3.out; omega
  have hr8 := owns_mod HR7.out (Mod.set1 (w := w7) b0 1 (.slice a7 m c7)) (fun k hk e => by subst e; exact hl7 _ hb0 (by rw [← HEl.out]; exact hk))
  have p8 : Pure w (w7.setCell ⟨b0, 1, none⟩ (.slice a7 m c7)) := p7.then (Mod.set1 b0 1 _) (fun k hk e => by have := HB.out.z0; omega)
  have h08 : (w7.setCell ⟨b0, 1, none⟩ (.slice a7 m c7)).heap[b0]? = some (.cells #[.int .u64 now, .slice a7 m c7] 45 (0, 0)) := by
    rw [heap_setCell_same w7 b0 1 _ _ (.slice a7 m c7) h07]; rfl
  have h18 := (Mod.set1 (w := w7) b0 1 (.slice a7 m c7)).heap (fun e => HB.out.ne01 e.symm) h17
  have h28 := (Mod.set1 (w := w7) b0 1 (.slice a7 m c7)).heap (fun e => HB.out.ne02 e.symm) h27
  have h38 := (Mod.set1 (w := w7) b0 1 (.slice a7 m c7)).heap (fun e => n03 e.symm) h37
  generalize w7.setCell ⟨b0, 1, none⟩ (.slice a7 m c7) = w8 at *
  have n12 := HB.out.ne12
  have hmw := mod_wt (W := w8) (b1 := b1) (b2 := b2) (.int .u64 now) (.slice a7 m c7) (.int .u32 x.slot) (.int .u64 x.dl) (.int .u64 x.birth)
  have p9 := (p8.then hmw (fun k hk e => by have := HB.out.z2; have := HB.out.z1; rcases e with e | e <;> omega)).drew
  have hr9 := owns_mod (w := w8) hr8 (mod_wt (b1 := b1) (b2 := b2) (.int .u64 now) (.slice a7 m c7) (.int .u32 x.slot) (.int .u64 x.dl) (.int .u64 x.birth)) (fun k hk e => by
    rcases e with e | e
    · subst e; exact hl7 _ hb1 (by rw [← HEl.out]; exact hk)
    · subst e; exact hl7 _ hb2 (by rw [← HEl.out]; exact hk))
  have hfr : FreshV w (.slice a7 m c7) := fun k hk => Nat.le_trans (HB.out.pure.trans HA2.out).size (HF7.out k hk)
  have hr10 := owns_mod hr9 (Mod.refl (fun _ => False) _).drew (fun _ _ h => h)
  have HR9 := Lib.hid hr10; have HFr := Lib.hid hfr; have HP9 := Lib.hid p9
  clear h07 h17 h27 h37 p7 hl7 hb0 hb1 hb2 hr8 p8 p9 hmw hr9 hr10 hfr h0_0 h0_1 h0_l p27 n03
  have h08_0 := cell_of_row _ _ 0 _ _ _ h08; have h08_1 := cell_of_row _ _ 1 _ _ _ h08; have h08_f := (fun j => frozen_of_row _ _ j _ _ h08); have h08_l := lt_of_block h08; simp at h08_0 h08_1; have H_h08 := Lib.hid h08; clear h08
  have h18_0 := cell_of_row _ _ 0 _ _ _ h18; have h18_1 := cell_of_row _ _ 1 _ _ _ h18; have h18_f := (fun j => frozen_of_row _ _ j _ _ h18); have h18_l := lt_of_block h18; simp at h18_0 h18_1; have H_h18 := Lib.hid h18; clear h18
  have h28_0 := cell_of_row _ _ 0 _ _ _ h28; have h28_1 := cell_of_row _ _ 1 _ _ _ h28; have h28_2 := cell_of_row _ _ 2 _ _ _ h28; have h28_f := (fun j => frozen_of_row _ _ j _ _ h28); have h28_l := lt_of_block h28; simp at h28_0 h28_1 h28_2; have H_h28 := Lib.hid h28; clear h28
  have h38_0 := cell_of_row _ _ 0 _ _ _ h38; have h38_1 := cell_of_row _ _ 1 _ _ _ h38; have h38_2 := cell_of_row _ _ 2 _ _ _ h38; have h38_f := (fun j => frozen_of_row _ _ j _ _ h38); have h38_l := lt_of_block h38; simp at h38_0 h38_1 h38_2; have H_h38 := Lib.hid h38; clear h38
  go_region
  go_wp2
  refine bodyPost_ret (v := .tuple #[.agg #[.int .u64 now, .slice a7 m c7], tdV x, .int .i64 0]) (by simp [results, Tryd.results66, go_sem, h18_0, h18_1, h18_l, h28_0, h28_1, h28_2, h28_l, n12, n12.symm, tdV]) rfl ⟨a7, c7, rfl, HR9.out, HFr.out, HP9.out⟩
/-- Cancel. -/
theorem rcan_ok (h : RdL w a n c L) (hl : n ≤ 4194304) {s : Nat} (h32 : s ≤ 4294967295) :
    Calls Tryd.prog 66 #[whV now a n c, .int .u32 s] w fun e w' => ∃ a' n' c', e = .returned (.tuple #[whV now a' n' c', tdV (getT L s).1, .int .i64 (getT L s).2]) ∧ RdL w' a' n' c' (canL L s) ∧ Kept w a n c a' n' c' ∧ Pure w w' := by
  unfold canL
  rcases getT_cases L s with ⟨hs, hh, x, e1, rfl, e2, e3, e4⟩ | ⟨_, er, e1, e2⟩
  · rw [e1, if_pos rfl]
    refine (rcan_hit h hl hs hh e2).mono ?_
    rintro e w' ⟨a', c', rfl, hr, hf, hp⟩
    have hlt := (List.getElem?_eq_some_iff.1 e2).1
    have hlen : (outI L x.slot).length = n - 1 := by unfold outI; rw [List.length_eraseIdx, if_pos hlt, h.len]
    exact ⟨a', n - 1, c', rfl, by rw [← hlen]; exact RdL.of_row hr, .inr hf, hp⟩
  · rw [e1]
    dsimp only
    rw [if_neg e2]
    refine (rcan_no h hl h32 e1 e2).mono ?_
    rintro e w' ⟨rfl, hp⟩
    exact ⟨a, n, c, rfl, h.pure hp, .inl ⟨rfl, rfl, rfl⟩, hp⟩
end
end Go.Proofs.YtlalpenfgkfkpaaDoor

/- The reference of cascade: Reschedule. Conditions: the list is read. -/
namespace Go.Proofs.YtlalpenfgkfkpaaDoor
open Go.RowKit Go.Shelf
set_option maxRecDepth 100000
section
variable {w : World} {a : Option Addr} {n c now : Nat} {L : List Td} {x : Td}
/-- Two boxes: a wheel, a wheel's result. -/
def box2 (w : World) (now : Nat) (a : Option Addr) (n c : Nat) : World := (w.alloc (.cells #[.int .u64 now, .slice a n c] 45)).alloc (.cells #[.int .u64 0, .slice none 0 0] 45)
structure Box2 (w W : World) (b0 b1 : Nat) (now : Nat) (a : Option Addr) (n c : Nat) : Prop where
  pure : Pure w W
  z0 : w.heap.size ≤ b0
  z1 : w.heap.size ≤ b1
  h0 : W.heap[b0]? = some (.cells #[.int .u64 now, .slice a n c] 45 (0, 0))
  h1 : W.heap[b1]? = some (.cells #[.int .u64 0, .slice none 0 0] 45 (0, 0))
  ne01 : b0 ≠ b1
theorem box2_ok : ∃ W b0 b1, box2 w now a n c = W ∧ w.heap.size = b0 ∧ w.heap.size + 1 = b1 ∧ Box2 w W b0 b1 now a n c := by
  refine ⟨_, _, _, rfl, rfl, rfl, ?_⟩
  have p1 := (Mod.refl (fun _ => False) w).alloc (.cells #[.int .u64 now, .slice a n c] 45)
  have p2 := (Mod.refl (fun _ => False) (w.alloc (.cells #[.int .u64 now, .slice a n c] 45))).alloc (.cells #[.int .u64 0, .slice none 0 0] 45)
  refine ⟨p1.trans p2, Nat.le_refl _, by omega, ?_, ?_, by omega⟩
  · exact p2.heap (fun h => h) (heap_new rfl)
  · exact heap_new (by simp)
theorem Kept.mono {w1 w2 : World} {a1 : Option Addr} {n1 c1 : Nat} (h : Kept w2 a n c a1 n1 c1) (hs : w1.heap.size ≤ w2.heap.size) : Kept w1 a n c a1 n1 c1 := by
  rcases h with h | h
  · exact .inl h
  · exact .inr (fun g hg => Nat.le_trans hs (h g hg))
theorem Kept.trans {a1 a2 : Option Addr} {n1 c1 n2 c2 : Nat} (h : Kept w a n c a1 n1 c1) (h' : Kept w a1 n1 c1 a2 n2 c2) : Kept w a n c a2 n2 c2 := by
  rcases h' with ⟨rfl, rfl, rfl⟩ | h'
  · exact h
  · exact .inr h'
theorem Kept.rd {a1 : Option Addr} {n1 c1 g : Nat} (h : Kept w a n c a1 n1 c1) (hg : rdBlock (.slice a1 n1 c1) = some g) : rdBlock (.slice a n c) = some g ∨ w.heap.size ≤ g := by
  rcases h with ⟨rfl, rfl, rfl⟩ | h
  · exact .inl hg
  · exact .inr (h g (rdBlock_own hg))
theorem RdL.frame {w' : World} {S : Nat → Prop} (h : RdL w a n c L) (hm : Mod S w w') (hn : ∀ g, rdBlock (.slice a n c) = some g → ¬ S g) : RdL w' a n c L := ⟨h.rd.frame hm hn, h.len, h.cap, h.nil⟩
theorem RdL.lt (h : RdL w a n c L) {g : Nat} (hg : rdBlock (.slice a n c) = some g) : g < w.heap.size := h.rd.lt (by decide) hg
theorem rres_er {s dl : Nat} (he : atE now s dl ≠ 0) :
    Calls Tryd.prog 67 #[whV now a n c, .int .u32 s, .int .u64 dl] w fun e w' => e = .returned (.tuple #[whV now a n c, .int .i64 (atE now s dl)]) ∧ Pure w w' := by
  unfold whV
  obtain ⟨W1, b0, b1, hW, e0, e1, hB⟩ := box2_ok (w := w) (now := now) (a := a) (n := n) (c := c)
  unfold box2 at hW
  have h0 := hB.h0; have h1 := hB.h1
  have HB := Lib.hid hB; have HW := Lib.hid hW; have E0 := Lib.hid e0; have E1 := Lib.hid e1
  clear hB hW e0 e1
  have h0_0 := cell_of_row _ _ 0 _ _ _ h0; have h0_1 := cell_of_row _ _ 1 _ _ _ h0; have h0_f := (fun j => frozen_of_row _ _ j _ _ h0); have h0_l := lt_of_block h0; simp at h0_0 h0_1; have H_h0 := Lib.hid h0; clear h0
  have h1_0 := cell_of_row _ _ 0 _ _ _ h1; have h1_1 := cell_of_row _ _ 1 _ _ _ h1; have h1_f := (fun j => frozen_of_row _ _ j _ _ h1); have h1_l := lt_of_block h1; simp at h1_0 h1_1; have H_h1 := Lib.hid h1; clear h1
  have fin : Pure w ((W1.setCell ⟨b1, 0, none⟩ (.int .u64 now)).setCell ⟨b1, 1, none⟩ (.slice a n c)) :=
    HB.out.pure.then (Mod.set2 b1 0 1 _ _) (fun k hk e => by have := HB.out.z1; omega)
  have HFin := Lib.hid fin
  clear fin
  unfold atE at he ⊢
  by_cases hs : s < 4194304
  · have hs' : ¬ (4194304 : Int) ≤ (s : Int) := by omega
    rw [if_pos hs] at he ⊢
    by_cases hm : dl = 18446744073709551615
    · rw [if_pos hm]
      have e1 : ((dl : Int) == 18446744073709551615) = true := by simp; omega
      clear he hm
      go_enter Tryd.func67, Tryd.ntmps67
      go_upto_region 1 with fail
      rw [HW.out, E1.out, E0.out]
      go_wp2
      refine bodyPost_ret (v := .tuple #[.agg #[.int .u64 now, .slice a n c], .int .i64 2]) (by simp [results, Tryd.results67, go_sem, h0_0, h0_1, h0_l, h1_0, h1_1, h1_l]) rfl ⟨rfl, HFin.out⟩
    · rw [if_neg hm] at he ⊢
      have e1 : ((dl : Int) == 18446744073709551615) = false := by simp; omega
      by_cases hn : dl ≤ now
      · rw [if_pos hn]
        have hn' : (dl : Int) ≤ (now : Int) := by omega
        clear he hm hn
        go_enter Tryd.func67, Tryd.ntmps67
        go_upto_region 1 with fail
        rw [HW.out, E1.out, E0.out]
        go_wp2
        refine bodyPost_ret (v := .tuple #[.agg #[.int .u64 now, .slice a n c], .int .i64 3]) (by simp [results, Tryd.results67, go_sem, h0_0, h0_1, h0_l, h1_0, h1_1, h1_l]) rfl ⟨rfl, HFin.out⟩
      · rw [if_neg hn] at he
        exact absurd rfl he
  · have hs' : (4194304 : Int) ≤ (s : Int) := by omega
    rw [if_neg hs]
    clear he
    go_enter Tryd.func67, Tryd.ntmps67
    go_upto_region 1 with fail
    rw [HW.out, E1.out, E0.out]
    go_wp2
    refine bodyPost_ret (v := .tuple #[.agg #[.int .u64 now, .slice a n c], .int .i64 2]) (by simp [results, Tryd.results67, go_sem, h0_0, h0_1, h0_l, h1_0, h1_1, h1_l]) rfl ⟨rfl, HFin.out⟩
theorem rres_no (h : RdL w a n c L) (hl : n ≤ 4194304) {s dl : Nat} (h32 : s ≤ 4294967295) (hd : dl ≤ 18446744073709551615) (ha : atE now s dl = 0) {er : Int} (he : getT L s = (zTd, er)) (hne : er ≠ 0) :
    Calls Tryd.prog 67 #[whV now a n c, .int .u32 s, .int .u64 dl] w fun e w' => e = .returned (.tuple #[whV now a n c, .int .i64 er]) ∧ Pure w w' := by
  obtain ⟨W1, b0, b1, hW, e0, e1, hB⟩ := box2_ok (w := w) (now := now) (a := a) (n := n) (c := c)
  unfold box2 at hW
  have hca := rcan_no (now := now) (h.pure hB.pure) hl h32 he hne
  unfold whV tdV zTd at hca
  unfold whV
  obtain ⟨a1, a2, a3⟩ := atE_zero ha hd
  have c1 : ¬ (4194304 : Int) ≤ (s : Int) := by omega
  have c3 : ((dl : Int) == 18446744073709551615) = false := by simp; omega
  have c4 : ¬ (dl : Int) ≤ (now : Int) := by omega
  have c5 : (er == 0) = false := by simpa using hne
  have h0 := hB.h0
  have HB := Lib.hid hB; have HW := Lib.hid hW; have E0 := Lib.hid e0; have E1 := Lib.hid e1; have HCa := Lib.hid hca
  clear hB hW e0 e1 hca ha a1 a2 a3 he hne h
  have h0_0 := cell_of_row _ _ 0 _ _ _ h0; have h0_1 := cell_of_row _ _ 1 _ _ _ h0; have h0_f := (fun j => frozen_of_row _ _ j _ _ h0); have h0_l := lt_of_block h0; simp at h0_0 h0_1; have H_h0 := Lib.hid h0; clear h0
  go_enter Tryd.func67, Tryd.ntmps67
  go_upto_region 1 with fail
  rw [HW.out, E1.out, E0.out]
  clear HW E0 E1
  go_upto_region 5 with fail
  clear c1 c3 c4
  go_upto_region 6 with (first
    | (go_at_call 66; refine Calls.mono HCa.out ?_; rintro e w5 ⟨rfl, hp5⟩
       have HP5 := Lib.hid hp5
       clear hp5 h0_0 h0_1 h0_l H_h0))
  have pa := (Mod.refl (fun _ => False) w5).alloc (.cells #[.int .u64 now, .slice a n c] 45)
  have pb := (Mod.refl (fun _ => False) (w5.alloc (.cells #[.int .u64 now, .slice a n c] 45))).alloc (.cells #[.int .u32 0, .int .u64 0, .int .u64 0] 31)
  have p5 := HP5.out.trans (pa.trans pb)
  have h0 := p5.heap (fun h => h) HB.out.h0
  have h1 := p5.heap (fun h => h) HB.out.h1
  have p6 := HB.out.pure.trans p5
  generalize (w5.alloc (.cells #[.int .u64 now, .slice a n c] 45)).alloc (.cells #[.int .u32 0, .int .u64 0, .int .u64 0] 31) = w6 at *
  have fin : Pure w ((w6.setCell ⟨b1, 0, none⟩ (.int .u64 now)).setCell ⟨b1, 1, none⟩ (.slice a n c)) :=
    p6.then (Mod.set2 b1 0 1 _ _) (fun k hk e => by have := HB.out.z1; omega)
  have HFin := Lib.hid fin
  clear fin pa pb p5 p6
  have h0_0 := cell_of_row _ _ 0 _ _ _ h0; have h0_1 := cell_of_row _ _ 1 _ _ _ h0; have h0_f := (fun j => frozen_of_row _ _ j _ _ h0); have h0_l := lt_of_block h0; simp at h0_0 h0_1; have H_h0 := Lib.hid h0; clear h0
  have h1_0 := cell_of_row _ _ 0 _ _ _ h1; have h1_1 := cell_of_row _ _ 1 _ _ _ h1; have h1_f := (fun j => frozen_of_row _ _ j _ _ h1); have h1_l := lt_of_block h1; simp at h1_0 h1_1; have H_h1 := Lib.hid h1; clear h1
  go_wp2
  refine bodyPost_ret (v := .tuple #[.agg #[.int .u64 now, .slice a n c], .int .i64 er]) (by simp [results, Tryd.results67, go_sem, h1_0, h1_1, h1_l]) rfl ⟨rfl, HFin.out⟩
set_option maxHeartbeats 1000000 in
theorem rres_hit (h : RdL w a n c L) (hl : n ≤ 4194304) {s dl xd xb : Nat} (h32 : s ≤ 4294967295) (hd : dl ≤ 18446744073709551615) (ha : atE now s dl = 0) (he : getT L s = (⟨s, xd, xb⟩, 0)) (hxb : xb ≤ 18446744073709551615) :
    Calls Tryd.prog 67 #[whV now a n c, .int .u32 s, .int .u64 dl] w fun e w' => ∃ a' n' c', e = .returned (.tuple #[whV now a' n' c', .int .i64 (schR now (canL L s) ⟨s, dl, xb⟩)]) ∧ RdL w' a' n' c' (schL now (canL L s) ⟨s, dl, xb⟩) ∧ Kept w a n c a' n' c' ∧ Pure w w' := by
  obtain ⟨W1, b0, b1, hW, e0, e1, hB⟩ := box2_ok (w := w) (now := now) (a := a) (n := n) (c := c)
  unfold box2 at hW
  have hca := rcan_ok (now := now) (h.pure hB.pure) hl (s := s) h32
  rw [he] at hca
  have hsc := fun (W : World) (a' : Option Addr) (n' c' : Nat) (hr : RdL W a' n' c' (canL L s)) (hn : n' ≤ 4194304) => rsched_ok (now := now) (x := ⟨s, dl, xb⟩) hr hn h32 hd hxb
  have hcl : (canL L s).length ≤ 4194304 := by
    unfold canL outI
    have := h.len
    split
    · rw [List.length_eraseIdx]; split <;> omega
    · omega
  unfold whV tdV at hca hsc
  unfold whV
  obtain ⟨a1, a2, a3⟩ := atE_zero ha hd
  have c1 : ¬ (4194304 : Int) ≤ (s : Int) := by omega
  have c3 : ((dl : Int) == 18446744073709551615) = false := by simp; omega
  have c4 : ¬ (dl : Int) ≤ (now : Int) := by omega
  have h0 := hB.h0
  obtain ⟨er, her⟩ : ∃ er, schR now (canL L s) ⟨s, dl, xb⟩ = er := ⟨_, rfl⟩
  obtain ⟨Lr, hLr⟩ : ∃ Lr, schL now (canL L s) ⟨s, dl, xb⟩ = Lr := ⟨_, rfl⟩
  rw [her, hLr] at hsc ⊢
  have hlt := fun g hg => h.lt (g := g) hg
  have HLt := Lib.hid hlt
  clear hlt
  have HB := Lib.hid hB; have HW := Lib.hid hW; have E0 := Lib.hid e0; have E1 := Lib.hid e1; have HCa := Lib.hid hca; have HSc := Lib.hid hsc; have HCl := Lib.hid hcl
  clear hB hW e0 e1 hca ha a1 a2 a3 he h hsc hcl her hLr
  have h0_0 := cell_of_row _ _ 0 _ _ _ h0; have h0_1 := cell_of_row _ _ 1 _ _ _ h0; have h0_f := (fun j => frozen_of_row _ _ j _ _ h0); have h0_l := lt_of_block h0; simp at h0_0 h0_1; have H_h0 := Lib.hid h0; clear h0
  go_enter Tryd.func67, Tryd.ntmps67
  go_upto_region 1 with fail
  rw [HW.out, E1.out, E0.out]
  clear HW E0 E1
  go_upto_region 5 with fail
  clear c1 c3 c4
  go_upto_region 6 with (first
    | (go_at_call 66; refine Calls.mono HCa.out ?_; rintro e w5 ⟨a5, n5, c5, rfl, hr5, hk5, hp5⟩
       have HP5 := Lib.hid hp5; have HR5 := Lib.hid hr5; have HK5 := Lib.hid hk5
       clear hp5 hr5 hk5 h0_0 h0_1 h0_l H_h0))
  have pa := (Mod.refl (fun _ => False) w5).alloc (.cells #[.int .u64 now, .slice a5 n5 c5] 45)
  have pb := (Mod.refl (fun _ => False) (w5.alloc (.cells #[.int .u64 now, .slice a5 n5 c5] 45))).alloc (.cells #[.int .u32 s, .int .u64 xd, .int .u64 xb] 31)
  have h3 := pb.heap (fun h => h) (heap_new (w := w5) (o := .cells #[.int .u64 now, .slice a5 n5 c5] 45 (0, 0)) rfl)
  have h4 : ((w5.alloc (.cells #[.int .u64 now, .slice a5 n5 c5] 45)).alloc (.cells #[.int .u32 s, .int .u64 xd, .int .u64 xb] 31)).heap[w5.heap.size + 1]? = some (.cells #[.int .u32 s, .int .u64 xd, .int .u64 xb] 31 (0, 0)) := heap_new (by simp)
  have pab := pa.trans pb
  clear pa pb
  obtain ⟨b3, hb3⟩ : ∃ b, w5.heap.size = b := ⟨_, rfl⟩
  rw [hb3] at h3 h4 ⊢
  obtain ⟨b4, hb4⟩ : ∃ b, b3 + 1 = b := ⟨_, rfl⟩
  rw [hb4] at h4 ⊢
  generalize (w5.alloc (.cells #[.int .u64 now, .slice a5 n5 c5] 45)).alloc (.cells #[.int .u32 s, .int .u64 xd, .int .u64 xb] 31) = w6 at *
  have hw1 := HP5.out.size
  have hb0 := lt_of_block HB.out.h0; have hb1 := lt_of_block HB.out.h1
  have p6 := HP5.out.trans pab
  have n34 : b3 ≠ b4 := by omega
  have n14 : b1 ≠ b4 := by omega
  have n13 : b1 ≠ b3 := by omega
  have h16 := p6.heap (fun h => h) HB.out.h1
  have h8 : (w6.setCell ⟨b4, 1, none⟩ (.int .u64 dl)).heap[b4]? = some (.cells #[.int .u32 s, .int .u64 dl, .int .u64 xb] 31 (0, 0)) := by
    rw [heap_setCell_same w6 b4 1 _ _ (.int .u64 dl) h4]; rfl
  have hms := Mod.set1 (w := w6) b4 1 (.int .u64 dl)
  have h38 := hms.heap (fun e => n34 e) h3
  have h18 := hms.heap (fun e => n14 e) h16
  have hw0 := HB.out.pure.size
  have p8 : Pure W1 (w6.setCell ⟨b4, 1, none⟩ (.int .u64 dl)) := p6.then hms (fun k hk e => by omega)
  have p58 : Pure w5 (w6.setCell ⟨b4, 1, none⟩ (.int .u64 dl)) := pab.then hms (fun k hk e => by omega)
  have hr8 := HR5.out.pure p58
  have HR8 := Lib.hid hr8; have HP8 := Lib.hid p8; have H38 := Lib.hid h38; have H18 := Lib.hid h18; have H8 := Lib.hid h8; have HP58 := Lib.hid p58
  clear hr8 p8 h38 h18 h8 hms h16 p6 pab hb3 hb4 hb0 hb1 hw1 hw0 p58 h3
  have h4_0 := cell_of_row _ _ 0 _ _ _ h4; have h4_1 := cell_of_row _ _ 1 _ _ _ h4; have h4_2 := cell_of_row _ _ 2 _ _ _ h4; have h4_f := (fun j => frozen_of_row _ _ j _ _ h4); have h4_l := lt_of_block h4; simp at h4_0 h4_1 h4_2; have H_h4 := Lib.hid h4; clear h4
  go_upto_region 9 with fail
  clear h4_0 h4_1 h4_2 h4_l H_h4
  generalize w6.setCell ⟨b4, 1, none⟩ (.int .u64 dl) = w8 at *
  have h38 := H38.out; have h18 := H18.out; have h8 := H8.out
  have h38_0 := cell_of_row _ _ 0 _ _ _ h38; have h38_1 := cell_of_row _ _ 1 _ _ _ h38; have h38_f := (fun j => frozen_of_row _ _ j _ _ h38); have h38_l := lt_of_block h38; simp at h38_0 h38_1; have H_h38 := Lib.hid h38; clear h38
  have h8_0 := cell_of_row _ _ 0 _ _ _ h8; have h8_1 := cell_of_row _ _ 1 _ _ _ h8; have h8_2 := cell_of_row _ _ 2 _ _ _ h8; have h8_f := (fun j => frozen_of_row _ _ j _ _ h8); have h8_l := lt_of_block h8; simp at h8_0 h8_1 h8_2; have H_h8 := Lib.hid h8; clear h8
  have hsc := HSc.out w8 a5 n5 c5 HR8.out (by rw [← HR8.out.len]; exact HCl.out)
  have HSc2 := Lib.hid hsc
  clear hsc HSc h18
  go_wp2_with (first
    | (go_at_call 20; refine Calls.mono HSc2.out ?_; rintro e w9 ⟨a9, n9, c9, rfl, hr9, hk9, hp9⟩
       have h19 := hp9.heap (fun h => h) H18.out
       have HP9 := Lib.hid hp9; have HR9 := Lib.hid hr9; have HK9 := Lib.hid hk9
       clear hp9 hr9 hk9 h38_0 h38_1 h38_l H_h38 h8_0 h8_1 h8_2 h8_l H_h8
       have h19_0 := cell_of_row _ _ 0 _ _ _ h19; have h19_1 := cell_of_row _ _ 1 _ _ _ h19; have h19_f := (fun j => frozen_of_row _ _ j _ _ h19); have h19_l := lt_of_block h19; simp at h19_0 h19_1; have H_h19 := Lib.hid h19; clear h19))
  have hms := Mod.set2 (w := w9) b1 0 1 (.int .u64 now) (.slice a9 n9 c9)
  have hk : Kept w a n c a9 n9 c9 := (HK5.out.mono HB.out.pure.size).trans (HK9.out.mono (HB.out.pure.trans HP8.out).size)
  have hb1 := lt_of_block HB.out.h1
  have hk1 : Kept W1 a n c a9 n9 c9 := HK5.out.trans (HK9.out.mono HP8.out.size)
  have hr10 := HR9.out.frame hms (fun g hg e => by
    rcases hk1.rd hg with h | h
    · have := HLt.out g h; have := HB.out.z1; omega
    · omega)
  have p10 : Pure w _ := ((HB.out.pure.trans HP8.out).trans HP9.out).then hms (fun k hk e => by have := HB.out.z1; omega)
  refine bodyPost_ret (v := .tuple #[.agg #[.int .u64 now, .slice a9 n9 c9], .int .i64 er]) (by simp [results, Tryd.results67, go_sem, h19_0, h19_1, h19_l]) rfl ⟨a9, n9, c9, rfl, hr10, hk, p10⟩
/-- Reschedule, of a list as the cascade has it. -/
theorem rres_ok (h : RdL w a n c L) (hl : n ≤ 4194304) {s dl : Nat} (h32 : s ≤ 4294967295) (hd : dl ≤ 18446744073709551615) (hb : ∀ y ∈ L, 0 < y.birth ∧ y.birth ≤ 18446744073709551615) (hu : (∀ y ∈ L, ∀ z ∈ L, y.slot = z.slot → y = z) ∧ (∀ y ∈ L, ∀ z ∈ L, y.birth = z.birth → y = z) ∧ L.Nodup) :
    Calls Tryd.prog 67 #[whV now a n c, .int .u32 s, .int .u64 dl] w fun e w' => ∃ a' n' c', e = .returned (.tuple #[whV now a' n' c', .int .i64 (resR now L s dl)]) ∧ RdL w' a' n' c' (resL now L s dl) ∧ Kept w a n c a' n' c' ∧ Pure w w' := by
  unfold resL
  by_cases e0 : atE now s dl = 0
  · have er0 : resR now L s dl = (getT L s).2 := by unfold resR; rw [if_pos e0]
    rw [er0]
    rcases getT_cases L s with ⟨hs, hh, ⟨xs, xd, xb⟩, e1, rfl, e2, e3, e4⟩ | ⟨_, er, e1, e2⟩
    · dsimp only at e1 e2 e3 e4 hs hh h32 ⊢
      have hx : (⟨xs, xd, xb⟩ : Td) ∈ L := e4.mem_iff.2 List.mem_cons_self
      have hnd : (⟨xs, xd, xb⟩ : Td) ∉ outI L xs := (List.nodup_cons.1 (e4.nodup_iff.1 hu.2.2)).1
      have hout : ∀ y ∈ outI L xs, y ∈ L := fun y hy => e4.mem_iff.2 (List.mem_cons_of_mem _ hy)
      have hcl : canL L xs = outI L xs := by unfold canL; rw [e1, if_pos rfl]
      obtain ⟨a1, a2, a3⟩ := atE_zero e0 hd
      have hsr : schR now (canL L xs) ⟨xs, dl, xb⟩ = 0 := by
        have h1 : schE now ⟨xs, dl, xb⟩ = 0 := by
          unfold schE
          dsimp only
          rw [if_pos a1, if_neg (by have := (hb _ hx).1; dsimp only at this; omega), e0]
        have h2 : hasB (outI L xs) xs = false := by
          cases hq : hasB (outI L xs) xs with
          | false => rfl
          | true =>
            obtain ⟨y, hy, e⟩ := hasB_iff.1 hq
            have := hu.1 y (hout y hy) _ hx e
            subst this
            exact absurd hy hnd
        have h3 : bornB (outI L xs) xb = false := by
          cases hq : bornB (outI L xs) xb with
          | false => rfl
          | true =>
            obtain ⟨y, hy, e⟩ := bornB_iff.1 hq
            have := hu.2.1 y (hout y hy) _ hx e
            subst this
            exact absurd hy hnd
        unfold schR
        rw [if_pos h1, hcl]
        dsimp only
        rw [h2, h3]
        rfl
      have hsl : schL now (canL L xs) ⟨xs, dl, xb⟩ = putL (outI L xs) ⟨xs, dl, xb⟩ := by unfold schL; rw [hsr, if_pos rfl, hcl]
      rw [e1, if_pos rfl]
      refine (rres_hit h hl h32 hd e0 e1 (hb _ hx).2).mono ?_
      rintro e w' ⟨a', n', c', rfl, hr, hk, hp⟩
      rw [hsl] at hr
      exact ⟨a', n', c', by rw [hsr], hr, hk, hp⟩
    · rw [e1]
      dsimp only
      rw [if_neg e2]
      refine (rres_no h hl h32 hd e0 e1 e2).mono ?_
      rintro e w' ⟨rfl, hp⟩
      exact ⟨a, n, c, rfl, h.pure hp, .inl ⟨rfl, rfl, rfl⟩, hp⟩
  · have er : resR now L s dl = atE now s dl := by unfold resR; rw [if_neg e0]
    rw [er, if_neg e0]
    refine (rres_er e0).mono ?_
    rintro e w' ⟨rfl, hp⟩
    exact ⟨a, n, c, rfl, h.pure hp, .inl ⟨rfl, rfl, rfl⟩, hp⟩
end
end Go.Proofs.YtlalpenfgkfkpaaDoor

/- law20.is. Conditions: the cascade lies in memory, the reference's list is read. -/
namespace Go.Proofs.YtlalpenfgkfkpaaDoor
open Go.RowKit Go.Shelf
set_option maxRecDepth 100000
section
variable {w : World} {D : Nat → Prop} {p : Nat} {a : Option Addr} {n c now s : Nat} {L : List Td} {x : Td}
theorem get_self (h : CasAt w D p now L) (hx : x ∈ L) : getT L x.slot = (x, 0) ∧ whE now L x.slot = .tuple #[.int .i64 (lvl now x.dl : Nat), .int .i64 (bkt now x.dl : Nat), .int .i64 0] := by
  have h1 : getT L x.slot = (x, 0) := by
    rcases getT_cases L x.slot with ⟨hs, hh, y, e1, e2, e3, e4, e5⟩ | ⟨hs, _⟩
    · have hy : y ∈ L := e5.mem_iff.2 List.mem_cons_self
      rw [h.uniq.1 y hy x hx e2] at e1
      exact e1
    · rcases hs with hs | hs
      · exact absurd (h.rng x hx).1 hs
      · rw [hasB_iff.2 ⟨x, hx, rfl⟩] at hs; cases hs
  refine ⟨h1, ?_⟩
  unfold whE
  rw [h1]
  rfl
theorem get_none (h : ¬ (s < 4194304 ∧ hasB L s = true)) : getT L s = (zTd, if s < 4194304 then 9 else 2) ∧ whE now L s = .tuple #[.int .i64 0, .int .i64 0, .int .i64 (if s < 4194304 then 9 else 2)] := by
  have h1 : getT L s = (zTd, if s < 4194304 then 9 else 2) := by
    by_cases hs : s < 4194304
    · rw [if_pos hs]
      have : hasB L s = false := by cases hb : hasB L s with | false => rfl | true => exact absurd ⟨hs, hb⟩ h
      exact getT_miss hs (find_none this)
    · rw [if_neg hs]
      exact getT_arg hs
  refine ⟨h1, ?_⟩
  unfold whE
  rw [h1, if_neg]
  dsimp only
  split <;> decide
set_option maxHeartbeats 2000000 in
theorem is_ok (h : CasT w D p now L) (hr : RdL w a n c L) (h32 : s ≤ 4294967295) :
    Calls Tryd.prog 23 #[lkP p, whV now a n c, .int .u32 s] w fun e w' => e = .returned (.bool true) ∧ Pure w w' := by
  have hn := h.at_.count
  rw [hr.len] at hn
  have HNx := Lib.hid (fun (u : World) (hq : Pure w u) => (h.pure hq).at_.next (h.pure hq).tab)
  have HNo := Lib.hid (fun (u : World) (hq : Pure w u) => (h.pure hq).at_.now_)
  have HLe := Lib.hid (fun (u : World) (hq : Pure w u) => (h.pure hq).at_.len_)
  have hrn := fun (u : World) (hq : Pure w u) => rnext_ok (now := now) (hr.pure hq).rd hr.len
  unfold whV at hrn ⊢
  have HRn := Lib.hid hrn
  have hal : Pure w (w.alloc (.cells #[.int .u64 now, .slice a n c] 45)) := (Mod.refl _ w).alloc _
  have hb := heap_new (w := w) (o := .cells #[.int .u64 now, .slice a n c] 45 (0, 0)) rfl
  have HH := Lib.hid h; have HR := Lib.hid hr; have HAL := Lib.hid hal
  have hlen := hr.len
  rw [hlen] at HLe
  clear h hr hrn hal hlen
  go_enter Tryd.func23, Tryd.ntmps23
  go_upto_region 1 with fail
  generalize w.alloc (.cells #[.int .u64 now, .slice a n c] 45) = W1 at *
  obtain ⟨b, hbe⟩ : ∃ b, w.heap.size = b := ⟨_, rfl⟩
  rw [hbe] at hb ⊢
  have HBE := Lib.hid hbe
  obtain ⟨x0, x1⟩ := whbox hb
  have HB := Lib.hid hb
  clear hb hbe
  have hk : ∀ u, Pure W1 u → u.cell? ⟨b, 0, none⟩ = some (.int .u64 now) ∧ u.cell? ⟨b, 1, none⟩ = some (.slice a n c) := fun u hq => ⟨hq.cell (fun h => h) x0, hq.cell (fun h => h) x1⟩
  have HKx := Lib.hid hk
  clear hk
  have HX := Lib.hid (And.intro x0 x1)
  refine wp_region_held_drew (S := fun u => u.cell? ⟨b, 0, none⟩ = some (.int .u64 now) ∧ u.cell? ⟨b, 1, none⟩ = some (.slice a n c)) (by kernel_rfl) HX.out (fun hHeld => ?_)
  ((refine wpAnyH_take (i := 0) (v := ?_) rfl (by kernel_rfl) (by kernel_rfl) (by kernel_rfl) (fun _ _ _ h => h) (Yields.yieldsIf (Or.inl ⟨by rfl, ?_⟩)) hHeld ?_; rotate_left 1; focus (intro w; go_simp; try with_reducible rfl)); try simp only [Act.put, List.getElem_toArray, List.getElem_cons_zero, List.getElem_cons_succ, List.setIfInBounds_toArray, List.set_cons_zero, List.set_cons_succ])
  ((refine wpAnyH_take (i := 2) (v := ?_) rfl (by kernel_rfl) (by kernel_rfl) (by kernel_rfl) (fun _ _ _ h => h) (Or.inl ⟨by rfl, ?_⟩) hHeld ?_; rotate_left 1; focus (intro w hS; obtain ⟨s0, s1⟩ := hS; go_simp; try with_reducible rfl)); try simp only [Act.put, List.getElem_toArray, List.getElem_cons_zero, List.getElem_cons_succ, List.setIfInBounds_toArray, List.set_cons_zero, List.set_cons_succ])
  ((refine wpAnyH_ready (rs := [1]) (by kernel_rfl) (by simp) ?_; refine AllReadyH.cons rfl (fun K hK => ?_) AllReadyH.nil; go_simp; refine Calls.mono (HNx.out _ (HAL.out.drew)) ?_; rintro e u1 ⟨rfl, hq1⟩; refine hK.out _ _ ?_ (fun hHeld => ?_); (· exact HKx.out _ (Mod.of_drew hq1)); clear hK K); try simp only [Act.put, List.getElem_toArray, List.getElem_cons_zero, List.getElem_cons_succ, List.setIfInBounds_toArray, List.set_cons_zero, List.set_cons_succ])
  ((refine wpAnyH_ready (rs := [3]) (by kernel_rfl) (by simp) ?_; refine AllReadyH.cons rfl (fun K hK => ?_) AllReadyH.nil; go_simp; refine Calls.mono (HRn.out _ (HAL.out.trans (Mod.of_drew hq1))) ?_; rintro e u2 ⟨rfl, hq2⟩; refine hK.out _ _ ?_ (fun hHeld => ?_); (· exact HKx.out _ ((Mod.of_drew hq1).trans hq2)); clear hK K); try simp only [Act.put, List.getElem_toArray, List.getElem_cons_zero, List.getElem_cons_succ, List.setIfInBounds_toArray, List.set_cons_zero, List.set_cons_succ])
  ((refine wpAnyH_take (i := 4) (v := ?_) rfl (by kernel_rfl) (by kernel_rfl) (by kernel_rfl) (fun _ _ _ h => h) (Yields.yieldsIf (Or.inl ⟨by rfl, ?_⟩)) hHeld ?_; rotate_left 1; focus (intro w; go_simp; try with_reducible rfl)); try simp only [Act.put, List.getElem_toArray, List.getElem_cons_zero, List.getElem_cons_succ, List.setIfInBounds_toArray, List.set_cons_zero, List.set_cons_succ])
  ((refine wpAnyH_take (i := 5) (v := ?_) rfl (by kernel_rfl) (by kernel_rfl) (by kernel_rfl) (fun _ _ _ h => h) (Yields.yieldsIf (Or.inl ⟨by rfl, ?_⟩)) hHeld ?_; rotate_left 1; focus (intro w; go_simp; try with_reducible rfl)); try simp only [Act.put, List.getElem_toArray, List.getElem_cons_zero, List.getElem_cons_succ, List.setIfInBounds_toArray, List.set_cons_zero, List.set_cons_succ])
  ((refine wpAnyH_take (i := 6) (v := ?_) rfl (by kernel_rfl) (by kernel_rfl) (by kernel_rfl) (fun _ _ _ h => h) (Yields.yieldsIf (Or.inl ⟨by rfl, ?_⟩)) hHeld ?_; rotate_left 1; focus (intro w; go_simp; try with_reducible rfl)); try simp only [Act.put, List.getElem_toArray, List.getElem_cons_zero, List.getElem_cons_succ, List.setIfInBounds_toArray, List.set_cons_zero, List.set_cons_succ])
  ((refine wpAnyH_take (i := 8) (v := ?_) rfl (by kernel_rfl) (by kernel_rfl) (by kernel_rfl) (fun _ _ _ h => h) (Yields.yieldsIf (Or.inl ⟨by rfl, ?_⟩)) hHeld ?_; rotate_left 1; focus (intro w; go_simp; try with_reducible rfl)); try simp only [Act.put, List.getElem_toArray, List.getElem_cons_zero, List.getElem_cons_succ, List.setIfInBounds_toArray, List.set_cons_zero, List.set_cons_succ])
  ((refine wpAnyH_take (i := 9) (v := ?_) rfl (by kernel_rfl) (by kernel_rfl) (by kernel_rfl) (fun _ _ _ h => h) (Or.inl ⟨by rfl, ?_⟩) hHeld ?_; rotate_left 1; focus (intro w hS; obtain ⟨s0, s1⟩ := hS; go_simp; try with_reducible rfl)); try simp only [Act.put, List.getElem_toArray, List.getElem_cons_zero, List.getElem_cons_succ, List.setIfInBounds_toArray, List.set_cons_zero, List.set_cons_succ])
  ((refine wpAnyH_ready (rs := [7]) (by kernel_rfl) (by simp) ?_; refine AllReadyH.cons rfl (fun K hK => ?_) AllReadyH.nil; go_simp; refine Calls.mono (HNo.out _ (HAL.out.trans ((Mod.of_drew hq1).trans hq2))) ?_; rintro e u3 ⟨rfl, rfl⟩; refine hK.out _ _ ?_ (fun hHeld => ?_); (· exact HKx.out _ ((Mod.of_drew hq1).trans hq2)); clear hK K); try simp only [Act.put, List.getElem_toArray, List.getElem_cons_zero, List.getElem_cons_succ, List.setIfInBounds_toArray, List.set_cons_zero, List.set_cons_succ])
  ((refine wpAnyH_take (i := 10) (v := ?_) rfl (by kernel_rfl) (by kernel_rfl) (by kernel_rfl) (fun _ _ _ h => h) (Yields.yieldsIf (Or.inl ⟨by rfl, ?_⟩)) hHeld ?_; rotate_left 1; focus (intro w; go_simp; try with_reducible rfl)); try simp only [Act.put, List.getElem_toArray, List.getElem_cons_zero, List.getElem_cons_succ, List.setIfInBounds_toArray, List.set_cons_zero, List.set_cons_succ])
  ((refine wpAnyH_take (i := 11) (v := ?_) rfl (by kernel_rfl) (by kernel_rfl) (by kernel_rfl) (fun _ _ _ h => h) (Yields.yieldsIf (Or.inl ⟨by rfl, ?_⟩)) hHeld ?_; rotate_left 1; focus (intro w; go_simp; try with_reducible rfl)); try simp only [Act.put, List.getElem_toArray, List.getElem_cons_zero, List.getElem_cons_succ, List.setIfInBounds_toArray, List.set_cons_zero, List.set_cons_succ])
  ((refine wpAnyH_take (i := 12) (v := ?_) rfl (by kernel_rfl) (by kernel_rfl) (by kernel_rfl) (fun _ _ _ h => h) (Yields.yieldsIf (Or.inl ⟨by rfl, ?_⟩)) hHeld ?_; rotate_left 1; focus (intro w; go_simp; try with_reducible rfl)); try simp only [Act.put, List.getElem_toArray, List.getElem_cons_zero, List.getElem_cons_succ, List.setIfInBounds_toArray, List.set_cons_zero, List.set_cons_succ])
  ((refine wpAnyH_take (i := 13) (v := ?_) rfl (by kernel_rfl) (by kernel_rfl) (by kernel_rfl) (fun _ _ _ h => h) (Yields.yieldsIf (Or.inl ⟨by rfl, ?_⟩)) hHeld ?_; rotate_left 1; focus (intro w; go_simp; try with_reducible rfl)); try simp only [Act.put, List.getElem_toArray, List.getElem_cons_zero, List.getElem_cons_succ, List.setIfInBounds_toArray, List.set_cons_zero, List.set_cons_succ])
  ((refine wpAnyH_take (i := 15) (v := ?_) rfl (by kernel_rfl) (by kernel_rfl) (by kernel_rfl) (fun _ _ _ h => h) (Yields.yieldsIf (Or.inl ⟨by rfl, ?_⟩)) hHeld ?_; rotate_left 1; focus (intro w; go_simp; try with_reducible rfl)); try simp only [Act.put, List.getElem_toArray, List.getElem_cons_zero, List.getElem_cons_succ, List.setIfInBounds_toArray, List.set_cons_zero, List.set_cons_succ])
  ((refine wpAnyH_take (i := 16) (v := ?_) rfl (by kernel_rfl) (by kernel_rfl) (by kernel_rfl) (fun _ _ _ h => h) (Or.inl ⟨by rfl, ?_⟩) hHeld ?_; rotate_left 1; focus (intro w hS; obtain ⟨s0, s1⟩ := hS; go_simp; try with_reducible rfl)); try simp only [Act.put, List.getElem_toArray, List.getElem_cons_zero, List.getElem_cons_succ, List.setIfInBounds_toArray, List.set_cons_zero, List.set_cons_succ])
  ((refine wpAnyH_take (i := 17) (v := ?_) rfl (by kernel_rfl) (by kernel_rfl) (by kernel_rfl) (fun _ _ _ h => h) (Yields.yieldsIf (Or.inl ⟨by rfl, ?_⟩)) hHeld ?_; rotate_left 1; focus (intro w; go_simp; try with_reducible rfl)); try simp only [Act.put, List.getElem_toArray, List.getElem_cons_zero, List.getElem_cons_succ, List.setIfInBounds_toArray, List.set_cons_zero, List.set_cons_succ])
  ((refine wpAnyH_ready (rs := [14]) (by kernel_rfl) (by simp) ?_; refine AllReadyH.cons rfl (fun K hK => ?_) AllReadyH.nil; go_simp; refine Calls.mono (HLe.out _ (HAL.out.trans ((Mod.of_drew hq1).trans hq2))) ?_; rintro e u4 ⟨rfl, rfl⟩; refine hK.out _ _ ?_ (fun hHeld => ?_); (· exact HKx.out _ ((Mod.of_drew hq1).trans hq2)); clear hK K); try simp only [Act.put, List.getElem_toArray, List.getElem_cons_zero, List.getElem_cons_succ, List.setIfInBounds_toArray, List.set_cons_zero, List.set_cons_succ])
  ((refine wpAnyH_take (i := 18) (v := ?_) rfl (by kernel_rfl) (by kernel_rfl) (by kernel_rfl) (fun _ _ _ h => h) (Yields.yieldsIf (Or.inl ⟨by rfl, ?_⟩)) hHeld ?_; rotate_left 1; focus (intro w; go_simp; try with_reducible rfl)); try simp only [Act.put, List.getElem_toArray, List.getElem_cons_zero, List.getElem_cons_succ, List.setIfInBounds_toArray, List.set_cons_zero, List.set_cons_succ])
  ((refine wpAnyH_take (i := 19) (v := ?_) rfl (by kernel_rfl) (by kernel_rfl) (by kernel_rfl) (fun _ _ _ h => h) (Yields.yieldsIf (Or.inl ⟨by rfl, ?_⟩)) hHeld ?_; rotate_left 1; focus (intro w; go_simp; try with_reducible rfl)); try simp only [Act.put, List.getElem_toArray, List.getElem_cons_zero, List.getElem_cons_succ, List.setIfInBounds_toArray, List.set_cons_zero, List.set_cons_succ])
  refine wpAnyH_done (by kernel_rfl) ?_ _
  clear hHeld
  have hp1 : Pure W1 u2 := (Mod.of_drew hq1).trans hq2
  have HP1 := Lib.hid hp1
  clear hq1 hq2 hp1 HNx HNo HLe HRn
  go_upto_region 4 with fail
  go_loopw [7] (fun v7 wr => ∃ k : Nat, v7 = .int .i64 (k : Nat) ∧ k ≤ n ∧ Pure W1 wr) (fun v7 _ => n - (intOf v7).toNat)
  case atStart => exact ⟨0, rfl, Nat.zero_le _, HP1.out⟩
  case round =>
    obtain ⟨k, rfl, hk, hp⟩ := hrel
    have HP := Lib.hid hp
    obtain ⟨x0, x1⟩ := HKx.out _ hp
    clear hp
    by_cases hlt : k < n
    · have hlt' : (k : Int) < (n : Int) := by omega
      have k0 : (0 : Int) ≤ (k : Int) := by omega
      have wk : IntKind.i64.wrap ((k : Int) + 1) = (k : Int) + 1 := IntWalk.i64_in _ (by omega)
      obtain ⟨x, hx⟩ : ∃ x, L[k]? = some x := ⟨_, List.getElem?_eq_getElem (by rw [HR.out.len]; exact hlt)⟩
      have hxL := List.mem_of_getElem? hx
      have hpw := HAL.out.trans HP.out
      obtain ⟨ad, rfl, z0, z1, z2⟩ := td_read (HR.out.pure hpw).rd hx
      obtain ⟨r1, r2, r3, r4, r5⟩ := HH.out.at_.rng x hxL
      obtain ⟨g1, g2⟩ := get_self HH.out.at_ hxL
      have HWh := Lib.hid (fun (u : World) => rwhere_ok (now := now) (dl := x.dl) HH.out.at_.now64 (by omega) u)
      have hge := fun (u : World) (hq : Pure w u) => (HH.out.pure hq).at_.get (s := x.slot) (by omega)
      rw [g1] at hge
      unfold tdV at hge
      have HGe := Lib.hid hge
      have HWe := Lib.hid (fun (u : World) (hq : Pure w u) => where_ok (HH.out.pure hq).at_ (s := x.slot) (by omega) g2)
      have HPW := Lib.hid hpw
      clear hx hxL r1 r2 r3 r4 r5 g1 g2 hge hpw
      go_upto_region 7 with fail
      have ha2 : Pure wr (wr.alloc (.cells #[.int .u32 x.slot, .int .u64 x.dl, .int .u64 x.birth] 31)) := (Mod.refl _ wr).alloc _
      have h8 := heap_new (w := wr) (o := .cells #[.int .u32 x.slot, .int .u64 x.dl, .int .u64 x.birth] 31 (0, 0)) rfl
      obtain ⟨b8, hb8⟩ : ∃ b8, wr.heap.size = b8 := ⟨_, rfl⟩
      rw [hb8] at h8 ⊢
      generalize wr.alloc (.cells #[.int .u32 x.slot, .int .u64 x.dl, .int .u64 x.birth] 31) = w8 at *
      have x0 := ha2.cell (fun h => h) x0
      have HA2 := Lib.hid ha2
      clear ha2 z0 z1 z2 x1 hb8
      have h8_0 := cell_of_row _ _ 0 _ _ _ h8; have h8_1 := cell_of_row _ _ 1 _ _ _ h8; have h8_2 := cell_of_row _ _ 2 _ _ _ h8; have h8_f := (fun j => frozen_of_row _ _ j _ _ h8); have h8_l := lt_of_block h8; simp at h8_0 h8_1 h8_2; have H_h8 := Lib.hid h8; clear h8
      go_upto_region 9 with (first
        | (go_at_call 61; refine Calls.mono (HWh.out _) ?_; rintro e w' ⟨rfl, rfl⟩)
        | (go_at_call 19; refine Calls.mono (HGe.out _ (HPW.out.trans HA2.out)) ?_; rintro e w9 ⟨rfl, hp9⟩
           have HP9 := Lib.hid hp9
           have h8 := hp9.heap (fun h => h) H_h8.out
           clear hp9 h8_0 h8_1 h8_2 h8_l H_h8))
      have ha9 : Pure w9 (w9.alloc (.cells #[.int .u32 x.slot, .int .u64 x.dl, .int .u64 x.birth] 31)) := (Mod.refl _ w9).alloc _
      have h11 := heap_new (w := w9) (o := .cells #[.int .u32 x.slot, .int .u64 x.dl, .int .u64 x.birth] 31 (0, 0)) rfl
      have h88 := ha9.heap (fun h => h) h8
      obtain ⟨b11, hb11⟩ : ∃ b11, w9.heap.size = b11 := ⟨_, rfl⟩
      rw [hb11] at h11 ⊢
      generalize w9.alloc (.cells #[.int .u32 x.slot, .int .u64 x.dl, .int .u64 x.birth] 31) = w10 at *
      have hp10 := HP.out.trans ((HA2.out.trans HP9.out).trans ha9)
      have HP10 := Lib.hid hp10
      clear hp10 ha9 h8 hb11
      have h88_0 := cell_of_row _ _ 0 _ _ _ h88; have h88_1 := cell_of_row _ _ 1 _ _ _ h88; have h88_2 := cell_of_row _ _ 2 _ _ _ h88; have h88_f := (fun j => frozen_of_row _ _ j _ _ h88); have h88_l := lt_of_block h88; simp at h88_0 h88_1 h88_2; have H_h88 := Lib.hid h88; clear h88
      have h11_0 := cell_of_row _ _ 0 _ _ _ h11; have h11_1 := cell_of_row _ _ 1 _ _ _ h11; have h11_2 := cell_of_row _ _ 2 _ _ _ h11; have h11_f := (fun j => frozen_of_row _ _ j _ _ h11); have h11_l := lt_of_block h11; simp at h11_0 h11_1 h11_2; have H_h11 := Lib.hid h11; clear h11
      go_wp2_with (go_at_call 26; refine Calls.mono (HWe.out _ (HAL.out.trans HP10.out)) ?_; rintro e w12 ⟨rfl, hp12⟩)
      have HP12 := Lib.hid (HP10.out.trans hp12)
      go_roundw
      case rel => exact ⟨k + 1, by go_num, hlt, HP12.out⟩
      case measure => simp [intOf]; omega
    · have hge : ¬ (k : Int) < (n : Int) := by omega
      have hpw := HAL.out.trans HP.out
      have hfi := rfind_ok (HR.out.pure hpw).rd HR.out.len (by omega) s
      have HPW := Lib.hid hpw; have HFi := Lib.hid hfi
      clear hpw hfi
      cases hh : hasB L s with
      | true =>
        have f0 := findR_pos hh
        generalize findR L s = f at *
        have HF := Lib.hid HFi.out
        clear hh HFi
        go_wp2_with (go_at_call 18; refine Calls.mono HF.out ?_; rintro e w' ⟨rfl, rfl⟩)
        go_ret
        exact ⟨rfl, HPW.out⟩
      | false =>
        rw [findR_neg hh] at HFi
        obtain ⟨g1, g2⟩ := get_none (L := L) (s := s) (by rw [hh]; rintro ⟨_, h⟩; cases h)
        have hge := fun (u : World) (hq : Pure w u) => (HH.out.pure hq).at_.get (s := s) h32
        have hwe := fun (u : World) (hq : Pure w u) => where_ok (HH.out.pure hq).at_ (s := s) h32 g2
        rw [g1] at hge
        unfold tdV zTd at hge
        by_cases hs : s < 4194304
        · have hs' : ¬ (4194304 : Int) ≤ (s : Int) := by omega
          simp only [if_pos hs] at hge hwe
          have HGe := Lib.hid hge; have HWe := Lib.hid hwe
          clear hge hwe g1 g2 hh hs
          go_upto_region 11 with fail
          go_upto_region 14 with (go_at_call 18; refine Calls.mono HFi.out ?_; rintro e w' ⟨rfl, rfl⟩)
          have hs2 : ¬ (4194304 : Int) ≤ (s : Int) := by omega
          clear hs' hlt hk hn h32 hge
          go_upto_region 16 with fail
          clear hs2
          go_upto_region 17 with (first
            | (go_at_call 19; refine Calls.mono (HGe.out _ HPW.out) ?_; rintro e w9 ⟨rfl, hp9⟩
               have HP9 := Lib.hid hp9
               clear hp9))
          have ha9 : Pure w9 (w9.alloc (.cells #[.int .u32 0, .int .u64 0, .int .u64 0] 31)) := (Mod.refl _ w9).alloc _
          have h14 := heap_new (w := w9) (o := .cells #[.int .u32 0, .int .u64 0, .int .u64 0] 31 (0, 0)) rfl
          obtain ⟨b14, hb14⟩ : ∃ b14, w9.heap.size = b14 := ⟨_, rfl⟩
          rw [hb14] at h14 ⊢
          generalize w9.alloc (.cells #[.int .u32 0, .int .u64 0, .int .u64 0] 31) = w10 at *
          have hp10 := HPW.out.trans (HP9.out.trans ha9)
          have HP10 := Lib.hid hp10
          clear hp10 ha9 hb14
          have h14_0 := cell_of_row _ _ 0 _ _ _ h14; have h14_1 := cell_of_row _ _ 1 _ _ _ h14; have h14_2 := cell_of_row _ _ 2 _ _ _ h14; have h14_f := (fun j => frozen_of_row _ _ j _ _ h14); have h14_l := lt_of_block h14; simp at h14_0 h14_1 h14_2; have H_h14 := Lib.hid h14; clear h14
          go_wp2_with (go_at_call 26; refine Calls.mono (HWe.out _ HP10.out) ?_; rintro e w12 ⟨rfl, hp12⟩)
          have HP12 := Lib.hid (HP10.out.trans hp12)
          go_ret
          exact ⟨rfl, HP12.out⟩
        · have hs' : (4194304 : Int) ≤ (s : Int) := by omega
          simp only [if_neg hs] at hge hwe
          have HGe := Lib.hid hge; have HWe := Lib.hid hwe
          clear hge hwe g1 g2 hh hs
          go_upto_region 16 with (go_at_call 18; refine Calls.mono HFi.out ?_; rintro e w' ⟨rfl, rfl⟩)
          clear hs'
          go_upto_region 17 with (first
            | (go_at_call 19; refine Calls.mono (HGe.out _ HPW.out) ?_; rintro e w9 ⟨rfl, hp9⟩
               have HP9 := Lib.hid hp9
               clear hp9))
          have ha9 : Pure w9 (w9.alloc (.cells #[.int .u32 0, .int .u64 0, .int .u64 0] 31)) := (Mod.refl _ w9).alloc _
          have h14 := heap_new (w := w9) (o := .cells #[.int .u32 0, .int .u64 0, .int .u64 0] 31 (0, 0)) rfl
          obtain ⟨b14, hb14⟩ : ∃ b14, w9.heap.size = b14 := ⟨_, rfl⟩
          rw [hb14] at h14 ⊢
          generalize w9.alloc (.cells #[.int .u32 0, .int .u64 0, .int .u64 0] 31) = w10 at *
          have hp10 := HPW.out.trans (HP9.out.trans ha9)
          have HP10 := Lib.hid hp10
          clear hp10 ha9 hb14
          have h14_0 := cell_of_row _ _ 0 _ _ _ h14; have h14_1 := cell_of_row _ _ 1 _ _ _ h14; have h14_2 := cell_of_row _ _ 2 _ _ _ h14; have h14_f := (fun j => frozen_of_row _ _ j _ _ h14); have h14_l := lt_of_block h14; simp at h14_0 h14_1 h14_2; have H_h14 := Lib.hid h14; clear h14
          go_wp2_with (go_at_call 26; refine Calls.mono (HWe.out _ HP10.out) ?_; rintro e w12 ⟨rfl, hp12⟩)
          have HP12 := Lib.hid (HP10.out.trans hp12)
          go_ret
          exact ⟨rfl, HP12.out⟩
end
end Go.Proofs.YtlalpenfgkfkpaaDoor

/- law20.known: it returns true. Condition: the table of math/bits lies in memory. -/
namespace Go.Proofs.YtlalpenfgkfkpaaDoor
open Go.RowKit
set_option maxRecDepth 100000
/-- A cascade that was made since w0. -/
structure KnS (w0 w : World) (D : Nat → Prop) (p now : Nat) (L : List Td) : Prop where
  t : CasT w D p now L
  ge : ∀ k, D k → w0.heap.size ≤ k
  pu : Pure w0 w
section
variable {w0 w w' : World} {D : Nat → Prop} {p now tt : Nat} {L : List Td}
theorem KnS.pure (h : KnS w0 w D p now L) (hm : Pure w w') : KnS w0 w' D p now L := ⟨h.t.pure hm, h.ge, h.pu.trans hm⟩
theorem KnS.step (h : KnS w0 w D p now L) {D' : Nat → Prop} {now' : Nat} {L' : List Td} (hc : CasT w' D' p now' L') (hg : grewD D D' w) (hm : Mod D w w') : KnS w0 w' D' p now' L' :=
  ⟨hc, fun k hk => by
    rcases hg k hk with e | e
    · exact h.ge k e
    · have := h.pu.size; omega, h.pu.then hm (fun k hk e => by have := h.ge k e; omega)⟩
theorem KnS.new (hT : TabW w) (hn : now < 18446744073709551616) : Calls Tryd.prog 11 #[.int .u64 now] w fun e w' => ∃ p D, e = .returned (lkP p) ∧ KnS w w' D p now [] := by
  refine (cnew_ok w hn).mono ?_
  rintro e w' ⟨p, D, rfl, hc, hp, hf⟩
  exact ⟨p, D, rfl, ⟨hc, hT.pure hp, fun e => by have := hf 0 e; have := hT.lt; omega⟩, hf, hp⟩
theorem KnS.sched (h : KnS w0 w D p now L) {x : Td} {r : Int} {L' : List Td} (hr : schR now L x = r) (hL : schL now L x = L') (h32 : x.slot ≤ 4294967295) (hd : x.dl ≤ 18446744073709551615) (hb : x.birth ≤ 18446744073709551615) :
    Calls Tryd.prog 13 #[lkP p, tdV x] w fun e w' => e = .returned (.int .i64 r) ∧ ∃ D', KnS w0 w' D' p now L' := by
  refine (h.t.at_.sched h32 hd hb (by have := h.t.at_.count; unfold maxLen; omega)).mono ?_
  rintro e w' ⟨rfl, ⟨D', hc, hg⟩, hm⟩
  rw [hL] at hc
  exact ⟨by rw [hr], D', h.step (h.t.next hc hg hm) hg hm⟩
theorem KnS.resched (h : KnS w0 w D p now L) {s dl : Nat} {r : Int} {L' : List Td} (hr : resR now L s dl = r) (hL : resL now L s dl = L') (h32 : s ≤ 4294967295) (hd : dl ≤ 18446744073709551615) :
    Calls Tryd.prog 25 #[lkP p, .int .u32 s, .int .u64 dl] w fun e w' => e = .returned (.int .i64 r) ∧ ∃ D', KnS w0 w' D' p now L' := by
  refine (h.t.at_.resched h32 hd (by have := h.t.at_.count; unfold maxLen; omega)).mono ?_
  rintro e w' ⟨rfl, ⟨D', hc, hg⟩, hm⟩
  rw [hL] at hc
  exact ⟨by rw [hr], D', h.step (h.t.next hc hg hm) hg hm⟩
theorem KnS.where_ (h : KnS w0 w D p now L) {s : Nat} {l b er : Int} (he : whE now L s = .tuple #[.int .i64 l, .int .i64 b, .int .i64 er]) (h32 : s ≤ 4294967295) :
    Calls Tryd.prog 26 #[lkP p, .int .u32 s, .int .i64 l, .int .i64 b, .int .i64 er] w fun e w' => e = .returned (.bool true) ∧ KnS w0 w' D p now L := by
  refine (where_ok h.t.at_ h32 he).mono ?_
  rintro e w' ⟨rfl, hp⟩
  exact ⟨rfl, h.pure hp⟩
theorem KnS.adv (h : KnS w0 w D p now L) {now' : Nat} {L' : List Td} {er : Int} (l : List Td) (a2 : Option Addr) (n2 c2 : Nat) (ho : aOut now tt L = l) (hn : n2 = l.length) (hN : aNow now tt = now') (hL : aRest now tt L = L') (he : er = aErr now tt) (ht : tt < 18446744073709551616)
    (hw : ReadAt w (.slice a2 n2 c2) 3 (l.flatMap tdC)) (hwD : ∀ g, rdBlock (.slice a2 n2 c2) = some g → ¬ D g) :
    Calls Tryd.prog 22 #[lkP p, .int .u64 tt, .slice a2 n2 c2, .int .i64 er] w fun e w' => e = .returned (.bool true) ∧ ∃ D', KnS w0 w' D' p now' L' := by
  subst ho
  refine (advances_ok h.t ht hn hw hwD he).mono ?_
  rintro e w' ⟨rfl, ⟨D', hc, hg⟩, hm⟩
  rw [hN, hL] at hc
  exact ⟨rfl, D', h.step hc hg hm⟩
theorem KnS.next (h : KnS w0 w D p now L) {n : Nat} (hn : nextD L = n) : Calls Tryd.prog 27 #[lkP p] w fun e w' => e = .returned (.int .u64 n) ∧ KnS w0 w' D p now L := by
  refine (h.t.at_.next h.t.tab).mono ?_
  rintro e w' ⟨rfl, hp⟩
  exact ⟨by rw [hn], h.pure hp⟩
theorem KnS.len (h : KnS w0 w D p now L) {n : Nat} (hn : L.length = n) : Calls Tryd.prog 15 #[lkP p] w fun e w' => e = .returned (.int .i64 n) ∧ KnS w0 w' D p now L := by
  refine h.t.at_.len_.mono ?_
  rintro e w' ⟨rfl, rfl⟩
  exact ⟨by rw [hn], h⟩
theorem KnS.lt (h : KnS w0 w D p now L) {k : Nat} (hk : D k) : k < w.heap.size := h.t.at_.lt hk
/-- A list that is made on the spot. -/
theorem lit_read (l : List Td) {n : Nat} (hn : l.length = n) : ReadAt (w.alloc (.cells (l.flatMap tdC).toArray 31)) (.slice (some ⟨w.heap.size, 0, none⟩) n n) 3 (l.flatMap tdC) := by
  have := ReadAt.of_block (w := w.alloc (.cells (l.flatMap tdC).toArray 31)) n n 3 (heap_new rfl) (by rw [List.toList_toArray, flat_length tdC 3 (fun _ => rfl), hn]) (by rw [List.toList_toArray]; exact tdC_one l)
  exact this
theorem lit_off (h : KnS w0 w D p now L) {n : Nat} : ∀ g, rdBlock (.slice (some ⟨w.heap.size, 0, none⟩) n n) = some g → ¬ D g := fun g hg hk => by
  have := h.lt hk
  have e := rdBlock_own hg
  injection e with e
  subst e
  exact Nat.lt_irrefl _ this
end
abbrev ka : Td := ⟨1, 255, 1⟩
abbrev kb : Td := ⟨2, 256, 2⟩
abbrev kc : Td := ⟨3, 300, 3⟩
abbrev kd : Td := ⟨4, 70000, 4⟩
abbrev ke : Td := ⟨4, 300, 4⟩
abbrev kf : Td := ⟨7, 18446744073709551614, 9⟩
theorem q1 : schR 250 [] ka = 0 ∧ schL 250 [] ka = [ka] := ⟨by decide, rfl⟩
theorem q2 : schR 250 [ka] kb = 0 ∧ schL 250 [ka] kb = [ka, kb] := ⟨by decide, rfl⟩
theorem q3 : schR 250 [ka, kb] kc = 0 ∧ schL 250 [ka, kb] kc = [ka, kb, kc] := ⟨by decide, rfl⟩
theorem q4 : schR 250 [ka, kb, kc] kd = 0 ∧ schL 250 [ka, kb, kc] kd = [ka, kb, kc, kd] := ⟨by decide, rfl⟩
theorem q5 : whE 250 [ka, kb, kc, kd] 1 = .tuple #[.int .i64 0, .int .i64 255, .int .i64 0] := rfl
theorem q6 : whE 250 [ka, kb, kc, kd] 3 = .tuple #[.int .i64 1, .int .i64 1, .int .i64 0] := rfl
theorem q7 : whE 250 [ka, kb, kc, kd] 4 = .tuple #[.int .i64 2, .int .i64 1, .int .i64 0] := rfl
theorem q8 : aOut 250 255 [ka, kb, kc, kd] = [ka] ∧ aNow 250 255 = 255 ∧ aRest 250 255 [ka, kb, kc, kd] = [kb, kc, kd] ∧ 0 = aErr 250 255 := ⟨rfl, rfl, rfl, rfl⟩
theorem q9 : whE 255 [kb, kc, kd] 3 = .tuple #[.int .i64 1, .int .i64 1, .int .i64 0] := rfl
theorem q10 : aOut 255 256 [kb, kc, kd] = [kb] ∧ aNow 255 256 = 256 ∧ aRest 255 256 [kb, kc, kd] = [kc, kd] ∧ 0 = aErr 255 256 := ⟨rfl, rfl, rfl, rfl⟩
theorem q11 : whE 256 [kc, kd] 3 = .tuple #[.int .i64 0, .int .i64 44, .int .i64 0] := rfl
theorem q12 : resR 256 [kc, kd] 4 300 = 0 ∧ resL 256 [kc, kd] 4 300 = [kc, ke] := ⟨by decide, rfl⟩
theorem q13 : schR 256 [kc, ke] ⟨5, 300, 0⟩ = 2 ∧ schL 256 [kc, ke] ⟨5, 300, 0⟩ = [kc, ke] := ⟨by decide, rfl⟩
theorem q14 : schR 256 [kc, ke] ⟨5, 256, 9⟩ = 3 ∧ schL 256 [kc, ke] ⟨5, 256, 9⟩ = [kc, ke] := ⟨by decide, rfl⟩
theorem q15 : schR 256 [kc, ke] ⟨5, 300, 3⟩ = 11 ∧ schL 256 [kc, ke] ⟨5, 300, 3⟩ = [kc, ke] := ⟨by decide, rfl⟩
theorem q16 : aOut 256 1000 [kc, ke] = [kc, ke] ∧ aNow 256 1000 = 1000 ∧ aRest 256 1000 [kc, ke] = [] ∧ 0 = aErr 256 1000 := ⟨rfl, rfl, rfl, rfl⟩
theorem q17 : schR 1000 [] ⟨7, 18446744073709551615, 9⟩ = 2 ∧ schL 1000 [] ⟨7, 18446744073709551615, 9⟩ = [] := ⟨by decide, rfl⟩
theorem q18 : schR 1000 [] kf = 0 ∧ schL 1000 [] kf = [kf] := ⟨by decide, rfl⟩
theorem q19 : whE 1000 [kf] 7 = .tuple #[.int .i64 7, .int .i64 255, .int .i64 0] := rfl
theorem q20 : aOut 1000 999 [kf] = [] ∧ aNow 1000 999 = 1000 ∧ aRest 1000 999 [kf] = [kf] ∧ 3 = aErr 1000 999 := ⟨rfl, rfl, rfl, rfl⟩
theorem q21 : aOut 1000 18446744073709551615 [kf] = [kf] ∧ aNow 1000 18446744073709551615 = 18446744073709551615 ∧ aRest 1000 18446744073709551615 [kf] = [] ∧ 0 = aErr 1000 18446744073709551615 := ⟨rfl, rfl, rfl, rfl⟩
set_option maxHeartbeats 4000000 in
theorem known20_ok (w : World) (hT : TabW w) : Calls Tryd.prog 10 #[] w fun e w' => e = .returned (.bool true) ∧ Pure w w' := by
  have HN := Lib.hid (KnS.new (now := 250) hT (by decide))
  have HTm := Lib.hid timed_ok
  clear hT
  have U1 : True := trivial
  have U2 : True := trivial
  have U3 : True := trivial
  have U4 : True := trivial
  have U5 : True := trivial
  have U6 : True := trivial
  have U7 : True := trivial
  have U8 : True := trivial
  have U9 : True := trivial
  have U10 : True := trivial
  have U11 : True := trivial
  have U12 : True := trivial
  have U13 : True := trivial
  have U14 : True := trivial
  have T1 : True := trivial
  have T2 : True := trivial
  have T3 : True := trivial
  have T4 : True := trivial
  have T5 : True := trivial
  have T6 : True := trivial
  have T7 : True := trivial
  have T8 : True := trivial
  have T9 : True := trivial
  have T10 : True := trivial
  have T11 : True := trivial
  have T12 : True := trivial
  have T13 : True := trivial
  have T14 : True := trivial
  have T15 : True := trivial
  have T16 : True := trivial
  have T17 : True := trivial
  have T18 : True := trivial
  have T19 : True := trivial
  have T20 : True := trivial
  have T21 : True := trivial
  go_enter Tryd.func10, Tryd.ntmps10
  go_upto_region 2 with (go_at_call 11; refine Calls.mono HN.out ?_; rintro e w1 ⟨p, D, rfl, hs⟩; have HS := Lib.hid hs; clear hs)
  go_upto_region 4 with (first
    | (go_at_call 12; clear U1; refine Calls.mono (HTm.out 1 255 1 _) ?_; rintro e w' ⟨rfl, hp⟩; replace HS := Lib.hid (HS.out.pure hp); clear hp)
    | (go_at_call 12; clear U2; refine Calls.mono (HTm.out 2 256 2 _) ?_; rintro e w' ⟨rfl, hp⟩; replace HS := Lib.hid (HS.out.pure hp); clear hp)
    | (go_at_call 12; clear U3; refine Calls.mono (HTm.out 3 300 3 _) ?_; rintro e w' ⟨rfl, hp⟩; replace HS := Lib.hid (HS.out.pure hp); clear hp)
    | (go_at_call 12; clear U4; refine Calls.mono (HTm.out 4 70000 4 _) ?_; rintro e w' ⟨rfl, hp⟩; replace HS := Lib.hid (HS.out.pure hp); clear hp)
    | (go_at_call 13; clear T1; refine Calls.mono (HS.out.sched (x := ka) q1.1 q1.2 (by decide) (by decide) (by decide)) ?_; rintro e w' ⟨rfl, D', hs⟩; replace HS := Lib.hid hs; clear hs)
    | (go_at_call 13; clear T2; refine Calls.mono (HS.out.sched (x := kb) q2.1 q2.2 (by decide) (by decide) (by decide)) ?_; rintro e w' ⟨rfl, D', hs⟩; replace HS := Lib.hid hs; clear hs)
    | (go_at_call 13; clear T3; refine Calls.mono (HS.out.sched (x := kc) q3.1 q3.2 (by decide) (by decide) (by decide)) ?_; rintro e w' ⟨rfl, D', hs⟩; replace HS := Lib.hid hs; clear hs)
    | (go_at_call 13; clear T4; refine Calls.mono (HS.out.sched (x := kd) q4.1 q4.2 (by decide) (by decide) (by decide)) ?_; rintro e w' ⟨rfl, D', hs⟩; replace HS := Lib.hid hs; clear hs)
    | (go_at_call 26; clear T5; refine Calls.mono (HS.out.where_ (s := 1) q5 (by decide)) ?_; rintro e w' ⟨rfl, hs⟩; replace HS := Lib.hid hs; clear hs)
    | (go_at_call 26; clear T6; refine Calls.mono (HS.out.where_ (s := 3) q6 (by decide)) ?_; rintro e w' ⟨rfl, hs⟩; replace HS := Lib.hid hs; clear hs)
    | (go_at_call 26; clear T7; refine Calls.mono (HS.out.where_ (s := 4) q7 (by decide)) ?_; rintro e w' ⟨rfl, hs⟩; replace HS := Lib.hid hs; clear hs))
  go_upto_region 6 with (first
    | (go_at_call 12; clear U5; refine Calls.mono (HTm.out 1 255 1 _) ?_; rintro e w' ⟨rfl, hp⟩; replace HS := Lib.hid (HS.out.pure hp); clear hp)
    | (go_at_call 12; clear U6; refine Calls.mono (HTm.out 2 256 2 _) ?_; rintro e w' ⟨rfl, hp⟩; replace HS := Lib.hid (HS.out.pure hp); clear hp)
    | (go_at_call 22; clear T8; refine Calls.mono ((HS.out.pure ((Mod.refl _ _).alloc _)).adv (tt := 255) [ka] _ _ _ q8.1 rfl q8.2.1 q8.2.2.1 q8.2.2.2 (by decide) (lit_read [ka] (n := 1) rfl) (lit_off HS.out)) ?_; rintro e w' ⟨rfl, D', hs⟩; replace HS := Lib.hid hs; clear hs)
    | (go_at_call 26; clear T9; refine Calls.mono (HS.out.where_ (s := 3) q9 (by decide)) ?_; rintro e w' ⟨rfl, hs⟩; replace HS := Lib.hid hs; clear hs)
    | (go_at_call 22; clear T10; refine Calls.mono ((HS.out.pure ((Mod.refl _ _).alloc _)).adv (tt := 256) [kb] _ _ _ q10.1 rfl q10.2.1 q10.2.2.1 q10.2.2.2 (by decide) (lit_read [kb] (n := 1) rfl) (lit_off HS.out)) ?_; rintro e w' ⟨rfl, D', hs⟩; replace HS := Lib.hid hs; clear hs)
    | (go_at_call 26; clear T11; refine Calls.mono (HS.out.where_ (s := 3) q11 (by decide)) ?_; rintro e w' ⟨rfl, hs⟩; replace HS := Lib.hid hs; clear hs)
    | (go_at_call 27; refine Calls.mono (HS.out.next (n := 300) rfl) ?_; rintro e w' ⟨rfl, hs⟩; replace HS := Lib.hid hs; clear hs))
  go_upto_region 8 with (first
    | (go_at_call 25; refine Calls.mono (HS.out.resched (s := 4) (dl := 300) q12.1 q12.2 (by decide) (by decide)) ?_; rintro e w' ⟨rfl, D', hs⟩; replace HS := Lib.hid hs; clear hs)
    | (go_at_call 12; clear U7; refine Calls.mono (HTm.out 5 300 0 _) ?_; rintro e w' ⟨rfl, hp⟩; replace HS := Lib.hid (HS.out.pure hp); clear hp)
    | (go_at_call 12; clear U8; refine Calls.mono (HTm.out 5 256 9 _) ?_; rintro e w' ⟨rfl, hp⟩; replace HS := Lib.hid (HS.out.pure hp); clear hp)
    | (go_at_call 12; clear U9; refine Calls.mono (HTm.out 5 300 3 _) ?_; rintro e w' ⟨rfl, hp⟩; replace HS := Lib.hid (HS.out.pure hp); clear hp)
    | (go_at_call 12; clear U10; refine Calls.mono (HTm.out 3 300 3 _) ?_; rintro e w' ⟨rfl, hp⟩; replace HS := Lib.hid (HS.out.pure hp); clear hp)
    | (go_at_call 12; clear U11; refine Calls.mono (HTm.out 4 300 4 _) ?_; rintro e w' ⟨rfl, hp⟩; replace HS := Lib.hid (HS.out.pure hp); clear hp)
    | (go_at_call 13; clear T13; refine Calls.mono (HS.out.sched (x := ⟨5, 300, 0⟩) q13.1 q13.2 (by decide) (by decide) (by decide)) ?_; rintro e w' ⟨rfl, D', hs⟩; replace HS := Lib.hid hs; clear hs)
    | (go_at_call 13; clear T14; refine Calls.mono (HS.out.sched (x := ⟨5, 256, 9⟩) q14.1 q14.2 (by decide) (by decide) (by decide)) ?_; rintro e w' ⟨rfl, D', hs⟩; replace HS := Lib.hid hs; clear hs)
    | (go_at_call 13; clear T15; refine Calls.mono (HS.out.sched (x := ⟨5, 300, 3⟩) q15.1 q15.2 (by decide) (by decide) (by decide)) ?_; rintro e w' ⟨rfl, D', hs⟩; replace HS := Lib.hid hs; clear hs)
    | (go_at_call 22; clear T16; refine Calls.mono ((HS.out.pure ((Mod.refl _ _).alloc _)).adv (tt := 1000) [kc, ke] _ _ _ q16.1 rfl q16.2.1 q16.2.2.1 q16.2.2.2 (by decide) (lit_read [kc, ke] (n := 2) rfl) (lit_off HS.out)) ?_; rintro e w' ⟨rfl, D', hs⟩; replace HS := Lib.hid hs; clear hs)
    | (go_at_call 15; refine Calls.mono (HS.out.len (n := 0) rfl) ?_; rintro e w' ⟨rfl, hs⟩; replace HS := Lib.hid hs; clear hs))
  go_wp2_with (first
    | (go_at_call 12; clear U12; refine Calls.mono (HTm.out 7 18446744073709551615 9 _) ?_; rintro e w' ⟨rfl, hp⟩; replace HS := Lib.hid (HS.out.pure hp); clear hp)
    | (go_at_call 12; clear U13; refine Calls.mono (HTm.out 7 18446744073709551614 9 _) ?_; rintro e w' ⟨rfl, hp⟩; replace HS := Lib.hid (HS.out.pure hp); clear hp)
    | (go_at_call 12; clear U14; refine Calls.mono (HTm.out 7 18446744073709551614 9 _) ?_; rintro e w' ⟨rfl, hp⟩; replace HS := Lib.hid (HS.out.pure hp); clear hp)
    | (go_at_call 13; clear T17; refine Calls.mono (HS.out.sched (x := ⟨7, 18446744073709551615, 9⟩) q17.1 q17.2 (by decide) (by decide) (by decide)) ?_; rintro e w' ⟨rfl, D', hs⟩; replace HS := Lib.hid hs; clear hs)
    | (go_at_call 13; clear T18; refine Calls.mono (HS.out.sched (x := kf) q18.1 q18.2 (by decide) (by decide) (by decide)) ?_; rintro e w' ⟨rfl, D', hs⟩; replace HS := Lib.hid hs; clear hs)
    | (go_at_call 26; clear T19; refine Calls.mono (HS.out.where_ (s := 7) q19 (by decide)) ?_; rintro e w' ⟨rfl, hs⟩; replace HS := Lib.hid hs; clear hs)
    | (go_at_call 22; clear T20; refine Calls.mono (HS.out.adv (tt := 999) [] _ _ _ q20.1 rfl q20.2.1 q20.2.2.1 q20.2.2.2 (by decide) (ReadAt.nil _ _) (fun g hg => by cases hg)) ?_; rintro e w' ⟨rfl, D', hs⟩; replace HS := Lib.hid hs; clear hs)
    | (go_at_call 22; clear T21; refine Calls.mono ((HS.out.pure ((Mod.refl _ _).alloc _)).adv (tt := 18446744073709551615) [kf] _ _ _ q21.1 rfl q21.2.1 q21.2.2.1 q21.2.2.2 (by decide) (lit_read [kf] (n := 1) rfl) (lit_off HS.out)) ?_; rintro e w' ⟨rfl, D', hs⟩; replace HS := Lib.hid hs; clear hs))
  go_ret
  exact ⟨rfl, HS.out.pu⟩
end Go.Proofs.YtlalpenfgkfkpaaDoor
