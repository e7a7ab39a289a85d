/- Lemmas and contracts of functions, strung together out of 4 texts. No condition. -/
import Derived.Test.YtlalpenfgkfkpaaDoorJPfCascadePlays9
import Derived.Test.YtlalpenfgkfkpaaDoorJPfCascadePlays8
/- The reference of cascade: Schedule. Conditions: the list is read. -/
namespace Go.Proofs.YtlalpenfgkfkpaaDoor
open Go.RowKit Go.Shelf
set_option maxRecDepth 100000
/-- A slice of the reference: the one that was, or a new one. -/
def Kept (w : World) (a : Option Addr) (n c : Nat) (a' : Option Addr) (n' c' : Nat) : Prop := (a' = a ∧ n' = n ∧ c' = c) ∨ FreshV w (.slice a' n' c')
section
variable {w : World} {a : Option Addr} {n c now tt : Nat} {L : List Td} {x : Td}
/-- Three boxes: a wheel, what is timed, a wheel's result. -/
def box3 (w : World) (now : Nat) (a : Option Addr) (n c : Nat) (x : Td) : World := ((w.alloc (.cells #[.int .u64 now, .slice a n c] 45)).alloc (.cells #[.int .u32 x.slot, .int .u64 x.dl, .int .u64 x.birth] 31)).alloc (.cells #[.int .u64 0, .slice none 0 0] 45)
structure Box3 (w W : World) (b0 b1 b2 : Nat) (now : Nat) (a : Option Addr) (n c : Nat) (x : Td) : Prop where
  pure : Pure w W
  z0 : w.heap.size ≤ b0
  z1 : w.heap.size ≤ b1
  z2 : w.heap.size ≤ b2
  h0 : W.heap[b0]? = some (.cells #[.int .u64 now, .slice a n c] 45 (0, 0))
  h1 : W.heap[b1]? = some (.cells #[.int .u32 x.slot, .int .u64 x.dl, .int .u64 x.birth] 31 (0, 0))
  h2 : W.heap[b2]? = some (.cells #[.int .u64 0, .slice none 0 0] 45 (0, 0))
  ne01 : b0 ≠ b1
  ne02 : b0 ≠ b2
  ne12 : b1 ≠ b2
theorem box3_ok : ∃ W b0 b1 b2, box3 w now a n c x = W ∧ w.heap.size = b0 ∧ w.heap.size + 1 = b1 ∧ w.heap.size + 1 + 1 = b2 ∧ Box3 w W b0 b1 b2 now a n c x := by
  refine ⟨_, _, _, _, rfl, rfl, rfl, rfl, ?_⟩
  have p1 := (Mod.refl (fun _ => False) w).alloc (.cells #[.int .u64 now, .slice a n c] 45)
  have p2 := (Mod.refl (fun _ => False) (w.alloc (.cells #[.int .u64 now, .slice a n c] 45))).alloc (.cells #[.int .u32 x.slot, .int .u64 x.dl, .int .u64 x.birth] 31)
  have p3 := (Mod.refl (fun _ => False) ((w.alloc (.cells #[.int .u64 now, .slice a n c] 45)).alloc (.cells #[.int .u32 x.slot, .int .u64 x.dl, .int .u64 x.birth] 31))).alloc (.cells #[.int .u64 0, .slice none 0 0] 45)
  refine ⟨(p1.trans p2).trans p3, Nat.le_refl _, by omega, by omega, ?_, ?_, ?_, by omega, by omega, by omega⟩
  · exact (p2.trans p3).heap (fun h => h) (heap_new rfl)
  · exact p3.heap (fun h => h) (heap_new (by simp))
  · exact heap_new (by simp)
theorem rsched_er (he : schE now x ≠ 0) (h32 : x.slot ≤ 4294967295) (hd : x.dl ≤ 18446744073709551615) (hb : x.birth ≤ 18446744073709551615) :
    Calls Tryd.prog 20 #[whV now a n c, tdV x] w fun e w' => e = .returned (.tuple #[whV now a n c, .int .i64 (schE now x)]) ∧ Pure w w' := by
  unfold whV tdV
  obtain ⟨W1, b0, b1, b2, hW, e0, e1, e2, hB⟩ := box3_ok (w := w) (now := now) (a := a) (n := n) (c := c) (x := x)
  unfold box3 at hW
  obtain ⟨y0, y1, y2⟩ : W1.cell? ⟨b1, 0, none⟩ = some (.int .u32 x.slot) ∧ W1.cell? ⟨b1, 1, none⟩ = some (.int .u64 x.dl) ∧ W1.cell? ⟨b1, 2, none⟩ = some (.int .u64 x.birth) := ⟨by rw [cell_of_row _ _ 0 _ _ _ hB.h1]; rfl, by rw [cell_of_row _ _ 1 _ _ _ hB.h1]; rfl, by rw [cell_of_row _ _ 2 _ _ _ hB.h1]; rfl⟩
  have h0 := hB.h0; have h2 := hB.h2
  have HB := Lib.hid hB; have HW := Lib.hid hW; have E0 := Lib.hid e0; have E1 := Lib.hid e1; have E2 := Lib.hid e2
  clear hB hW e0 e1 e2
  have h0_0 := cell_of_row _ _ 0 _ _ _ h0; have h0_1 := cell_of_row _ _ 1 _ _ _ h0; have h0_f := (fun j => frozen_of_row _ _ j _ _ h0); have h0_l := lt_of_block h0; simp at h0_0 h0_1; have H_h0 := Lib.hid h0; clear h0
  have h2_0 := cell_of_row _ _ 0 _ _ _ h2; have h2_1 := cell_of_row _ _ 1 _ _ _ h2; have h2_f := (fun j => frozen_of_row _ _ j _ _ h2); have h2_l := lt_of_block h2; simp at h2_0 h2_1; have H_h2 := Lib.hid h2; clear h2
  have fin : ∀ W (q : Pure W1 W), W.heap[b2]? = some (.cells #[.int .u64 0, .slice none 0 0] 45 (0, 0)) → Pure w ((W.setCell ⟨b2, 0, none⟩ (.int .u64 now)).setCell ⟨b2, 1, none⟩ (.slice a n c)) := fun W q _ =>
    (HB.out.pure.trans q).then (Mod.set2 b2 0 1 _ _) (fun k hk e => by have := HB.out.z2; omega)
  have HFin := Lib.hid fin
  clear fin
  have V1 : True := trivial
  unfold schE at he ⊢
  by_cases hs : x.slot < 4194304
  · have hs' : ¬ (4194304 : Int) ≤ (x.slot : Int) := by omega
    rw [if_pos hs] at he ⊢
    by_cases hz : x.birth = 0
    · rw [if_pos hz]
      have e0 : ((x.birth : Int) == 0) = true := by simp; omega
      clear he hz
      go_enter Tryd.func20, Tryd.ntmps20
      go_upto_region 1 with fail
      rw [HW.out, E2.out, E1.out, E0.out]
      go_wp2
      refine bodyPost_ret (v := .tuple #[.agg #[.int .u64 now, .slice a n c], .int .i64 2]) (by simp [results, Tryd.results20, go_sem, h0_0, h0_1, h0_l, h2_0, h2_1, h2_l]) rfl ⟨rfl, HFin.out _ (Mod.refl _ _) HB.out.h2⟩
    · rw [if_neg hz] at he ⊢
      have e0 : ((x.birth : Int) == 0) = false := by simp; omega
      unfold atE at he ⊢
      rw [if_pos hs] at he ⊢
      by_cases hm : x.dl = 18446744073709551615
      · rw [if_pos hm]
        have e1 : ((x.dl : Int) == 18446744073709551615) = true := by simp; omega
        clear he hz hm
        go_enter Tryd.func20, Tryd.ntmps20
        go_upto_region 1 with fail
        rw [HW.out, E2.out, E1.out, E0.out]
        go_wp2
        refine bodyPost_ret (v := .tuple #[.agg #[.int .u64 now, .slice a n c], .int .i64 2]) (by simp [results, Tryd.results20, go_sem, h0_0, h0_1, h0_l, h2_0, h2_1, h2_l]) rfl ⟨rfl, HFin.out _ (Mod.refl _ _) HB.out.h2⟩
      · rw [if_neg hm] at he ⊢
        have e1 : ((x.dl : Int) == 18446744073709551615) = false := by simp; omega
        by_cases hn : x.dl ≤ now
        · rw [if_pos hn]
          have hn' : (x.dl : Int) ≤ (now : Int) := by omega
          clear he hz hm hn
          go_enter Tryd.func20, Tryd.ntmps20
          go_upto_region 1 with fail
          rw [HW.out, E2.out, E1.out, E0.out]
          go_wp2
          refine bodyPost_ret (v := .tuple #[.agg #[.int .u64 now, .slice a n c], .int .i64 3]) (by simp [results, Tryd.results20, go_sem, h0_0, h0_1, h0_l, h2_0, h2_1, h2_l]) rfl ⟨rfl, HFin.out _ (Mod.refl _ _) HB.out.h2⟩
        · rw [if_neg hn] at he
          exact absurd rfl he
  · have hs' : (4194304 : Int) ≤ (x.slot : Int) := by omega
    rw [if_neg hs]
    clear he
    go_enter Tryd.func20, Tryd.ntmps20
    go_upto_region 1 with fail
    rw [HW.out, E2.out, E1.out, E0.out]
    go_wp2
    refine bodyPost_ret (v := .tuple #[.agg #[.int .u64 now, .slice a n c], .int .i64 2]) (by simp [results, Tryd.results20, go_sem, h0_0, h0_1, h0_l, h2_0, h2_1, h2_l]) rfl ⟨rfl, HFin.out _ (Mod.refl _ _) HB.out.h2⟩
theorem findR_pos {s : Nat} (h : hasB L s = true) : 0 ≤ findR L s := by unfold findR; rw [if_pos h]; omega
theorem findR_neg {s : Nat} (h : hasB L s = false) : findR L s = -1 := by unfold findR; rw [if_neg (by rw [h]; decide)]
theorem rsched_busy (h : RdL w a n c L) (hl : n ≤ 4194304) (he : schE now x = 0) (hd : x.dl ≤ 18446744073709551615) (hy : (hasB L x.slot || bornB L x.birth) = true) :
    Calls Tryd.prog 20 #[whV now a n c, tdV x] w fun e w' => e = .returned (.tuple #[whV now a n c, .int .i64 11]) ∧ Pure w w' := by
  unfold whV tdV
  obtain ⟨W1, b0, b1, b2, hW, e0, e1, e2, hB⟩ := box3_ok (w := w) (now := now) (a := a) (n := n) (c := c) (x := x)
  unfold box3 at hW
  obtain ⟨y0, y1, y2⟩ : W1.cell? ⟨b1, 0, none⟩ = some (.int .u32 x.slot) ∧ W1.cell? ⟨b1, 1, none⟩ = some (.int .u64 x.dl) ∧ W1.cell? ⟨b1, 2, none⟩ = some (.int .u64 x.birth) := ⟨by rw [cell_of_row _ _ 0 _ _ _ hB.h1]; rfl, by rw [cell_of_row _ _ 1 _ _ _ hB.h1]; rfl, by rw [cell_of_row _ _ 2 _ _ _ hB.h1]; rfl⟩
  have hr := h.pure hB.pure
  have hfi := rfind_ok hr.rd hr.len (by omega) x.slot
  have hbo := rborn_ok hr.rd hr.len (by omega) x.birth
  obtain ⟨a1, a2, a3, a4⟩ := schE_zero he hd
  have c1 : ¬ (4194304 : Int) ≤ (x.slot : Int) := by omega
  have c2 : ((x.birth : Int) == 0) = false := by simp; omega
  have c3 : ((x.dl : Int) == 18446744073709551615) = false := by simp; omega
  have c4 : ¬ (x.dl : Int) ≤ (now : Int) := by omega
  have h0 := hB.h0; have h2 := hB.h2
  have HB := Lib.hid hB; have HW := Lib.hid hW; have E0 := Lib.hid e0; have E1 := Lib.hid e1; have E2 := Lib.hid e2; have HBo := Lib.hid hbo
  clear hB hW e0 e1 e2 h hr hbo he a1 a2 a3 a4 hd
  have h0_0 := cell_of_row _ _ 0 _ _ _ h0; have h0_1 := cell_of_row _ _ 1 _ _ _ h0; have h0_f := (fun j => frozen_of_row _ _ j _ _ h0); have h0_l := lt_of_block h0; simp at h0_0 h0_1; have H_h0 := Lib.hid h0; clear h0
  have h2_0 := cell_of_row _ _ 0 _ _ _ h2; have h2_1 := cell_of_row _ _ 1 _ _ _ h2; have h2_f := (fun j => frozen_of_row _ _ j _ _ h2); have h2_l := lt_of_block h2; simp at h2_0 h2_1; have H_h2 := Lib.hid h2; clear h2
  have fin : Pure w ((W1.setCell ⟨b2, 0, none⟩ (.int .u64 now)).setCell ⟨b2, 1, none⟩ (.slice a n c)) :=
    HB.out.pure.then (Mod.set2 b2 0 1 _ _) (fun k hk e => by have := HB.out.z2; omega)
  have HFin := Lib.hid fin
  clear fin
  cases hh : hasB L x.slot with
  | true =>
    have f0 := findR_pos hh
    generalize findR L x.slot = f at *
    have HFi := Lib.hid hfi
    clear hfi hh hy
    go_enter Tryd.func20, Tryd.ntmps20
    go_upto_region 1 with fail
    rw [HW.out, E2.out, E1.out, E0.out]
    go_wp2_with (go_at_call 18; refine Calls.mono HFi.out ?_; rintro e w' ⟨rfl, rfl⟩)
    refine bodyPost_ret (v := .tuple #[.agg #[.int .u64 now, .slice a n c], .int .i64 11]) (by simp [results, Tryd.results20, go_sem, h0_0, h0_1, h0_l, h2_0, h2_1, h2_l]) rfl ⟨rfl, HFin.out⟩
  | false =>
    have f0 := findR_neg hh
    rw [f0] at hfi
    have HFi := Lib.hid hfi
    rw [hh, Bool.false_or] at hy
    rw [hy] at HBo
    clear hfi hh hy f0
    go_enter Tryd.func20, Tryd.ntmps20
    go_upto_region 1 with fail
    rw [HW.out, E2.out, E1.out, E0.out]
    go_wp2_with (first
      | (go_at_call 18; refine Calls.mono HFi.out ?_; rintro e w' ⟨rfl, rfl⟩)
      | (go_at_call 58; refine Calls.mono HBo.out ?_; rintro e w' ⟨rfl, rfl⟩))
    refine bodyPost_ret (v := .tuple #[.agg #[.int .u64 now, .slice a n c], .int .i64 11]) (by simp [results, Tryd.results20, go_sem, h0_0, h0_1, h0_l, h2_0, h2_1, h2_l]) rfl ⟨rfl, HFin.out⟩
theorem rsched_put (h : RdL w a n c L) (hl : n ≤ 4194304) (he : schE now x = 0) (hd : x.dl ≤ 18446744073709551615) (hy : (hasB L x.slot || bornB L x.birth) = false) :
    Calls Tryd.prog 20 #[whV now a n c, tdV x] w fun e w' => ∃ a' c', e = .returned (.tuple #[whV now a' (n + 1) c', .int .i64 0]) ∧ TdRow w' a' c' (putL L x) ∧ FreshV w (.slice a' (n + 1) c') ∧ Pure w w' := by
  unfold whV tdV
  obtain ⟨W1, b0, b1, b2, hW, e0, e1, e2, hB⟩ := box3_ok (w := w) (now := now) (a := a) (n := n) (c := c) (x := x)
  unfold box3 at hW
  obtain ⟨y0, y1, y2⟩ : W1.cell? ⟨b1, 0, none⟩ = some (.int .u32 x.slot) ∧ W1.cell? ⟨b1, 1, none⟩ = some (.int .u64 x.dl) ∧ W1.cell? ⟨b1, 2, none⟩ = some (.int .u64 x.birth) := ⟨by rw [cell_of_row _ _ 0 _ _ _ hB.h1]; rfl, by rw [cell_of_row _ _ 1 _ _ _ hB.h1]; rfl, by rw [cell_of_row _ _ 2 _ _ _ hB.h1]; rfl⟩
  have hr := h.pure hB.pure
  have hfi := rfind_ok hr.rd hr.len (by omega) x.slot
  have hbo := rborn_ok hr.rd hr.len (by omega) x.birth
  obtain ⟨a1, a2, a3, a4⟩ := schE_zero he hd
  have c1 : ¬ (4194304 : Int) ≤ (x.slot : Int) := by omega
  have c2 : ((x.birth : Int) == 0) = false := by simp; omega
  have c3 : ((x.dl : Int) == 18446744073709551615) = false := by simp; omega
  have c4 : ¬ (x.dl : Int) ≤ (now : Int) := by omega
  have hpu := rput_ok hr hl x
  unfold tdV at hpu
  obtain ⟨m, hm⟩ : ∃ m, n + 1 = m := ⟨_, rfl⟩
  rw [hm] at hpu ⊢
  have HM := Lib.hid hm
  clear hm
  rw [Bool.or_eq_false_iff] at hy
  rw [findR_neg hy.1] at hfi
  rw [hy.2] at hbo
  have HB := Lib.hid hB; have HW := Lib.hid hW; have E0 := Lib.hid e0; have E1 := Lib.hid e1; have E2 := Lib.hid e2; have HBo := Lib.hid hbo; have HFi := Lib.hid hfi; have HPu := Lib.hid hpu
  have x0 := whbox hB.h0
  have HLen := Lib.hid h.len
  obtain ⟨x0, x1⟩ := x0
  clear hB hW e0 e1 e2 h hr hbo hfi he a1 a2 a3 a4 hd hpu hy
  go_enter Tryd.func20, Tryd.ntmps20
  go_upto_region 1 with fail
  rw [HW.out, E2.out, E1.out, E0.out]
  go_upto_region 7 with (first
    | (go_at_call 18; refine Calls.mono HFi.out ?_; rintro e w' ⟨rfl, rfl⟩)
    | (go_at_call 58; refine Calls.mono HBo.out ?_; rintro e w' ⟨rfl, rfl⟩))
  go_upto_region 8 with (first
    | (go_at_call 59; refine Calls.mono HPu.out ?_; rintro e w7 ⟨a7, c7, rfl, hr7, hf7, hp7⟩
       have h0 := hp7.heap (fun h => h) HB.out.h0; have HR7 := Lib.hid hr7; have HF7 := Lib.hid hf7; have HP7 := Lib.hid hp7; clear hr7 hf7 hp7 x0 x1
       have h0_0 := cell_of_row _ _ 0 _ _ _ h0; have h0_1 := cell_of_row _ _ 1 _ _ _ h0; have h0_f := (fun j => frozen_of_row _ _ j _ _ h0); have h0_l := lt_of_block h0; simp at h0_0 h0_1; have H_h0 := Lib.hid h0; clear h0
       clear y0 y1 y2 H_h0 HBo HFi HPu HW E0 E1 E2 c1 c2 c3 c4))
  have h07 := HP7.out.heap (fun h => h) HB.out.h0
  have h27 := HP7.out.heap (fun h => h) HB.out.h2
  have p7 := HB.out.pure.trans HP7.out
  have hl7 : ∀ k, k < W1.heap.size → (Value.slice a7 m c7).ownBlock = some k → False := fun k hk e => by have := HF7.out k e; omega
  have hb0 := lt_of_block HB.out.h0; have hb2 := lt_of_block HB.out.h2
  have hr8 := owns_mod HR7.out (Mod.set1 (w := w7) b0 1 (.slice a7 m c7)) (fun k hk e => by subst e; exact hl7 _ hb0 (by rw [← HM.out, ← HLen.out, ← putL_length (x := x)]; exact hk))
  have p8 : Pure w (w7.setCell ⟨b0, 1, none⟩ (.slice a7 m c7)) := p7.then (Mod.set1 b0 1 _) (fun k hk e => by have := HB.out.z0; omega)
  have h08 : (w7.setCell ⟨b0, 1, none⟩ (.slice a7 m c7)).heap[b0]? = some (.cells #[.int .u64 now, .slice a7 m c7] 45 (0, 0)) := by
    rw [heap_setCell_same w7 b0 1 _ _ (.slice a7 m c7) h07]; rfl
  have h28 := (Mod.set1 (w := w7) b0 1 (.slice a7 m c7)).heap (fun e => HB.out.ne02 e.symm) h27
  generalize w7.setCell ⟨b0, 1, none⟩ (.slice a7 m c7) = w8 at *
  have hr9 := owns_mod hr8 (Mod.set2 (w := w8) b2 0 1 (.int .u64 now) (.slice a7 m c7)) (fun k hk e => by subst e; exact hl7 _ hb2 (by rw [← HM.out, ← HLen.out, ← putL_length (x := x)]; exact hk))
  have p9 : Pure w ((w8.setCell ⟨b2, 0, none⟩ (.int .u64 now)).setCell ⟨b2, 1, none⟩ (.slice a7 m c7)) := p8.then (Mod.set2 b2 0 1 _ _) (fun k hk e => by have := HB.out.z2; omega)
  have hfr : FreshV w (.slice a7 m c7) := fun k hk => Nat.le_trans HB.out.pure.size (HF7.out k hk)
  have HR9 := Lib.hid hr9; have HP9 := Lib.hid p9; have HFr := Lib.hid hfr
  clear h07 h27 p7 hl7 hb0 hb2 hr8 p8 hr9 p9 hfr h0_0 h0_1 h0_l
  have h08_0 := cell_of_row _ _ 0 _ _ _ h08; have h08_1 := cell_of_row _ _ 1 _ _ _ h08; have h08_f := (fun j => frozen_of_row _ _ j _ _ h08); have h08_l := lt_of_block h08; simp at h08_0 h08_1; have H_h08 := Lib.hid h08; clear h08
  have h28_0 := cell_of_row _ _ 0 _ _ _ h28; have h28_1 := cell_of_row _ _ 1 _ _ _ h28; have h28_f := (fun j => frozen_of_row _ _ j _ _ h28); have h28_l := lt_of_block h28; simp at h28_0 h28_1; have H_h28 := Lib.hid h28; clear h28
  go_wp2
  refine bodyPost_ret (v := .tuple #[.agg #[.int .u64 now, .slice a7 m c7], .int .i64 0]) (by simp [results, Tryd.results20, go_sem, h28_0, h28_1, h28_l]) rfl ⟨a7, c7, rfl, HR9.out, HFr.out, HP9.out⟩
end
end Go.Proofs.YtlalpenfgkfkpaaDoor

/- The reference of cascade: Schedule in one, Cancel. Conditions: the list is read. -/
namespace Go.Proofs.YtlalpenfgkfkpaaDoor
open Go.RowKit Go.Shelf
set_option maxRecDepth 100000
section
variable {w : World} {a : Option Addr} {n c now tt : Nat} {L : List Td} {x : Td}
theorem rsched_ok (h : RdL w a n c L) (hl : n ≤ 4194304) (h32 : x.slot ≤ 4294967295) (hd : x.dl ≤ 18446744073709551615) (hb : x.birth ≤ 18446744073709551615) :
    Calls Tryd.prog 20 #[whV now a n c, tdV x] w fun e w' => ∃ a' n' c', e = .returned (.tuple #[whV now a' n' c', .int .i64 (schR now L x)]) ∧ RdL w' a' n' c' (schL now L x) ∧ Kept w a n c a' n' c' ∧ Pure w w' := by
  unfold schL
  by_cases he : schE now x = 0
  · cases hy : (hasB L x.slot || bornB L x.birth) with
    | true =>
      have er : schR now L x = 11 := by unfold schR; rw [if_pos he, if_pos hy]
      rw [er, if_neg (by decide)]
      refine (rsched_busy h hl he hd hy).mono ?_
      rintro e w' ⟨rfl, hp⟩
      exact ⟨a, n, c, rfl, h.pure hp, .inl ⟨rfl, rfl, rfl⟩, hp⟩
    | false =>
      have er : schR now L x = 0 := by unfold schR; rw [if_pos he, hy]; rfl
      rw [er, if_pos rfl]
      refine (rsched_put h hl he hd hy).mono ?_
      rintro e w' ⟨a', c', rfl, hr, hf, hp⟩
      have hlen : (putL L x).length = n + 1 := by rw [putL_length, h.len]
      exact ⟨a', n + 1, c', rfl, by rw [← hlen]; exact RdL.of_row hr, .inr hf, hp⟩
  · have er : schR now L x = schE now x := by unfold schR; rw [if_neg he]
    rw [er, if_neg he]
    refine (rsched_er he h32 hd hb).mono ?_
    rintro e w' ⟨rfl, hp⟩
    exact ⟨a, n, c, rfl, h.pure hp, .inl ⟨rfl, rfl, rfl⟩, hp⟩
/-- Three boxes: a wheel, a wheel's result, what is timed. -/
def box3c (w : World) (now : Nat) (a : Option Addr) (n c : Nat) : World := ((w.alloc (.cells #[.int .u64 now, .slice a n c] 45)).alloc (.cells #[.int .u64 0, .slice none 0 0] 45)).alloc (.cells #[.int .u32 0, .int .u64 0, .int .u64 0] 31)
structure Box3c (w W : World) (b0 b1 b2 : Nat) (now : Nat) (a : Option Addr) (n c : Nat) : Prop where
  pure : Pure w W
  z0 : w.heap.size ≤ b0
  z1 : w.heap.size ≤ b1
  z2 : w.heap.size ≤ b2
  h0 : W.heap[b0]? = some (.cells #[.int .u64 now, .slice a n c] 45 (0, 0))
  h1 : W.heap[b1]? = some (.cells #[.int .u64 0, .slice none 0 0] 45 (0, 0))
  h2 : W.heap[b2]? = some (.cells #[.int .u32 0, .int .u64 0, .int .u64 0] 31 (0, 0))
  ne01 : b0 ≠ b1
  ne02 : b0 ≠ b2
  ne12 : b1 ≠ b2
theorem box3c_ok : ∃ W b0 b1 b2, box3c w now a n c = W ∧ w.heap.size = b0 ∧ w.heap.size + 1 = b1 ∧ w.heap.size + 1 + 1 = b2 ∧ Box3c w W b0 b1 b2 now a n c := by
  refine ⟨_, _, _, _, rfl, rfl, rfl, rfl, ?_⟩
  have p1 := (Mod.refl (fun _ => False) w).alloc (.cells #[.int .u64 now, .slice a n c] 45)
  have p2 := (Mod.refl (fun _ => False) (w.alloc (.cells #[.int .u64 now, .slice a n c] 45))).alloc (.cells #[.int .u64 0, .slice none 0 0] 45)
  have p3 := (Mod.refl (fun _ => False) ((w.alloc (.cells #[.int .u64 now, .slice a n c] 45)).alloc (.cells #[.int .u64 0, .slice none 0 0] 45))).alloc (.cells #[.int .u32 0, .int .u64 0, .int .u64 0] 31)
  refine ⟨(p1.trans p2).trans p3, Nat.le_refl _, by omega, by omega, ?_, ?_, ?_, by omega, by omega, by omega⟩
  · exact (p2.trans p3).heap (fun h => h) (heap_new rfl)
  · exact p3.heap (fun h => h) (heap_new (by simp))
  · exact heap_new (by simp)
theorem mod_wt {W : World} {b1 b2 : Nat} (v0 v1 u0 u1 u2 : Value) : Mod (fun k => k = b1 ∨ k = b2) W (((((W.setCell ⟨b1, 0, none⟩ v0).setCell ⟨b1, 1, none⟩ v1).setCell ⟨b2, 0, none⟩ u0).setCell ⟨b2, 1, none⟩ u1).setCell ⟨b2, 2, none⟩ u2) :=
  (((((Mod.refl (fun k => k = b1 ∨ k = b2) W).setCell (p := ⟨b1, 0, none⟩) (fun _ => .inl rfl) _).setCell (p := ⟨b1, 1, none⟩) (fun _ => .inl rfl) _).setCell (p := ⟨b2, 0, none⟩) (fun _ => .inr rfl) _).setCell (p := ⟨b2, 1, none⟩) (fun _ => .inr rfl) _).setCell (p := ⟨b2, 2, none⟩) (fun _ => .inr rfl) _
theorem rcan_no (h : RdL w a n c L) (hl : n ≤ 4194304) {s : Nat} (h32 : s ≤ 4294967295) {er : Int} (he : getT L s = (zTd, er)) (hne : er ≠ 0) :
    Calls Tryd.prog 66 #[whV now a n c, .int .u32 s] w fun e w' => e = .returned (.tuple #[whV now a n c, tdV zTd, .int .i64 er]) ∧ Pure w w' := by
  unfold whV
  obtain ⟨W1, b0, b1, b2, hW, e0, e1, e2, hB⟩ := box3c_ok (w := w) (now := now) (a := a) (n := n) (c := c)
  unfold box3c at hW
  have hr := h.pure hB.pure
  have hfi := rfind_ok hr.rd hr.len (by omega) s
  have h0 := hB.h0; have h1 := hB.h1; have h2 := hB.h2
  have HB := Lib.hid hB; have HW := Lib.hid hW; have E0 := Lib.hid e0; have E1 := Lib.hid e1; have E2 := Lib.hid e2
  clear hB hW e0 e1 e2 h hr
  have h0_0 := cell_of_row _ _ 0 _ _ _ h0; have h0_1 := cell_of_row _ _ 1 _ _ _ h0; have h0_f := (fun j => frozen_of_row _ _ j _ _ h0); have h0_l := lt_of_block h0; simp at h0_0 h0_1; have H_h0 := Lib.hid h0; clear h0
  have h1_0 := cell_of_row _ _ 0 _ _ _ h1; have h1_1 := cell_of_row _ _ 1 _ _ _ h1; have h1_f := (fun j => frozen_of_row _ _ j _ _ h1); have h1_l := lt_of_block h1; simp at h1_0 h1_1; have H_h1 := Lib.hid h1; clear h1
  have h2_0 := cell_of_row _ _ 0 _ _ _ h2; have h2_1 := cell_of_row _ _ 1 _ _ _ h2; have h2_2 := cell_of_row _ _ 2 _ _ _ h2; have h2_f := (fun j => frozen_of_row _ _ j _ _ h2); have h2_l := lt_of_block h2; simp at h2_0 h2_1 h2_2; have H_h2 := Lib.hid h2; clear h2
  have fin : Pure w (((((W1.setCell ⟨b1, 0, none⟩ (.int .u64 now)).setCell ⟨b1, 1, none⟩ (.slice a n c)).setCell ⟨b2, 0, none⟩ (.int .u32 0)).setCell ⟨b2, 1, none⟩ (.int .u64 0)).setCell ⟨b2, 2, none⟩ (.int .u64 0)) :=
    HB.out.pure.then (mod_wt _ _ _ _ _) (fun k hk e => by have := HB.out.z2; have := HB.out.z1; rcases e with e | e <;> omega)
  have HFin := Lib.hid fin
  have n12 := HB.out.ne12
  clear fin
  by_cases hs : s < 4194304
  · have hh : hasB L s = false := by
      cases hh : hasB L s with
      | false => rfl
      | true =>
        obtain ⟨x, h1, h2, h3, h4⟩ := findI_get (findI_lt.2 hh)
        rw [getT_hit hs h3] at he
        injection he with he1 he2
        exact absurd he2.symm hne
    have e9 : er = 9 := by
      rw [getT_miss hs (find_none hh)] at he
      injection he with he1 he2
      exact he2.symm
    subst e9
    rw [findR_neg hh] at hfi
    have HFi := Lib.hid hfi
    have hs' : ¬ (4194304 : Int) ≤ (s : Int) := by omega
    clear hfi hh he hne
    go_enter Tryd.func66, Tryd.ntmps66
    go_upto_region 1 with fail
    rw [HW.out, E2.out, E1.out, E0.out]
    go_wp2_with (go_at_call 18; refine Calls.mono HFi.out ?_; rintro e w' ⟨rfl, rfl⟩)
    refine bodyPost_ret (v := .tuple #[.agg #[.int .u64 now, .slice a n c], tdV zTd, .int .i64 9]) (by simp [results, Tryd.results66, go_sem, h1_0, h1_1, h1_l, h2_0, h2_1, h2_2, h2_l, n12, n12.symm, tdV, zTd]) rfl ⟨rfl, HFin.out⟩
  · have e2 : er = 2 := by
      rw [getT_arg hs] at he
      injection he with he1 he2
      exact he2.symm
    subst e2
    have hs' : (4194304 : Int) ≤ (s : Int) := by omega
    clear hfi he hne
    go_enter Tryd.func66, Tryd.ntmps66
    go_upto_region 1 with fail
    rw [HW.out, E2.out, E1.out, E0.out]
    go_wp2
    refine bodyPost_ret (v := .tuple #[.agg #[.int .u64 now, .slice a n c], tdV zTd, .int .i64 2]) (by simp [results, Tryd.results66, go_sem, h1_0, h1_1, h1_l, h2_0, h2_1, h2_2, h2_l, n12, n12.symm, tdV, zTd]) rfl ⟨rfl, HFin.out⟩
end
end Go.Proofs.YtlalpenfgkfkpaaDoor

/- The reference of cascade: Cancel. Conditions: the list is read. -/
namespace Go.Proofs.YtlalpenfgkfkpaaDoor
open Go.RowKit Go.Shelf
set_option maxRecDepth 100000
section
variable {w : World} {a : Option Addr} {n c now tt : Nat} {L : List Td} {x : Td}
set_option maxHeartbeats 1000000 in
theorem rcan_hit (h : RdL w a n c L) (hl : n ≤ 4194304) {s : Nat} (hs : s < 4194304) (hh : hasB L s = true) (hx : L[findI L s]? = some x) :
    Calls Tryd.prog 66 #[whV now a n c, .int .u32 s] w fun e w' => ∃ a' c', e = .returned (.tuple #[whV now a' (n - 1) c', tdV x, .int .i64 0]) ∧ TdRow w' a' c' (outI L s) ∧ FreshV w (.slice a' (n - 1) c') ∧ Pure w w' := by
  unfold whV
  obtain ⟨i, hi⟩ : ∃ i, findI L s = i := ⟨_, rfl⟩
  have hfi' : findR L s = (i : Nat) := by unfold findR; rw [if_pos hh, hi]
  unfold outI
  rw [hi] at hx ⊢
  obtain ⟨W1, b0, b1, b2, hW, e0, e1, e2, hB⟩ := box3c_ok (w := w) (now := now) (a := a) (n := n) (c := c)
  unfold box3c at hW
  have hr := h.pure hB.pure
  have hfi := rfind_ok hr.rd hr.len (by omega) s
  rw [hfi'] at hfi
  have hin : i < n := by have := (List.getElem?_eq_some_iff.1 hx).1; rw [h.len] at this; exact this
  obtain ⟨ad, rfl, z0, z1, z2⟩ := td_read hr.rd hx
  have hx0 := whbox hB.h0
  obtain ⟨x0, x1⟩ := hx0
  have hlt' : (i : Int) < (n : Int) := by omega
  have i0 : (0 : Int) ≤ (i : Int) := by omega
  have hs' : ¬ (4194304 : Int) ≤ (s : Int) := by omega
  obtain ⟨m, hm⟩ : ∃ m, n - 1 = m := ⟨_, rfl⟩
  rw [hm]
  have HM := Lib.hid hm
  clear hm
  have HB := Lib.hid hB; have HW := Lib.hid hW; have E0 := Lib.hid e0; have E1 := Lib.hid e1; have E2 := Lib.hid e2; have HR := Lib.hid hr; have HFi := Lib.hid hfi
  clear hB hW e0 e1 e2 h hr hfi hfi' hi hh hx
  go_enter Tryd.func66, Tryd.ntmps66
  go_upto_region 1 with fail
  rw [HW.out, E2.out, E1.out, E0.out]
  clear HW E0 E1 E2
  go_upto_region 3 with fail
  have hz := And.intro z0 (And.intro z1 z2)
  have HZ := Lib.hid hz; have HI := Lib.hid hin
  clear hs' z0 z1 z2 hz hin hlt'
  go_upto_region 6 with (go_at_call 18; refine Calls.mono HFi.out ?_; rintro e w' ⟨rfl, rfl⟩)
  obtain ⟨z0, z1, z2⟩ := HZ.out
  have hlt' : (i : Int) < (n : Int) := by have := HI.out; omega
  clear HFi
  go_upto_region 7 with fail
  have ha2 : Pure W1 (W1.alloc (.cells #[.int .u32 x.slot, .int .u64 x.dl, .int .u64 x.birth] 31)) := (Mod.refl _ W1).alloc _
  have h32 := heap_new (w := W1) (o := .cells #[.int .u32 x.slot, .int .u64 x.dl, .int .u64 x.birth] 31 (0, 0)) rfl
  obtain ⟨b3, hb3⟩ : ∃ b3, W1.heap.size = b3 := ⟨_, rfl⟩
  rw [hb3] at h32 ⊢
  generalize W1.alloc (.cells #[.int .u32 x.slot, .int .u64 x.dl, .int .u64 x.birth] 31) = W2 at *
  have hou := rout_ok (i := i) (HR.out.pure ha2).rd HR.out.len hl HR.out.cap HI.out
  have hm := HM.out
  rw [hm] at hou
  have x0 := ha2.cell (fun h => h) x0
  have x1 := ha2.cell (fun h => h) x1
  have hel : (L.eraseIdx i).length = m := by rw [List.length_eraseIdx, HR.out.len, if_pos HI.out, hm]
  have HOu := Lib.hid hou; have HEl := Lib.hid hel; have HB3 := Lib.hid hb3; have H32 := Lib.hid h32; have HA2 := Lib.hid ha2
  clear hou hm hel hb3 h32 ha2 z0 z1 z2
  go_upto_region 8 with (first
    | (go_at_call 92; refine Calls.mono HOu.out ?_; rintro e w7 ⟨a7, c7, rfl, hr7, hf7, hp7⟩
       have h0 := hp7.heap (fun h => h) (HA2.out.heap (fun h => h) HB.out.h0)
       have HR7 := Lib.hid hr7; have HF7 := Lib.hid hf7; have HP7 := Lib.hid hp7
       clear hr7 hf7 hp7 x0 x1
       have h0_0 := cell_of_row _ _ 0 _ _ _ h0; have h0_1 := cell_of_row _ _ 1 _ _ _ h0; have h0_f := (fun j => frozen_of_row _ _ j _ _ h0); have h0_l := lt_of_block h0; simp at h0_0 h0_1; have H_h0 := Lib.hid h0; clear h0
       clear H_h0 HOu i0 hlt'))
  have p27 := HA2.out.trans HP7.out
  have h07 := p27.heap (fun h => h) HB.out.h0
  have h17 := p27.heap (fun h => h) HB.out.h1
  have h27 := p27.heap (fun h => h) HB.out.h2
  have h37 := HP7.out.heap (fun h => h) H32.out
  have p7 := HB.out.pure.trans p27
  have hl7 : ∀ k, k < W1.heap.size → (Value.slice a7 m c7).ownBlock = some k → False := fun k hk e => by have := HF7.out k e; have := HA2.out.size; omega
  have hb0 := lt_of_block HB.out.h0; have hb1 := lt_of_block HB.out.h1; have hb2 := lt_of_block HB.out.h2
  have n03 : b0 ≠ b3 := by have := HB3.out; omega
  have n13 : b1 ≠ b3 := by have := HB3.out; omega
  have n23 : b2 ≠ b3 := by have := HB3.out; omega
  have hr8 := owns_mod HR7.out (Mod.set1 (w := w7) b0 1 (.slice a7 m c7)) (fun k hk e => by subst e; exact hl7 _ hb0 (by rw [← HEl.out]; exact hk))
  have p8 : Pure w (w7.setCell ⟨b0, 1, none⟩ (.slice a7 m c7)) := p7.then (Mod.set1 b0 1 _) (fun k hk e => by have := HB.out.z0; omega)
  have h08 : (w7.setCell ⟨b0, 1, none⟩ (.slice a7 m c7)).heap[b0]? = some (.cells #[.int .u64 now, .slice a7 m c7] 45 (0, 0)) := by
    rw [heap_setCell_same w7 b0 1 _ _ (.slice a7 m c7) h07]; rfl
  have h18 := (Mod.set1 (w := w7) b0 1 (.slice a7 m c7)).heap (fun e => HB.out.ne01 e.symm) h17
  have h28 := (Mod.set1 (w := w7) b0 1 (.slice a7 m c7)).heap (fun e => HB.out.ne02 e.symm) h27
  have h38 := (Mod.set1 (w := w7) b0 1 (.slice a7 m c7)).heap (fun e => n03 e.symm) h37
  generalize w7.setCell ⟨b0, 1, none⟩ (.slice a7 m c7) = w8 at *
  have n12 := HB.out.ne12
  have hmw := mod_wt (W := w8) (b1 := b1) (b2 := b2) (.int .u64 now) (.slice a7 m c7) (.int .u32 x.slot) (.int .u64 x.dl) (.int .u64 x.birth)
  have p9 := (p8.then hmw (fun k hk e => by have := HB.out.z2; have := HB.out.z1; rcases e with e | e <;> omega)).drew
  have hr9 := owns_mod (w := w8) hr8 (mod_wt (b1 := b1) (b2 := b2) (.int .u64 now) (.slice a7 m c7) (.int .u32 x.slot) (.int .u64 x.dl) (.int .u64 x.birth)) (fun k hk e => by
    rcases e with e | e
    · subst e; exact hl7 _ hb1 (by rw [← HEl.out]; exact hk)
    · subst e; exact hl7 _ hb2 (by rw [← HEl.out]; exact hk))
  have hfr : FreshV w (.slice a7 m c7) := fun k hk => Nat.le_trans (HB.out.pure.trans HA2.out).size (HF7.out k hk)
  have hr10 := owns_mod hr9 (Mod.refl (fun _ => False) _).drew (fun _ _ h => h)
  have HR9 := Lib.hid hr10; have HFr := Lib.hid hfr; have HP9 := Lib.hid p9
  clear h07 h17 h27 h37 p7 hl7 hb0 hb1 hb2 hr8 p8 p9 hmw hr9 hr10 hfr h0_0 h0_1 h0_l p27 n03
  have h08_0 := cell_of_row _ _ 0 _ _ _ h08; have h08_1 := cell_of_row _ _ 1 _ _ _ h08; have h08_f := (fun j => frozen_of_row _ _ j _ _ h08); have h08_l := lt_of_block h08; simp at h08_0 h08_1; have H_h08 := Lib.hid h08; clear h08
  have h18_0 := cell_of_row _ _ 0 _ _ _ h18; have h18_1 := cell_of_row _ _ 1 _ _ _ h18; have h18_f := (fun j => frozen_of_row _ _ j _ _ h18); have h18_l := lt_of_block h18; simp at h18_0 h18_1; have H_h18 := Lib.hid h18; clear h18
  have h28_0 := cell_of_row _ _ 0 _ _ _ h28; have h28_1 := cell_of_row _ _ 1 _ _ _ h28; have h28_2 := cell_of_row _ _ 2 _ _ _ h28; have h28_f := (fun j => frozen_of_row _ _ j _ _ h28); have h28_l := lt_of_block h28; simp at h28_0 h28_1 h28_2; have H_h28 := Lib.hid h28; clear h28
  have h38_0 := cell_of_row _ _ 0 _ _ _ h38; have h38_1 := cell_of_row _ _ 1 _ _ _ h38; have h38_2 := cell_of_row _ _ 2 _ _ _ h38; have h38_f := (fun j => frozen_of_row _ _ j _ _ h38); have h38_l := lt_of_block h38; simp at h38_0 h38_1 h38_2; have H_h38 := Lib.hid h38; clear h38
  go_region
  go_wp2
  refine bodyPost_ret (v := .tuple #[.agg #[.int .u64 now, .slice a7 m c7], tdV x, .int .i64 0]) (by simp [results, Tryd.results66, go_sem, h18_0, h18_1, h18_l, h28_0, h28_1, h28_2, h28_l, n12, n12.symm, tdV]) rfl ⟨a7, c7, rfl, HR9.out, HFr.out, HP9.out⟩
/-- Cancel. -/
theorem rcan_ok (h : RdL w a n c L) (hl : n ≤ 4194304) {s : Nat} (h32 : s ≤ 4294967295) :
    Calls Tryd.prog 66 #[whV now a n c, .int .u32 s] w fun e w' => ∃ a' n' c', e = .returned (.tuple #[whV now a' n' c', tdV (getT L s).1, .int .i64 (getT L s).2]) ∧ RdL w' a' n' c' (canL L s) ∧ Kept w a n c a' n' c' ∧ Pure w w' := by
  unfold canL
  rcases getT_cases L s with ⟨hs, hh, x, e1, rfl, e2, e3, e4⟩ | ⟨_, er, e1, e2⟩
  · rw [e1, if_pos rfl]
    refine (rcan_hit h hl hs hh e2).mono ?_
    rintro e w' ⟨a', c', rfl, hr, hf, hp⟩
    have hlt := (List.getElem?_eq_some_iff.1 e2).1
    have hlen : (outI L x.slot).length = n - 1 := by unfold outI; rw [List.length_eraseIdx, if_pos hlt, h.len]
    exact ⟨a', n - 1, c', rfl, by rw [← hlen]; exact RdL.of_row hr, .inr hf, hp⟩
  · rw [e1]
    dsimp only
    rw [if_neg e2]
    refine (rcan_no h hl h32 e1 e2).mono ?_
    rintro e w' ⟨rfl, hp⟩
    exact ⟨a, n, c, rfl, h.pure hp, .inl ⟨rfl, rfl, rfl⟩, hp⟩
end
end Go.Proofs.YtlalpenfgkfkpaaDoor

/- The reference of cascade: Reschedule. Conditions: the list is read. -/
namespace Go.Proofs.YtlalpenfgkfkpaaDoor
open Go.RowKit Go.Shelf
set_option maxRecDepth 100000
section
variable {w : World} {a : Option Addr} {n c now : Nat} {L : List Td} {x : Td}
/-- Two boxes: a wheel, a wheel's result. -/
def box2 (w : World) (now : Nat) (a : Option Addr) (n c : Nat) : World := (w.alloc (.cells #[.int .u64 now, .slice a n c] 45)).alloc (.cells #[.int .u64 0, .slice none 0 0] 45)
structure Box2 (w W : World) (b0 b1 : Nat) (now : Nat) (a : Option Addr) (n c : Nat) : Prop where
  pure : Pure w W
  z0 : w.heap.size ≤ b0
  z1 : w.heap.size ≤ b1
  h0 : W.heap[b0]? = some (.cells #[.int .u64 now, .slice a n c] 45 (0, 0))
  h1 : W.heap[b1]? = some (.cells #[.int .u64 0, .slice none 0 0] 45 (0, 0))
  ne01 : b0 ≠ b1
theorem box2_ok : ∃ W b0 b1, box2 w now a n c = W ∧ w.heap.size = b0 ∧ w.heap.size + 1 = b1 ∧ Box2 w W b0 b1 now a n c := by
  refine ⟨_, _, _, rfl, rfl, rfl, ?_⟩
  have p1 := (Mod.refl (fun _ => False) w).alloc (.cells #[.int .u64 now, .slice a n c] 45)
  have p2 := (Mod.refl (fun _ => False) (w.alloc (.cells #[.int .u64 now, .slice a n c] 45))).alloc (.cells #[.int .u64 0, .slice none 0 0] 45)
  refine ⟨p1.trans p2, Nat.le_refl _, by omega, ?_, ?_, by omega⟩
  · exact p2.heap (fun h => h) (heap_new rfl)
  · exact heap_new (by simp)
theorem Kept.mono {w1 w2 : World} {a1 : Option Addr} {n1 c1 : Nat} (h : Kept w2 a n c a1 n1 c1) (hs : w1.heap.size ≤ w2.heap.size) : Kept w1 a n c a1 n1 c1 := by
  rcases h with h | h
  · exact .inl h
  · exact .inr (fun g hg => Nat.le_trans hs (h g hg))
theorem Kept.trans {a1 a2 : Option Addr} {n1 c1 n2 c2 : Nat} (h : Kept w a n c a1 n1 c1) (h' : Kept w a1 n1 c1 a2 n2 c2) : Kept w a n c a2 n2 c2 := by
  rcases h' with ⟨rfl, rfl, rfl⟩ | h'
  · exact h
  · exact .inr h'
theorem Kept.rd {a1 : Option Addr} {n1 c1 g : Nat} (h : Kept w a n c a1 n1 c1) (hg : rdBlock (.slice a1 n1 c1) = some g) : rdBlock (.slice a n c) = some g ∨ w.heap.size ≤ g := by
  rcases h with ⟨rfl, rfl, rfl⟩ | h
  · exact .inl hg
  · exact .inr (h g (rdBlock_own hg))
theorem RdL.frame {w' : World} {S : Nat → Prop} (h : RdL w a n c L) (hm : Mod S w w') (hn : ∀ g, rdBlock (.slice a n c) = some g → ¬ S g) : RdL w' a n c L := ⟨h.rd.frame hm hn, h.len, h.cap, h.nil⟩
theorem RdL.lt (h : RdL w a n c L) {g : Nat} (hg : rdBlock (.slice a n c) = some g) : g < w.heap.size := h.rd.lt (by decide) hg
theorem rres_er {s dl : Nat} (he : atE now s dl ≠ 0) :
    Calls Tryd.prog 67 #[whV now a n c, .int .u32 s, .int .u64 dl] w fun e w' => e = .returned (.tuple #[whV now a n c, .int .i64 (atE now s dl)]) ∧ Pure w w' := by
  unfold whV
  obtain ⟨W1, b0, b1, hW, e0, e1, hB⟩ := box2_ok (w := w) (now := now) (a := a) (n := n) (c := c)
  unfold box2 at hW
  have h0 := hB.h0; have h1 := hB.h1
  have HB := Lib.hid hB; have HW := Lib.hid hW; have E0 := Lib.hid e0; have E1 := Lib.hid e1
  clear hB hW e0 e1
  have h0_0 := cell_of_row _ _ 0 _ _ _ h0; have h0_1 := cell_of_row _ _ 1 _ _ _ h0; have h0_f := (fun j => frozen_of_row _ _ j _ _ h0); have h0_l := lt_of_block h0; simp at h0_0 h0_1; have H_h0 := Lib.hid h0; clear h0
  have h1_0 := cell_of_row _ _ 0 _ _ _ h1; have h1_1 := cell_of_row _ _ 1 _ _ _ h1; have h1_f := (fun j => frozen_of_row _ _ j _ _ h1); have h1_l := lt_of_block h1; simp at h1_0 h1_1; have H_h1 := Lib.hid h1; clear h1
  have fin : Pure w ((W1.setCell ⟨b1, 0, none⟩ (.int .u64 now)).setCell ⟨b1, 1, none⟩ (.slice a n c)) :=
    HB.out.pure.then (Mod.set2 b1 0 1 _ _) (fun k hk e => by have := HB.out.z1; omega)
  have HFin := Lib.hid fin
  clear fin
  unfold atE at he ⊢
  by_cases hs : s < 4194304
  · have hs' : ¬ (4194304 : Int) ≤ (s : Int) := by omega
    rw [if_pos hs] at he ⊢
    by_cases hm : dl = 18446744073709551615
    · rw [if_pos hm]
      have e1 : ((dl : Int) == 18446744073709551615) = true := by simp; omega
      clear he hm
      go_enter Tryd.func67, Tryd.ntmps67
      go_upto_region 1 with fail
      rw [HW.out, E1.out, E0.out]
      go_wp2
      refine bodyPost_ret (v := .tuple #[.agg #[.int .u64 now, .slice a n c], .int .i64 2]) (by simp [results, Tryd.results67, go_sem, h0_0, h0_1, h0_l, h1_0, h1_1, h1_l]) rfl ⟨rfl, HFin.out⟩
    · rw [if_neg hm] at he ⊢
      have e1 : ((dl : Int) == 18446744073709551615) = false := by simp; omega
      by_cases hn : dl ≤ now
      · rw [if_pos hn]
        have hn' : (dl : Int) ≤ (now : Int) := by omega
        clear he hm hn
        go_enter Tryd.func67, Tryd.ntmps67
        go_upto_region 1 with fail
        rw [HW.out, E1.out, E0.out]
        go_wp2
        refine bodyPost_ret (v := .tuple #[.agg #[.int .u64 now, .slice a n c], .int .i64 3]) (by simp [results, Tryd.results67, go_sem, h0_0, h0_1, h0_l, h1_0, h1_1, h1_l]) rfl ⟨rfl, HFin.out⟩
      · rw [if_neg hn] at he
        exact absurd rfl he
  · have hs' : (4194304 : Int) ≤ (s : Int) := by omega
    rw [if_neg hs]
    clear he
    go_enter Tryd.func67, Tryd.ntmps67
    go_upto_region 1 with fail
    rw [HW.out, E1.out, E0.out]
    go_wp2
    refine bodyPost_ret (v := .tuple #[.agg #[.int .u64 now, .slice a n c], .int .i64 2]) (by simp [results, Tryd.results67, go_sem, h0_0, h0_1, h0_l, h1_0, h1_1, h1_l]) rfl ⟨rfl, HFin.out⟩
theorem rres_no (h : RdL w a n c L) (hl : n ≤ 4194304) {s dl : Nat} (h32 : s ≤ 4294967295) (hd : dl ≤ 18446744073709551615) (ha : atE now s dl = 0) {er : Int} (he : getT L s = (zTd, er)) (hne : er ≠ 0) :
    Calls Tryd.prog 67 #[whV now a n c, .int .u32 s, .int .u64 dl] w fun e w' => e = .returned (.tuple #[whV now a n c, .int .i64 er]) ∧ Pure w w' := by
  obtain ⟨W1, b0, b1, hW, e0, e1, hB⟩ := box2_ok (w := w) (now := now) (a := a) (n := n) (c := c)
  unfold box2 at hW
  have hca := rcan_no (now := now) (h.pure hB.pure) hl h32 he hne
  unfold whV tdV zTd at hca
  unfold whV
  obtain ⟨a1, a2, a3⟩ := atE_zero ha hd
  have c1 : ¬ (4194304 : Int) ≤ (s : Int) := by omega
  have c3 : ((dl : Int) == 18446744073709551615) = false := by simp; omega
  have c4 : ¬ (dl : Int) ≤ (now : Int) := by omega
  have c5 : (er == 0) = false := by simpa using hne
  have h0 := hB.h0
  have HB := Lib.hid hB; have HW := Lib.hid hW; have E0 := Lib.hid e0; have E1 := Lib.hid e1; have HCa := Lib.hid hca
  clear hB hW e0 e1 hca ha a1 a2 a3 he hne h
  have h0_0 := cell_of_row _ _ 0 _ _ _ h0; have h0_1 := cell_of_row _ _ 1 _ _ _ h0; have h0_f := (fun j => frozen_of_row _ _ j _ _ h0); have h0_l := lt_of_block h0; simp at h0_0 h0_1; have H_h0 := Lib.hid h0; clear h0
  go_enter Tryd.func67, Tryd.ntmps67
  go_upto_region 1 with fail
  rw [HW.out, E1.out, E0.out]
  clear HW E0 E1
  go_upto_region 5 with fail
  clear c1 c3 c4
  go_upto_region 6 with (first
    | (go_at_call 66; refine Calls.mono HCa.out ?_; rintro e w5 ⟨rfl, hp5⟩
       have HP5 := Lib.hid hp5
       clear hp5 h0_0 h0_1 h0_l H_h0))
  have pa := (Mod.refl (fun _ => False) w5).alloc (.cells #[.int .u64 now, .slice a n c] 45)
  have pb := (Mod.refl (fun _ => False) (w5.alloc (.cells #[.int .u64 now, .slice a n c] 45))).alloc (.cells #[.int .u32 0, .int .u64 0, .int .u64 0] 31)
  have p5 := HP5.out.trans (pa.trans pb)
  have h0 := p5.heap (fun h => h) HB.out.h0
  have h1 := p5.heap (fun h => h) HB.out.h1
  have p6 := HB.out.pure.trans p5
  generalize (w5.alloc (.cells #[.int .u64 now, .slice a n c] 45)).alloc (.cells #[.int .u32 0, .int .u64 0, .int .u64 0] 31) = w6 at *
  have fin : Pure w ((w6.setCell ⟨b1, 0, none⟩ (.int .u64 now)).setCell ⟨b1, 1, none⟩ (.slice a n c)) :=
    p6.then (Mod.set2 b1 0 1 _ _) (fun k hk e => by have := HB.out.z1; omega)
  have HFin := Lib.hid fin
  clear fin pa pb p5 p6
  have h0_0 := cell_of_row _ _ 0 _ _ _ h0; have h0_1 := cell_of_row _ _ 1 _ _ _ h0; have h0_f := (fun j => frozen_of_row _ _ j _ _ h0); have h0_l := lt_of_block h0; simp at h0_0 h0_1; have H_h0 := Lib.hid h0; clear h0
  have h1_0 := cell_of_row _ _ 0 _ _ _ h1; have h1_1 := cell_of_row _ _ 1 _ _ _ h1; have h1_f := (fun j => frozen_of_row _ _ j _ _ h1); have h1_l := lt_of_block h1; simp at h1_0 h1_1; have H_h1 := Lib.hid h1; clear h1
  go_wp2
  refine bodyPost_ret (v := .tuple #[.agg #[.int .u64 now, .slice a n c], .int .i64 er]) (by simp [results, Tryd.results67, go_sem, h1_0, h1_1, h1_l]) rfl ⟨rfl, HFin.out⟩
set_option maxHeartbeats 1000000 in
theorem rres_hit (h : RdL w a n c L) (hl : n ≤ 4194304) {s dl xd xb : Nat} (h32 : s ≤ 4294967295) (hd : dl ≤ 18446744073709551615) (ha : atE now s dl = 0) (he : getT L s = (⟨s, xd, xb⟩, 0)) (hxb : xb ≤ 18446744073709551615) :
    Calls Tryd.prog 67 #[whV now a n c, .int .u32 s, .int .u64 dl] w fun e w' => ∃ a' n' c', e = .returned (.tuple #[whV now a' n' c', .int .i64 (schR now (canL L s) ⟨s, dl, xb⟩)]) ∧ RdL w' a' n' c' (schL now (canL L s) ⟨s, dl, xb⟩) ∧ Kept w a n c a' n' c' ∧ Pure w w' := by
  obtain ⟨W1, b0, b1, hW, e0, e1, hB⟩ := box2_ok (w := w) (now := now) (a := a) (n := n) (c := c)
  unfold box2 at hW
  have hca := rcan_ok (now := now) (h.pure hB.pure) hl (s := s) h32
  rw [he] at hca
  have hsc := fun (W : World) (a' : Option Addr) (n' c' : Nat) (hr : RdL W a' n' c' (canL L s)) (hn : n' ≤ 4194304) => rsched_ok (now := now) (x := ⟨s, dl, xb⟩) hr hn h32 hd hxb
  have hcl : (canL L s).length ≤ 4194304 := by
    unfold canL outI
    have := h.len
    split
    · rw [List.length_eraseIdx]; split <;> omega
    · omega
  unfold whV tdV at hca hsc
  unfold whV
  obtain ⟨a1, a2, a3⟩ := atE_zero ha hd
  have c1 : ¬ (4194304 : Int) ≤ (s : Int) := by omega
  have c3 : ((dl : Int) == 18446744073709551615) = false := by simp; omega
  have c4 : ¬ (dl : Int) ≤ (now : Int) := by omega
  have h0 := hB.h0
  obtain ⟨er, her⟩ : ∃ er, schR now (canL L s) ⟨s, dl, xb⟩ = er := ⟨_, rfl⟩
  obtain ⟨Lr, hLr⟩ : ∃ Lr, schL now (canL L s) ⟨s, dl, xb⟩ = Lr := ⟨_, rfl⟩
  rw [her, hLr] at hsc ⊢
  have hlt := fun g hg => h.lt (g := g) hg
  have HLt := Lib.hid hlt
  clear hlt
  have HB := Lib.hid hB; have HW := Lib.hid hW; have E0 := Lib.hid e0; have E1 := Lib.hid e1; have HCa := Lib.hid hca; have HSc := Lib.hid hsc; have HCl := Lib.hid hcl
  clear hB hW e0 e1 hca ha a1 a2 a3 he h hsc hcl her hLr
  have h0_0 := cell_of_row _ _ 0 _ _ _ h0; have h0_1 := cell_of_row _ _ 1 _ _ _ h0; have h0_f := (fun j => frozen_of_row _ _ j _ _ h0); have h0_l := lt_of_block h0; simp at h0_0 h0_1; have H_h0 := Lib.hid h0; clear h0
  go_enter Tryd.func67, Tryd.ntmps67
  go_upto_region 1 with fail
  rw [HW.out, E1.out, E0.out]
  clear HW E0 E1
  go_upto_region 5 with fail
  clear c1 c3 c4
  go_upto_region 6 with (first
    | (go_at_call 66; refine Calls.mono HCa.out ?_; rintro e w5 ⟨a5, n5, c5, rfl, hr5, hk5, hp5⟩
       have HP5 := Lib.hid hp5; have HR5 := Lib.hid hr5; have HK5 := Lib.hid hk5
       clear hp5 hr5 hk5 h0_0 h0_1 h0_l H_h0))
  have pa := (Mod.refl (fun _ => False) w5).alloc (.cells #[.int .u64 now, .slice a5 n5 c5] 45)
  have pb := (Mod.refl (fun _ => False) (w5.alloc (.cells #[.int .u64 now, .slice a5 n5 c5] 45))).alloc (.cells #[.int .u32 s, .int .u64 xd, .int .u64 xb] 31)
  have h3 := pb.heap (fun h => h) (heap_new (w := w5) (o := .cells #[.int .u64 now, .slice a5 n5 c5] 45 (0, 0)) rfl)
  have h4 : ((w5.alloc (.cells #[.int .u64 now, .slice a5 n5 c5] 45)).alloc (.cells #[.int .u32 s, .int .u64 xd, .int .u64 xb] 31)).heap[w5.heap.size + 1]? = some (.cells #[.int .u32 s, .int .u64 xd, .int .u64 xb] 31 (0, 0)) := heap_new (by simp)
  have pab := pa.trans pb
  clear pa pb
  obtain ⟨b3, hb3⟩ : ∃ b, w5.heap.size = b := ⟨_, rfl⟩
  rw [hb3] at h3 h4 ⊢
  obtain ⟨b4, hb4⟩ : ∃ b, b3 + 1 = b := ⟨_, rfl⟩
  rw [hb4] at h4 ⊢
  generalize (w5.alloc (.cells #[.int .u64 now, .slice a5 n5 c5] 45)).alloc (.cells #[.int .u32 s, .int .u64 xd, .int .u64 xb] 31) = w6 at *
  have hw1 := HP5.out.size
  have hb0 := lt_of_block HB.out.h0; have hb1 := lt_of_block HB.out.h1
  have p6 := HP5.out.trans pab
  have n34 : b3 ≠ b4 := by omega
  have n14 : b1 ≠ b4 := by omega
  have n13 : b1 ≠ b3 := by omega
  have h16 := p6.heap (fun h => h) HB.out.h1
  have h8 : (w6.setCell ⟨b4, 1, none⟩ (.int .u64 dl)).heap[b4]? = some (.cells #[.int .u32 s, .int .u64 dl, .int .u64 xb] 31 (0, 0)) := by
    rw [heap_setCell_same w6 b4 1 _ _ (.int .u64 dl) h4]; rfl
  have hms := Mod.set1 (w := w6) b4 1 (.int .u64 dl)
  have h38 := hms.heap (fun e => n34 e) h3
  have h18 := hms.heap (fun e => n14 e) h16
  have hw0 := HB.out.pure.size
  have p8 : Pure W1 (w6.setCell ⟨b4, 1, none⟩ (.int .u64 dl)) := p6.then hms (fun k hk e => by omega)
  have p58 : Pure w5 (w6.setCell ⟨b4, 1, none⟩ (.int .u64 dl)) := pab.then hms (fun k hk e => by omega)
  have hr8 := HR5.out.pure p58
  have HR8 := Lib.hid hr8; have HP8 := Lib.hid p8; have H38 := Lib.hid h38; have H18 := Lib.hid h18; have H8 := Lib.hid h8; have HP58 := Lib.hid p58
  clear hr8 p8 h38 h18 h8 hms h16 p6 pab hb3 hb4 hb0 hb1 hw1 hw0 p58 h3
  have h4_0 := cell_of_row _ _ 0 _ _ _ h4; have h4_1 := cell_of_row _ _ 1 _ _ _ h4; have h4_2 := cell_of_row _ _ 2 _ _ _ h4; have h4_f := (fun j => frozen_of_row _ _ j _ _ h4); have h4_l := lt_of_block h4; simp at h4_0 h4_1 h4_2; have H_h4 := Lib.hid h4; clear h4
  go_upto_region 9 with fail
  clear h4_0 h4_1 h4_2 h4_l H_h4
  generalize w6.setCell ⟨b4, 1, none⟩ (.int .u64 dl) = w8 at *
  have h38 := H38.out; have h18 := H18.out; have h8 := H8.out
  have h38_0 := cell_of_row _ _ 0 _ _ _ h38; have h38_1 := cell_of_row _ _ 1 _ _ _ h38; have h38_f := (fun j => frozen_of_row _ _ j _ _ h38); have h38_l := lt_of_block h38; simp at h38_0 h38_1; have H_h38 := Lib.hid h38; clear h38
  have h8_0 := cell_of_row _ _ 0 _ _ _ h8; have h8_1 := cell_of_row _ _ 1 _ _ _ h8; have h8_2 := cell_of_row _ _ 2 _ _ _ h8; have h8_f := (fun j => frozen_of_row _ _ j _ _ h8); have h8_l := lt_of_block h8; simp at h8_0 h8_1 h8_2; have H_h8 := Lib.hid h8; clear h8
  have hsc := HSc.out w8 a5 n5 c5 HR8.out (by rw [← HR8.out.len]; exact HCl.out)
  have HSc2 := Lib.hid hsc
  clear hsc HSc h18
  go_wp2_with (first
    | (go_at_call 20; refine Calls.mono HSc2.out ?_; rintro e w9 ⟨a9, n9, c9, rfl, hr9, hk9, hp9⟩
       have h19 := hp9.heap (fun h => h) H18.out
       have HP9 := Lib.hid hp9; have HR9 := Lib.hid hr9; have HK9 := Lib.hid hk9
       clear hp9 hr9 hk9 h38_0 h38_1 h38_l H_h38 h8_0 h8_1 h8_2 h8_l H_h8
       have h19_0 := cell_of_row _ _ 0 _ _ _ h19; have h19_1 := cell_of_row _ _ 1 _ _ _ h19; have h19_f := (fun j => frozen_of_row _ _ j _ _ h19); have h19_l := lt_of_block h19; simp at h19_0 h19_1; have H_h19 := Lib.hid h19; clear h19))
  have hms := Mod.set2 (w := w9) b1 0 1 (.int .u64 now) (.slice a9 n9 c9)
  have hk : Kept w a n c a9 n9 c9 := (HK5.out.mono HB.out.pure.size).trans (HK9.out.mono (HB.out.pure.trans HP8.out).size)
  have hb1 := lt_of_block HB.out.h1
  have hk1 : Kept W1 a n c a9 n9 c9 := HK5.out.trans (HK9.out.mono HP8.out.size)
  have hr10 := HR9.out.frame hms (fun g hg e => by
    rcases hk1.rd hg with h | h
    · have := HLt.out g h; have := HB.out.z1; omega
    · omega)
  have p10 : Pure w _ := ((HB.out.pure.trans HP8.out).trans HP9.out).then hms (fun k hk e => by have := HB.out.z1; omega)
  refine bodyPost_ret (v := .tuple #[.agg #[.int .u64 now, .slice a9 n9 c9], .int .i64 er]) (by simp [results, Tryd.results67, go_sem, h19_0, h19_1, h19_l]) rfl ⟨a9, n9, c9, rfl, hr10, hk, p10⟩
/-- Reschedule, of a list as the cascade has it. -/
theorem rres_ok (h : RdL w a n c L) (hl : n ≤ 4194304) {s dl : Nat} (h32 : s ≤ 4294967295) (hd : dl ≤ 18446744073709551615) (hb : ∀ y ∈ L, 0 < y.birth ∧ y.birth ≤ 18446744073709551615) (hu : (∀ y ∈ L, ∀ z ∈ L, y.slot = z.slot → y = z) ∧ (∀ y ∈ L, ∀ z ∈ L, y.birth = z.birth → y = z) ∧ L.Nodup) :
    Calls Tryd.prog 67 #[whV now a n c, .int .u32 s, .int .u64 dl] w fun e w' => ∃ a' n' c', e = .returned (.tuple #[whV now a' n' c', .int .i64 (resR now L s dl)]) ∧ RdL w' a' n' c' (resL now L s dl) ∧ Kept w a n c a' n' c' ∧ Pure w w' := by
  unfold resL
  by_cases e0 : atE now s dl = 0
  · have er0 : resR now L s dl = (getT L s).2 := by unfold resR; rw [if_pos e0]
    rw [er0]
    rcases getT_cases L s with ⟨hs, hh, ⟨xs, xd, xb⟩, e1, rfl, e2, e3, e4⟩ | ⟨_, er, e1, e2⟩
    · dsimp only at e1 e2 e3 e4 hs hh h32 ⊢
      have hx : (⟨xs, xd, xb⟩ : Td) ∈ L := e4.mem_iff.2 List.mem_cons_self
      have hnd : (⟨xs, xd, xb⟩ : Td) ∉ outI L xs := (List.nodup_cons.1 (e4.nodup_iff.1 hu.2.2)).1
      have hout : ∀ y ∈ outI L xs, y ∈ L := fun y hy => e4.mem_iff.2 (List.mem_cons_of_mem _ hy)
      have hcl : canL L xs = outI L xs := by unfold canL; rw [e1, if_pos rfl]
      obtain ⟨a1, a2, a3⟩ := atE_zero e0 hd
      have hsr : schR now (canL L xs) ⟨xs, dl, xb⟩ = 0 := by
        have h1 : schE now ⟨xs, dl, xb⟩ = 0 := by
          unfold schE
          dsimp only
          rw [if_pos a1, if_neg (by have := (hb _ hx).1; dsimp only at this; omega), e0]
        have h2 : hasB (outI L xs) xs = false := by
          cases hq : hasB (outI L xs) xs with
          | false => rfl
          | true =>
            obtain ⟨y, hy, e⟩ := hasB_iff.1 hq
            have := hu.1 y (hout y hy) _ hx e
            subst this
            exact absurd hy hnd
        have h3 : bornB (outI L xs) xb = false := by
          cases hq : bornB (outI L xs) xb with
          | false => rfl
          | true =>
            obtain ⟨y, hy, e⟩ := bornB_iff.1 hq
            have := hu.2.1 y (hout y hy) _ hx e
            subst this
            exact absurd hy hnd
        unfold schR
        rw [if_pos h1, hcl]
        dsimp only
        rw [h2, h3]
        rfl
      have hsl : schL now (canL L xs) ⟨xs, dl, xb⟩ = putL (outI L xs) ⟨xs, dl, xb⟩ := by unfold schL; rw [hsr, if_pos rfl, hcl]
      rw [e1, if_pos rfl]
      refine (rres_hit h hl h32 hd e0 e1 (hb _ hx).2).mono ?_
      rintro e w' ⟨a', n', c', rfl, hr, hk, hp⟩
      rw [hsl] at hr
      exact ⟨a', n', c', by rw [hsr], hr, hk, hp⟩
    · rw [e1]
      dsimp only
      rw [if_neg e2]
      refine (rres_no h hl h32 hd e0 e1 e2).mono ?_
      rintro e w' ⟨rfl, hp⟩
      exact ⟨a, n, c, rfl, h.pure hp, .inl ⟨rfl, rfl, rfl⟩, hp⟩
  · have er : resR now L s dl = atE now s dl := by unfold resR; rw [if_neg e0]
    rw [er, if_neg e0]
    refine (rres_er e0).mono ?_
    rintro e w' ⟨rfl, hp⟩
    exact ⟨a, n, c, rfl, h.pure hp, .inl ⟨rfl, rfl, rfl⟩, hp⟩
end
end Go.Proofs.YtlalpenfgkfkpaaDoor
