/- law07.known is true. -/
import Derived.Test.YtbjiebhbmpafpaaOps
import Derived.BigRegion
namespace Go.Proofs.Ytbjiebhbmpafpaa
open Go.RowKit Go.Shelf
set_option maxRecDepth 100000

def kn1 : List Grp := [([0, 128, 128, 128, 128, 128, 128, 128], [7, 0, 0, 0, 0, 0, 0, 0])]
def kn2 : List Grp := [([0, 3, 128, 128, 128, 128, 128, 128], [7, 8, 0, 0, 0, 0, 0, 0])]
def kn3 : List Grp := [([0, 3, 0, 128, 128, 128, 128, 128], [7, 8, 9, 0, 0, 0, 0, 0])]
def kn4 : List Grp := [([128, 3, 0, 128, 128, 128, 128, 128], [0, 8, 9, 0, 0, 0, 0, 0])]
def kn5 : List Grp := [([5, 3, 0, 128, 128, 128, 128, 128], [4, 8, 9, 0, 0, 0, 0, 0])]
def kn6 : List Grp := [([5, 3, 0, 128, 128, 128, 128, 128], [4, 8, 1, 0, 0, 0, 0, 0])]
theorem kn_a : insM (newG 1) 128 7 = some kn1 := by decide
theorem kn_b : insM kn1 3 8 = some kn2 := by decide
theorem kn_c : insM kn2 128 9 = some kn3 := by decide
theorem kn_d : findsM kn3 128 9 0 9 0 = true := by decide +kernel
theorem kn_e : findsM kn3 3 9 0 0 9 = true := by decide +kernel
theorem kn_f : findsM kn3 128 0 1 7 0 = true := by decide +kernel
theorem kn_g : findM kn3 128 (fun x => x == 7) = some (0, 0) := by decide +kernel
theorem kn_h : delG kn3 0 0 = kn4 := by decide
theorem kn_i : findM kn4 128 (fun x => x == 7) = none := by decide +kernel
theorem kn_j : usedN kn4 = 2 := by decide
theorem kn_k : tombN kn4 = 0 := by decide
theorem kn_l : insM kn4 5 4 = some kn5 := by decide
theorem kn_m : findM kn5 128 (fun x => x == 9) = some (0, 2) := by decide +kernel
theorem kn_n : setG kn5 0 2 (128 % 128) 1 = kn6 := by decide
theorem kn_o : findsM kn6 128 0 1 1 0 = true := by decide +kernel
theorem pow_one : Pow 1 := ⟨0, by decide, rfl⟩

theorem lay_at {w W : World} {Gs : List Grp} {k : Nat} {v4 v5 : Value} (h : LayInv w Gs k v4 v5 W) (hk : 0 < k) : ∃ b4 c4 b5 c5, v4 = .slice (some ⟨b4, 0, none⟩) (8 * k) c4 ∧ v5 = .slice (some ⟨b5, 0, none⟩) (8 * k) c5 ∧ 8 * k ≤ c4 ∧ 8 * k ≤ c5 ∧
    (∀ j u, (u8s (laneC (Gs.take k)))[j]? = some u → W.cell? ⟨b4, j, none⟩ = some u) ∧ (∀ j u, (u32v (laneS (Gs.take k)))[j]? = some u → W.cell? ⟨b5, j, none⟩ = some u) := by
  obtain ⟨b4, c4, e4, l4, _, h4, _⟩ := owns_at h.c (by omega)
  obtain ⟨b5, c5, e5, l5, _, h5, _⟩ := owns_at h.s (by omega)
  exact ⟨b4, c4, b5, c5, e4, e5, l4, l5, h4, h5⟩
theorem kn_conv {w : World} {b c : Nat} (h0 : w.cell? ⟨b, 0, none⟩ = some (.int .u8 0)) (h1 : w.cell? ⟨b, 1, none⟩ = some (.int .u8 3)) (h2 : w.cell? ⟨b, 2, none⟩ = some (.int .u8 0)) (h3 : w.cell? ⟨b, 3, none⟩ = some (.int .u8 128)) :
    (convert 44 9 (.slice (some ⟨b, 0, none⟩) 4 c)).run Try.prog w = .ok (.string (strOf [0, 3, 0, 128])) w := by
  refine conv_u8s [0, 3, 0, 128] (by decide) ⟨some ⟨b, 0, none⟩, 4, c, rfl, rfl, by intro u hu; obtain ⟨x, _, rfl⟩ := List.mem_map.1 hu; rfl, (fun h => by cases h), fun ad ha j u hu => ?_⟩
  cases ha
  have hj : j < 4 := (List.getElem?_eq_some_iff.1 hu).1
  have : j = 0 ∨ j = 1 ∨ j = 2 ∨ j = 3 := by omega
  rcases this with rfl | rfl | rfl | rfl
  · cases hu; exact h0
  · cases hu; exact h1
  · cases hu; exact h2
  · cases hu; exact h3
set_option maxHeartbeats 4000000 in
theorem known7_true (w : World) : Calls Try.prog 35 #[] w fun e w' => e = .returned (.bool true) ∧ Pure w w' := by
  have HN := Lib.hid (fun W => New_ok 1 W pow_one)
  go_enter Try.func35, Try.ntmps35
  go_upto_region 2 with (go_at_call 36; refine Calls.mono (HN.out _) ?_; rintro e w1 hq; obtain ⟨p, sv, rfl, hH0, _⟩ := Has.mk_new (Mod.refl _ w) hq; clear hq; have H0 := Lib.hid hH0; clear hH0)
  have t1 : Hid True := Lib.hid trivial; have t2 := t1; have t3 := t1; have t4 := t1; have t5 := t1; have t6 := t1; have t7 := t1; have t8 := t1
  go_upto_region 4 with (first
    | (have := t1.out; go_at_call 37; clear this t1; refine Calls.mono (H0.out.ins kn_a (by decide) (by decide)) ?_; rintro e w2 ⟨rfl, hq, _⟩; have H1 := Lib.hid hq; clear hq)
    | (have := t2.out; go_at_call 37; clear this t2; refine Calls.mono (H1.out.ins kn_b (by decide) (by decide)) ?_; rintro e w3 ⟨rfl, hq, _⟩; have H2 := Lib.hid hq; clear hq)
    | (have := t3.out; go_at_call 37; clear this t3; refine Calls.mono (H2.out.ins kn_c (by decide) (by decide)) ?_; rintro e w4 ⟨rfl, hq, _⟩; have H3 := Lib.hid hq; clear hq))
  have HL := Lib.hid (Layout_ok H3.out.ix)
  go_upto_region 5 with (go_at_call 52; refine Calls.mono HL.out ?_; rintro e w5 ⟨v4, v5, rfl, hl⟩)
  obtain ⟨b4, c4, b5, c5, rfl, rfl, k4, k5, f4, f5⟩ := lay_at hl (by decide)
  have x0 : w5.cell? ⟨b4, 0, none⟩ = some (.int .u8 0) := f4 0 _ rfl
  have x1 : w5.cell? ⟨b4, 1, none⟩ = some (.int .u8 3) := f4 1 _ rfl
  have x2 : w5.cell? ⟨b4, 2, none⟩ = some (.int .u8 0) := f4 2 _ rfl
  have x3 : w5.cell? ⟨b4, 3, none⟩ = some (.int .u8 128) := f4 3 _ rfl
  have y0 : w5.cell? ⟨b5, 0, none⟩ = some (.int .u32 7) := f5 0 _ rfl
  have y1 : w5.cell? ⟨b5, 1, none⟩ = some (.int .u32 8) := f5 1 _ rfl
  have y2 : w5.cell? ⟨b5, 2, none⟩ = some (.int .u32 9) := f5 2 _ rfl
  have y3 : w5.cell? ⟨b5, 3, none⟩ = some (.int .u32 0) := f5 3 _ rfl
  have H5 := Lib.hid (H3.out.pure hl.pu)
  have g1 := kn_conv (w := w5.drew) (c := c4) x0 x1 x2 x3
  have hal : Pure w5 (w5.alloc (.cells #[.int .u8 0, .int .u8 3, .int .u8 0, .int .u8 128] 5)) := (Mod.refl _ w5).alloc _
  have g2 := kn_conv (w := (w5.alloc (.cells #[.int .u8 0, .int .u8 3, .int .u8 0, .int .u8 128] 5)).drew) (c := c4) (hal.cell (fun h => h) x0) (hal.cell (fun h => h) x1) (hal.cell (fun h => h) x2) (hal.cell (fun h => h) x3)
  have hnew := heap_new (w := w5) (o := (.cells #[.int .u8 0, .int .u8 3, .int .u8 0, .int .u8 128] 5 (0, 0))) rfl
  have g3 := kn_conv (w := (w5.alloc (.cells #[.int .u8 0, .int .u8 3, .int .u8 0, .int .u8 128] 5)).drew) (c := 4) (cell_of_row _ _ 0 _ _ _ hnew) (cell_of_row _ _ 1 _ _ _ hnew) (cell_of_row _ _ 2 _ _ _ hnew) (cell_of_row _ _ 3 _ _ _ hnew)
  have z0 := hal.cell (fun h => h) y0; have z1 := hal.cell (fun h => h) y1; have z2 := hal.cell (fun h => h) y2; have z3 := hal.cell (fun h => h) y3
  clear f4 f5 hl hal hnew
  rw [show (8 * kn3.length) = 8 from rfl] at *
  go_region
  have H6 := Lib.hid (H5.out.pure ((Mod.refl (fun _ => False) w5).alloc (.cells #[.int .u8 0, .int .u8 3, .int .u8 0, .int .u8 128] 5)).drew)
  clear x0 x1 x2 x3 y0 y1 y2 y3 z0 z1 z2 z3 g1 g2 g3 H5 H0 H1 H2 H3
  generalize (w5.alloc (.cells #[.int .u8 0, .int .u8 3, .int .u8 0, .int .u8 128] 5)).drew = W6 at *
  have q1 := t4; have q2 := t4; have q3 := t4; have q4 := t4; have q5 := t4; have q6 := t4; have q7 := t4; have q8 := t4
  go_upto_region 9 with (first
    | (have := t4.out; go_at_call 40; clear this t4; refine Calls.mono (H6.out.finds kn_d (by decide) (by decide) (by decide) (by decide) (by decide)) ?_; rintro e w7 ⟨rfl, hq, _⟩; have H7 := Lib.hid hq; clear hq)
    | (have := t5.out; go_at_call 40; clear this t5; refine Calls.mono (H7.out.finds kn_e (by decide) (by decide) (by decide) (by decide) (by decide)) ?_; rintro e w8 ⟨rfl, hq, _⟩; have H8 := Lib.hid hq; clear hq)
    | (have := t6.out; go_at_call 40; clear this t6; refine Calls.mono (H8.out.finds kn_f (by decide) (by decide) (by decide) (by decide) (by decide)) ?_; rintro e w9 ⟨rfl, hq, _⟩; have H9 := Lib.hid hq; clear hq))
  have HG := Lib.hid kn_h
  go_upto_region 11 with (first
    | (have := t7.out; go_at_call 41; clear this t7; refine Calls.mono (H9.out.rem kn_g (by decide) (by decide)) ?_; rintro e w10 ⟨rfl, hq, _⟩; rw [HG.out] at hq; have H10 := Lib.hid hq; clear hq)
    | (have := t8.out; go_at_call 41; clear this t8; refine Calls.mono (H10.out.rem_none kn_i (by decide) (by decide)) ?_; rintro e w11 ⟨rfl, hq, _⟩; have H11 := Lib.hid hq; clear hq)
    | (go_at_call 39; refine Calls.mono (H11.out.len kn_j) ?_; rintro e w12 ⟨rfl, rfl⟩)
    | (go_at_call 44; refine Calls.mono (H11.out.tombs kn_k) ?_; rintro e w12 ⟨rfl, rfl⟩)
    | (have := q1.out; go_at_call 37; clear this q1; refine Calls.mono (H11.out.ins kn_l (by decide) (by decide)) ?_; rintro e w12 ⟨rfl, hq, _⟩; have H12 := Lib.hid hq; clear hq))
  have HL2 := Lib.hid (Layout_ok H12.out.ix)
  go_upto_region 12 with (go_at_call 52; refine Calls.mono HL2.out ?_; rintro e w13 ⟨v4, v5, rfl, hl⟩)
  obtain ⟨b6, c6, b7, c7, rfl, rfl, k6, k7, f6, f7⟩ := lay_at hl (by decide)
  have x0 : w13.cell? ⟨b6, 0, none⟩ = some (.int .u8 5) := f6 0 _ rfl
  have x1 : w13.cell? ⟨b6, 1, none⟩ = some (.int .u8 3) := f6 1 _ rfl
  have H13 := Lib.hid (H12.out.pure hl.pu)
  have HN3 := Lib.hid (fun W => New_three W)
  rw [show (8 * kn5.length) = 8 from rfl] at *
  clear f6 f7 hl
  go_upto_region 13 with (go_at_call 36; refine Calls.mono (HN3.out _) ?_; rintro e w' ⟨rfl, rfl⟩)
  have HG2 := Lib.hid kn_n
  go_wp2_with (first
    | (have := q2.out; go_at_call 53; clear this q2; refine Calls.mono (H13.out.rep kn_m (by decide) (by decide) (by decide)) ?_; rintro e w14 ⟨rfl, hq, _⟩; rw [HG2.out] at hq; have H14 := Lib.hid hq; clear hq)
    | (have := q3.out; go_at_call 40; clear this q3; refine Calls.mono (H14.out.finds kn_o (by decide) (by decide) (by decide) (by decide) (by decide)) ?_; rintro e w15 ⟨rfl, hq, _⟩; have H15 := Lib.hid hq; clear hq))
  go_ret
  exact ⟨rfl, H15.out.pu⟩
end Go.Proofs.Ytbjiebhbmpafpaa
