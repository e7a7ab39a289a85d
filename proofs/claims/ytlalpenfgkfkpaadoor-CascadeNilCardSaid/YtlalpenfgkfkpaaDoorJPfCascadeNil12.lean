/- Lemmas and contracts of functions, strung together out of 1 texts. No condition. -/
import Derived.Test.YtlalpenfgkfkpaaDoorJPfCascadeNil11
import Derived.Test.YtlalpenfgkfkpaaDoorJPfCascadeNil9
/- law20.CascadeNil: it returns true. Condition: the table of math/bits lies in memory. -/
namespace Go.Proofs.YtlalpenfgkfkpaaDoor
open Go.RowKit
set_option maxRecDepth 100000
set_option maxHeartbeats 4000000 in
theorem CascadeNil_true (w : World) (hT : TabW w) (s d b : Nat) (_ : s < 4294967296) (_ : d < 18446744073709551616) (_ : b < 18446744073709551616) : Calls Tryd.prog 5 #[.agg #[.int .u32 s, .int .u64 d, .int .u64 b]] w fun e w' => e = .returned (.bool true) ∧ Pure w w' := by
  have a1 : Pure w (w.alloc (.cells #[.int .u32 s, .int .u64 d, .int .u64 b] 31)) := (Mod.refl _ w).alloc _
  have x1 := heap_new (w := w) (o := .cells #[.int .u32 s, .int .u64 d, .int .u64 b] 31 (0, 0)) rfl
  have a2 : Pure (w.alloc (.cells #[.int .u32 s, .int .u64 d, .int .u64 b] 31)) ((w.alloc (.cells #[.int .u32 s, .int .u64 d, .int .u64 b] 31)).alloc (.cells zeroC 57)) := (Mod.refl _ _).alloc _
  have x2 := heap_new (w := w.alloc (.cells #[.int .u32 s, .int .u64 d, .int .u64 b] 31)) (o := .cells zeroC 57 (0, 0)) (n := w.heap.size + 1) (by simp)
  have a3 : Pure ((w.alloc (.cells #[.int .u32 s, .int .u64 d, .int .u64 b] 31)).alloc (.cells zeroC 57)) (((w.alloc (.cells #[.int .u32 s, .int .u64 d, .int .u64 b] 31)).alloc (.cells zeroC 57)).alloc (.cells #[.pointer none, lkP (w.heap.size + 1)] 26)) := (Mod.refl _ _).alloc _
  have x3 := heap_new (w := (w.alloc (.cells #[.int .u32 s, .int .u64 d, .int .u64 b] 31)).alloc (.cells zeroC 57)) (o := .cells #[.pointer none, lkP (w.heap.size + 1)] 26 (0, 0)) (n := w.heap.size + 1 + 1) (by simp)
  have x1 := (a2.trans a3).heap (fun h => h) x1
  have x2 := a3.heap (fun h => h) x2
  have aa := (a1.trans a2).trans a3
  have HKn := Lib.hid (fun (W : World) (hW : Pure w W) => known20_ok W (hT.pure hW))
  clear a1 a2 a3 hT
  unfold zeroC at x1 x2 x3 aa
  have X1 := Lib.hid x1; have X2 := Lib.hid x2; have X3 := Lib.hid x3; have AA := Lib.hid aa
  clear x1 x2 x3 aa
  go_enter Tryd.func5, Tryd.ntmps5
  go_upto_region 2 with fail
  generalize ((w.alloc (.cells #[.int .u32 s, .int .u64 d, .int .u64 b] 31)).alloc (.cells #[.int .u64 0, .pointer none, .pointer none, .pointer none, .pointer none, .pointer none, .pointer none, .pointer none, .pointer none, .map none, .map none] 57)).alloc (.cells #[.pointer none, lkP (w.heap.size + 1)] 26) = W at *
  obtain ⟨bx, hbx⟩ : ∃ bx, w.heap.size = bx := ⟨_, rfl⟩
  simp only [hbx] at X1 X2 X3 ⊢
  clear hbx
  go_loopw [13] (fun v13 wr => ∃ i : Nat, v13 = .int .i64 (i : Nat) ∧ i ≤ 2 ∧ Pure W wr) (fun v13 _ => 2 - (intOf v13).toNat)
  case atStart => exact ⟨0, rfl, Nat.zero_le _, Mod.refl _ _⟩
  case round =>
    obtain ⟨i, rfl, hi2, hp⟩ := hrel
    have HP := Lib.hid hp
    by_cases hlt : i < 2
    · have hlt' : (i : Int) < 2 := by omega
      have i0 : (0 : Int) ≤ (i : Int) := by omega
      have wi : IntKind.i64.wrap ((i : Int) + 1) = (i : Int) + 1 := IntWalk.i64_in _ (by omega)
      have x1r := hp.heap (fun h => h) X1.out
      have x3r := hp.heap (fun h => h) X3.out
      obtain ⟨v, hv, hn⟩ : ∃ v, wr.cell? ⟨bx + 1 + 1, i, none⟩ = some v ∧ NilC wr v := by
        rcases (show i = 0 ∨ i = 1 by omega) with rfl | rfl
        · exact ⟨.pointer none, by rw [cell_of_row wr _ 0 _ _ (0, 0) x3r]; rfl, .inl rfl⟩
        · exact ⟨lkP (bx + 1), by rw [cell_of_row wr _ 1 _ _ (0, 0) x3r]; rfl, .inr ⟨bx + 1, rfl, hp.heap (fun h => h) X2.out⟩⟩
      have HN := Lib.hid hn; have H1 := Lib.hid x1r
      have HC1 := Lib.hid (ncancel_ok hn (s : Int))
      unfold tdV at HC1
      dsimp only [zTd] at HC1
      clear x3r hn hp
      have x1r_0 := cell_of_row _ _ 0 _ _ _ x1r; have x1r_1 := cell_of_row _ _ 1 _ _ _ x1r; have x1r_2 := cell_of_row _ _ 2 _ _ _ x1r; have x1r_f := (fun j => frozen_of_row _ _ j _ _ x1r); have x1r_l := lt_of_block x1r; simp at x1r_0 x1r_1 x1r_2; have H_x1r := Lib.hid x1r; clear x1r
      go_upto_region 5 with (go_at_call 24; refine Calls.mono HC1.out ?_; rintro e w2 ⟨rfl, hp2⟩)
      have p5 : Pure wr (w2.alloc (.cells #[.int .u32 0, .int .u64 0, .int .u64 0] 31)) := hp2.alloc _
      have h5 := heap_new (w := w2) (o := .cells #[.int .u32 0, .int .u64 0, .int .u64 0] 31 (0, 0)) rfl
      generalize w2.alloc (.cells #[.int .u32 0, .int .u64 0, .int .u64 0] 31) = W5 at *
      generalize w2.heap.size = b5 at *
      have h15 := p5.heap (fun h => h) H1.out
      have HC2 := Lib.hid (nget_ok (HN.out.pure p5) (s : Int))
      unfold tdV at HC2
      dsimp only [zTd] at HC2
      have HP5 := Lib.hid p5; have H5 := Lib.hid h5; have H15 := Lib.hid h15
      clear x1r_0 x1r_1 x1r_2 x1r_f x1r_l
      clear H_x1r hp2 p5 h5
      have h15_0 := cell_of_row _ _ 0 _ _ _ h15; have h15_1 := cell_of_row _ _ 1 _ _ _ h15; have h15_2 := cell_of_row _ _ 2 _ _ _ h15; have h15_f := (fun j => frozen_of_row _ _ j _ _ h15); have h15_l := lt_of_block h15; simp at h15_0 h15_1 h15_2; have H_h15 := Lib.hid h15; clear h15
      go_upto_region 6 with (go_at_call 19; refine Calls.mono HC2.out ?_; rintro e w6 ⟨rfl, hp6⟩)
      have p7 : Pure W5 (w6.alloc (.cells #[.int .u32 0, .int .u64 0, .int .u64 0] 31)) := hp6.alloc _
      have h7 := heap_new (w := w6) (o := .cells #[.int .u32 0, .int .u64 0, .int .u64 0] 31 (0, 0)) rfl
      generalize w6.alloc (.cells #[.int .u32 0, .int .u64 0, .int .u64 0] 31) = W7 at *
      generalize w6.heap.size = b7 at *
      have h17 := p7.heap (fun h => h) H15.out
      have h57 := p7.heap (fun h => h) H5.out
      have HN7 := Lib.hid (HN.out.pure (HP5.out.trans p7)); have HP7 := Lib.hid (HP5.out.trans p7)
      have H17 := Lib.hid h17; have H57 := Lib.hid h57; have H7 := Lib.hid h7
      clear h15_0 h15_1 h15_2 h15_f h15_l
      clear H_h15 hp6 p7
      have hK : ∀ W', Pure W7 W' → (W'.cell? ⟨bx, 0, none⟩ = some (.int .u32 s) ∧ W'.cell? ⟨bx, 1, none⟩ = some (.int .u64 d) ∧ W'.cell? ⟨bx, 2, none⟩ = some (.int .u64 b)) ∧ (W'.cell? ⟨b5, 0, none⟩ = some (.int .u32 0) ∧ W'.cell? ⟨b5, 1, none⟩ = some (.int .u64 0) ∧ W'.cell? ⟨b5, 2, none⟩ = some (.int .u64 0)) ∧ (W'.cell? ⟨b7, 0, none⟩ = some (.int .u32 0) ∧ W'.cell? ⟨b7, 1, none⟩ = some (.int .u64 0) ∧ W'.cell? ⟨b7, 2, none⟩ = some (.int .u64 0)) := fun W' hp => by
        have e1 := hp.heap (fun h => h) H17.out
        have e5 := hp.heap (fun h => h) H57.out
        have e7 := hp.heap (fun h => h) H7.out
        refine ⟨⟨?_, ?_, ?_⟩, ⟨?_, ?_, ?_⟩, ?_, ?_, ?_⟩ <;> first | (rw [cell_of_row _ _ _ _ _ _ e1]; rfl) | (rw [cell_of_row _ _ _ _ _ _ e5]; rfl) | (rw [cell_of_row _ _ _ _ _ _ e7]; rfl)
      have HK := Lib.hid hK
      obtain ⟨⟨z1, z2, z3⟩, ⟨y1, y2, y3⟩, u1, u2, u3⟩ := hK W7 (Mod.refl _ _)
      clear hK h17 h57 h7
      have HQ : Hid (Pure W7 W7) := Lib.hid (Mod.refl _ _)
      go_wp2_with (first
        | (go_at_call 13; refine Calls.mono (nsched_ok (HN7.out.pure HQ.out) ⟨s, d, b⟩) ?_; rintro e w' ⟨rfl, hp⟩; replace HQ := Lib.hid (HQ.out.trans hp); clear hp z1 z2 z3 y1 y2 y3 u1 u2 u3; obtain ⟨⟨z1, z2, z3⟩, ⟨y1, y2, y3⟩, u1, u2, u3⟩ := HK.out _ HQ.out)
        | (go_at_call 25; refine Calls.mono (nresched_ok (HN7.out.pure HQ.out) _ _) ?_; rintro e w' ⟨rfl, hp⟩; replace HQ := Lib.hid (HQ.out.trans hp); clear hp z1 z2 z3 y1 y2 y3 u1 u2 u3; obtain ⟨⟨z1, z2, z3⟩, ⟨y1, y2, y3⟩, u1, u2, u3⟩ := HK.out _ HQ.out)
        | (go_at_call 22; refine Calls.mono (nadvL_ok (HN7.out.pure HQ.out) _) ?_; rintro e w' ⟨rfl, hp⟩; replace HQ := Lib.hid (HQ.out.trans hp); clear hp z1 z2 z3 y1 y2 y3 u1 u2 u3; obtain ⟨⟨z1, z2, z3⟩, ⟨y1, y2, y3⟩, u1, u2, u3⟩ := HK.out _ HQ.out)
        | (go_at_call 26; refine Calls.mono (nwhereL_ok (HN7.out.pure HQ.out) _) ?_; rintro e w' ⟨rfl, hp⟩; replace HQ := Lib.hid (HQ.out.trans hp); clear hp z1 z2 z3 y1 y2 y3 u1 u2 u3; obtain ⟨⟨z1, z2, z3⟩, ⟨y1, y2, y3⟩, u1, u2, u3⟩ := HK.out _ HQ.out)
        | (go_at_call 27; refine Calls.mono (nnext_ok (HN7.out.pure HQ.out)) ?_; rintro e w' ⟨rfl, rfl⟩)
        | (go_at_call 28; refine Calls.mono (nnow_ok (HN7.out.pure HQ.out)) ?_; rintro e w' ⟨rfl, rfl⟩)
        | (go_at_call 15; refine Calls.mono (nlen_ok (HN7.out.pure HQ.out)) ?_; rintro e w' ⟨rfl, rfl⟩)
        | (go_at_call 14; refine Calls.mono (ncopy_ok (HN7.out.pure HQ.out)) ?_; rintro e w' ⟨rfl, rfl⟩))
      go_roundw
      case rel => exact ⟨i + 1, by go_num, hlt, (HP.out.trans HP7.out).trans HQ.out⟩
      case measure => simp [intOf]; omega
    · have e : i = 2 := by omega
      subst e
      have HK2 := Lib.hid (HKn.out wr (AA.out.trans hp))
      clear hp
      go_wp2_with (go_at_call 10; refine Calls.mono HK2.out ?_; rintro e w2 ⟨rfl, hp2⟩)
      go_ret
      exact ⟨rfl, (AA.out.trans HP.out).trans hp2⟩
end Go.Proofs.YtlalpenfgkfkpaaDoor
