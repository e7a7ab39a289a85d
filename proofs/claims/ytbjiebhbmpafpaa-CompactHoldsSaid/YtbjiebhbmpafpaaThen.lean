/- Moves.Then: the composed moves, or the error. Conditions: owned rows, slot numbers in bounds. -/
import Derived.Test.YtbjiebhbmpafpaaMoves
namespace Go.Proofs.Ytbjiebhbmpafpaa
open Go.RowKit Go.Shelf
set_option maxRecDepth 100000

/-! ### Moves.Then -/
def thenXs (xs ys : List Nat) : List Nat := ys.map (fun y => xs.getD y 0)

theorem Then_arg {w : World} (a : Option Addr) (c k : Nat) (n : Int) (v : Value) (k2 : Int) (hk : ¬ (k2 = (k : Int))) :
    Calls Try.prog 22 #[.agg #[.slice a k c, .int .i64 n], .agg #[v, .int .i64 k2]] w fun e w' => e = .returned (.tuple #[.agg #[.slice none 0 0, .int .i64 0], .int .i64 2]) ∧ Pure w w' := by
  go_enter Try.func22, Try.ntmps22
  go_wp2
  refine bodyPost_ret (v := .tuple #[.agg #[.slice none 0 0, .int .i64 0], .int .i64 2]) (by simp [results, Try.results22, go_sem]) rfl ⟨rfl, ?_⟩
  (repeat' (first | (with_reducible exact Mod.refl _ _) | (with_reducible refine Mod.alloc ?_ _) | (with_reducible refine Mod.drew ?_) | (with_reducible refine Mod.drewN ?_ _) | (with_reducible refine Mod.setCell ?_ ?_ _) | (refine Mod.then ?_ (by with_reducible assumption) ?_)))
  (all_goals (intros; first | (exfalso; assumption) | omega | (simp at *; done) | (simp at *; omega)))

structure ThenInv (w : World) (B : Nat) (a a2 : Option Addr) (c c2 : Nat) (xs ys : List Nat) (n : Int) (k : Nat) (wr : World) : Prop where
  le : k ≤ ys.length
  pu : Pure w wr
  r0 : wr.heap[B]? = some (.cells #[.slice a xs.length c, .int .i64 n] 34 (0, 0))
  r2 : wr.heap[B + 1 + 1]? = some (.cells #[.slice none 0 0, .int .i64 0] 34 (0, 0))
  r6 : ∃ a' c', wr.heap[B + 1 + 1 + 1]? = some (.cells #[.slice a' k c', .int .i64 n] 34 (0, 0)) ∧ wr.ownsRow 0 43 1 (.slice a' k c') k (u32s (thenXs xs (ys.take k))) ∧ ∀ g, (Value.slice a' k c').ownBlock = some g → B + 1 + 1 + 1 < g

set_option maxHeartbeats 1000000 in
theorem Then_ok {w : World} {a a2 : Option Addr} {c c2 : Nat} {xs ys : List Nat} (h : U32Row w a c xs) (h2 : U32Row w a2 c2 ys) (n : Int) (hy : ∀ y ∈ ys, y < xs.length) (hl : ys.length ≤ 4194304) (hx : ∀ x ∈ xs, x ≤ 4294967295) (hx2 : xs.length ≤ 4194304) :
    Calls Try.prog 22 #[.agg #[.slice a xs.length c, .int .i64 n], .agg #[.slice a2 ys.length c2, .int .i64 xs.length]] w fun e w' =>
      ∃ a' c', e = .returned (.tuple #[.agg #[.slice a' ys.length c', .int .i64 n], .int .i64 0]) ∧ U32Row w' a' c' (thenXs xs ys) ∧ Fresh w (.slice a' ys.length c') ∧ Pure w w' := by
  have H := Lib.hid h
  have H2 := Lib.hid h2
  have HY := Lib.hid hy
  have HX := Lib.hid hx
  clear h h2 hy hx
  go_enter Try.func22, Try.ntmps22
  go_wp2
  go_loopw [22] (fun i wr => ∃ k : Nat, i = .int .i64 k ∧ ThenInv w w.heap.size a a2 c c2 xs ys n k wr) (fun i _ => ys.length - (intOf i).toNat)
  case atStart =>
    refine ⟨0, rfl, Nat.zero_le _, by (repeat' (first | (with_reducible exact Mod.refl _ _) | (with_reducible refine Mod.alloc ?_ _) | (with_reducible refine Mod.drew ?_) | (with_reducible refine Mod.drewN ?_ _) | (with_reducible refine Mod.setCell ?_ ?_ _) | (refine Mod.then ?_ (by with_reducible assumption) ?_))) <;> (all_goals (intros; first | (exfalso; assumption) | omega | (simp at *; done) | (simp at *; omega))), ?_, ?_, none, 0, ?_, World.ownsRow_nil _ _ _ _, (fun g e => by cases e)⟩
    · exact heap_keep (heap_keep (heap_keep (heap_new rfl)))
    · exact heap_keep (heap_new (by simp))
    · exact heap_new (by simp)
  case round =>
    obtain ⟨k, rfl, hI⟩ := hrel
    obtain ⟨hk, hpu, hr0, hr2, a6, c6, hr6, ho6, hf6⟩ := hI
    have e0 := cell_of_row wr _ 0 _ _ _ hr0; have e01 := cell_of_row wr _ 1 _ _ _ hr0
    have e6 := cell_of_row wr _ 0 _ _ _ hr6; have e61 := cell_of_row wr _ 1 _ _ _ hr6
    have e2 := cell_of_row wr _ 0 _ _ _ hr2; have e21 := cell_of_row wr _ 1 _ _ _ hr2
    have f6 := fun j => frozen_of_row wr _ j _ _ hr6
    have f2 := fun j => frozen_of_row wr _ j _ _ hr2
    simp at e0 e01 e6 e61 e2 e21
    have hl6 := lt_of_block hr6
    have H2W := Lib.hid (owns_mod H2.out hpu (fun _ _ h => h))
    have HW := Lib.hid (owns_mod H.out hpu (fun _ _ h => h))
    have HPU := Lib.hid hpu
    have HR0 := Lib.hid hr0
    have HR2 := Lib.hid hr2
    have HR6 := Lib.hid hr6
    have HO6 := Lib.hid ho6
    have HF6 := Lib.hid hf6
    clear hpu hr0 hr2 hr6 ho6 hf6
    by_cases hlt : k < ys.length
    · have hk1 : (k : Int) < (ys.length : Int) := by omega
      have he := List.getElem?_eq_getElem hlt
      generalize ys[k] = y at he
      have hyx : y < xs.length := HY.out y (List.mem_of_getElem? he)
      obtain ⟨g2, _, hsv, _, hg2, hc2, hfz2, _⟩ := owns_at H2W.out (by omega)
      cases hsv
      obtain ⟨g, _, hsv, _, hg, hc, hfz, _⟩ := owns_at HW.out (by omega)
      cases hsv
      have s2 : wr.cell? ⟨g2, k, none⟩ = some (.int .u32 y) := hc2 k _ (by simp only [u32s, List.getElem?_map, he, Option.map_some])
      have hex : xs[y]? = some (xs.getD y 0) := by simp [List.getD, List.getElem?_eq_getElem hyx]
      have hxx := HX.out _ (List.mem_of_getElem? hex)
      have s1 : wr.cell? ⟨g, y, none⟩ = some (.int .u32 (xs.getD y 0)) := hc y _ (by simp only [u32s, List.getElem?_map, hex, Option.map_some])
      have hth : thenXs xs (ys.take (k + 1)) = thenXs xs (ys.take k) ++ [xs.getD y 0] := by
        unfold thenXs
        rw [List.take_add_one, he, List.map_append]
        rfl
      clear hc hc2 hfz hfz2
      generalize xs.getD y 0 = x at s1 hth hex hxx
      have hy1 : (y : Int) < (xs.length : Int) := by omega
      have HTH := Lib.hid hth
      have HEX := Lib.hid hex
      clear hth hex he
      obtain ⟨i0, hi, iz0, iz1, iz2⟩ := info_parts info_u32
      have nb : Hid (some (w.heap.size + 1 + 1 + 1) ≠ (Value.slice a6 k c6).ownBlock) := fun e => by have := HF6.out _ e.symm; omega
      go_wp2
      go_region_law ((refine step_append_read _ (by rfl) _ _ 24 (by rfl) 43 i0 (.int .u32 0) 1 4 Try.underlying24 hi iz0 iz1 iz2 rfl (by decide) (.slice a6 k c6) k _ (by rfl) ((HO6.out.alloc _).drew) _ [.int .u32 x] 1 (by rfl) (ReadAt.of_block 1 1 1 (heap_new (by simp)) (by rfl) (by simp [Value.oneCell'])) (by rfl) (by unfold maxLen; omega) (by omega) ?_; intro a7 c7 w5 hr7 hg7 hb7; have m7 := Mod.heap (Mod.of_grown (S := fun k' => (Value.slice a6 k c6).ownBlock = some k') hg7 (fun k e _ => e)) (fun e => nb.out e.symm) (heap_keep HR6.out); have M7 := Lib.hid m7; have fr7 := (fun j => frozen_of_row w5 _ j _ _ m7); have z7 := cell_of_row w5 _ 0 _ _ _ m7; clear m7))
      all_goals
        have hW6 : Mod (fun k' => (Value.slice a6 k c6).ownBlock = some k' ∨ k' = w.heap.size + 1 + 1 + 1) wr (w5.setCell ⟨w.heap.size + 1 + 1 + 1, 0, none⟩ (.slice a7 (k + 1) c7)) :=
          ((((Mod.refl _ wr).alloc _).drew).then (Mod.of_grown (S := fun k' => (Value.slice a6 k c6).ownBlock = some k' ∨ k' = w.heap.size + 1 + 1 + 1) hg7 (fun k e _ => .inl e)) (fun _ _ h => h)).setCell (fun _ => .inr rfl) _
        have hb8 : ∀ g, (Value.slice a7 (k + 1) c7).ownBlock = some g → w.heap.size + 1 + 1 + 1 < g := by
          intro g hg
          rcases hb7 with e | e <;> rw [e] at hg
          · exact HF6.out g hg
          · simp at hg; omega
        have hn : ∀ g, g ≤ w.heap.size + 1 + 1 → ¬ ((Value.slice a6 k c6).ownBlock = some g ∨ g = w.heap.size + 1 + 1 + 1) := by
          rintro g hg (h | rfl)
          · have := HF6.out g h; omega
          · omega
        clear e0 e01 e6 e61 e2 e21 f6 f2 fr7 z7 s1 s2
        go_wp2
        go_roundw
        case rel =>
          refine ⟨k + 1, by go_num, by omega, HPU.out.then hW6 (fun g hg h => hn g (by omega) h), hW6.heap (hn _ (by omega)) HR0.out, hW6.heap (hn _ (by omega)) HR2.out, a7, c7, heap_setCell_same _ _ 0 _ _ _ M7.out, ?_, hb8⟩
          rw [HTH.out, u32s, List.map_append]
          exact owns_mod hr7 ((Mod.refl (fun k' => k' = w.heap.size + 1 + 1 + 1) w5).setCell (fun _ => rfl) _) (fun g hg => by have := hb8 g hg; omega)
        case measure => simp [intOf]; omega
    · have hend : ys.length = k := by omega
      have hk1 : (ys.length : Int) ≤ (k : Int) := by omega
      have HEND := Lib.hid hend
      clear hend
      go_wp2
      have z0 := heap_setCell_same wr (w.heap.size + 1 + 1) 0 _ _ (.slice a6 k c6) HR2.out
      have z1 := heap_setCell_same _ (w.heap.size + 1 + 1) 1 _ _ (.int .i64 n) z0
      have hWf : Mod (fun k' => k' = w.heap.size + 1 + 1) wr ((wr.setCell ⟨w.heap.size + 1 + 1, 0, none⟩ (.slice a6 k c6)).setCell ⟨w.heap.size + 1 + 1, 1, none⟩ (.int .i64 n)) := ((Mod.refl (fun k' => k' = w.heap.size + 1 + 1) wr).setCell (p := ⟨w.heap.size + 1 + 1, 0, none⟩) (fun _ => rfl) _).setCell (p := ⟨w.heap.size + 1 + 1, 1, none⟩) (fun _ => rfl) _
      have e0' := cell_of_row _ _ 0 _ _ _ z1; have e1' := cell_of_row _ _ 1 _ _ _ z1
      simp at e0' e1'
      have hlen : (thenXs xs ys).length = ys.length := by simp [thenXs]
      refine bodyPost_ret (v := .tuple #[.agg #[.slice a6 ys.length c6, .int .i64 n], .int .i64 0]) (by simp [results, Try.results22, go_sem, e0', e1', HEND.out]) rfl ⟨a6, c6, rfl, ?_, fun g hg => ?_, HPU.out.then hWf (fun g hg h => by omega)⟩
      · unfold U32Row
        rw [hlen, HEND.out]
        have := owns_mod HO6.out hWf (fun g hg => by have := HF6.out g hg; omega)
        rw [← HEND.out, List.take_length, HEND.out] at this
        exact this
      · rw [HEND.out] at hg
        have := HF6.out g hg; omega
end Go.Proofs.Ytbjiebhbmpafpaa
