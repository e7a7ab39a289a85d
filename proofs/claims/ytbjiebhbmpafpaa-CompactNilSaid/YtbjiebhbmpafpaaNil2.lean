/- CompactNil answers true, whatever the slot number. No condition. -/
import Derived.Test.YtbjiebhbmpafpaaNil
namespace Go.Proofs.Ytbjiebhbmpafpaa
open Go.RowKit Go.Shelf
set_option maxRecDepth 100000

theorem nil_row (w : World) : U32Row w none 0 [] := World.ownsRow_nil _ _ _ _
theorem rising0 : Rising [] := ⟨by decide, by decide, by decide⟩
theorem toM_nil (o : Nat) : decide (toM [] o = (0, 9)) = true := by simp [toM]
theorem fromM_nil (o : Nat) : decide (fromM [] o = (0, 9)) = true := by simp [fromM]

/-- Between the calls: boxes of zero moves at b. -/
def ZBox (w : World) (b : Nat) (W : World) : Prop := W.heap[b]? = some (.cells #[.slice none 0 0, .int .i64 0] 34 (0, 0)) ∧ Pure w W
theorem ZBox.pure {w : World} {b : Nat} {W W' : World} (h : ZBox w b W) (hq : Pure W W') : ZBox w b W' := ⟨hq.heap (fun h => h) h.1, h.2.trans hq⟩
theorem ZBox.c0 {w : World} {b : Nat} {W : World} (h : ZBox w b W) : W.cell? ⟨b, 0, none⟩ = some (.slice none 0 0) ∧ W.cell? ⟨b, 1, none⟩ = some (.int .i64 0) := by
  have h0 := cell_of_row W b 0 _ _ _ h.1
  have h1 := cell_of_row W b 1 _ _ _ h.1
  simp at h0 h1
  exact ⟨h0, h1⟩
theorem ZBox.new (w W : World) (h : Pure w W) : ZBox w W.heap.size (W.alloc (.cells #[.slice none 0 0, .int .i64 0] 34)) := ⟨heap_new rfl, h.alloc _⟩

/-- A zero log at q, a zero dictionary at q2 besides. -/
def LZ (w : World) (b q q2 : Nat) (W : World) : Prop := ZBox w b W ∧ W.cell? ⟨q, 0, none⟩ = some (.bool false) ∧ W.cell? ⟨q2, 3, none⟩ = some (.pointer none)
theorem LZ.pure {w : World} {b q q2 : Nat} {W W' : World} (h : LZ w b q q2 W) (hq : Pure W W') : LZ w b q q2 W' := ⟨h.1.pure hq, hq.cell (fun h => h) h.2.1, hq.cell (fun h => h) h.2.2⟩
theorem LZ.new {w : World} {b : Nat} {W : World} (h : ZBox w b W) :
    LZ w b W.heap.size (W.heap.size + 1) ((W.alloc (.cells #[.bool false, .slice none 0 0, .int .i64 0] 107)).alloc (.cells #[.pointer none, .int .u64 0, .bool false, .pointer none] 113)) := by
  refine ⟨h.pure (((Mod.refl _ W).alloc _).alloc _), ?_, ?_⟩
  · simp
  · simp

set_option maxHeartbeats 1000000 in
theorem CompactNil_true (w : World) (s : Int) (s0 : 0 ≤ s) (s1 : s ≤ 4294967295) : Calls Try.prog 12 #[.int .u32 s] w fun e w' => e = .returned (.bool true) ∧ Pure w w' := by
  have hst : 0 ≤ s ∧ s ≤ 4294967295 ∧ (0 : Int) ≤ 0 ∧ (0 : Int) ≤ 9 := ⟨s0, s1, by omega, by omega⟩
  have H0 := Lib.hid (ZBox.new w w (Mod.refl _ w))
  have HS := Lib.hid hst
  clear hst s0 s1
  go_enter Try.func12, Try.ntmps12
  go_wp2
  generalize w.alloc (.cells #[.slice none 0 0, .int .i64 0] 34) = W at H0 ⊢
  generalize w.heap.size = b at H0 ⊢
  refine wp_loop_rounds 3 ?_
  rw [rounds_succ]
  go_upto_region 10 with (go_at_call 18; refine Calls.mono (compact_nil _) ?_; rintro e w1 ⟨rfl, hp1⟩; replace H0 := Lib.hid (H0.out.pure hp1); clear hp1)
  have HA := Lib.hid (ZBox.new w w1 H0.out.2)
  replace H0 := Lib.hid (H0.out.pure ((Mod.refl _ w1).alloc (.cells #[.slice none 0 0, .int .i64 0] 34)))
  
  generalize w1.alloc (.cells #[.slice none 0 0, .int .i64 0] 34) = W1 at HA H0 ⊢
  generalize w1.heap.size = b8 at HA ⊢
  go_upto_region 11 with (go_at_call 56; refine Calls.mono (compact_Dict_nil _) ?_; rintro e w2 ⟨rfl, hp2⟩; replace H0 := Lib.hid (H0.out.pure hp2); replace HA := Lib.hid (HA.out.pure hp2); clear hp2)
  have HB := Lib.hid (ZBox.new w w2 H0.out.2)
  replace H0 := Lib.hid (H0.out.pure ((Mod.refl _ w2).alloc (.cells #[.slice none 0 0, .int .i64 0] 34)))
  replace HA := Lib.hid (HA.out.pure ((Mod.refl _ w2).alloc (.cells #[.slice none 0 0, .int .i64 0] 34)))
  generalize w2.alloc (.cells #[.slice none 0 0, .int .i64 0] 34) = W2 at HA HB H0 ⊢
  generalize w2.heap.size = b11 at HB ⊢
  have a0 := HA.out.c0.1; have a1 := HA.out.c0.2; have d0 := HB.out.c0.1; have d1 := HB.out.c0.2
  go_upto_region 6 with (go_at_call 32; refine Calls.mono (lensZ none 0 0 0 0 0 true (by decide)) ?_; rintro e V0 ⟨rfl, hq⟩; replace H0 := Lib.hid (H0.out.pure hq); replace HA := Lib.hid (HA.out.pure hq); replace HB := Lib.hid (HB.out.pure hq); have a0 := HA.out.c0.1; have a1 := HA.out.c0.2; have d0 := HB.out.c0.1; have d1 := HB.out.c0.2; clear hq)
  clear a0 a1 d0 d1 HA HB 
  go_wp2
  rw [rounds_succ]
  go_upto_region 9 with fail
  have HL : Hid (LZ w b V0.heap.size (V0.heap.size + 1) ((V0.alloc (.cells #[.bool false, .slice none 0 0, .int .i64 0] 107)).alloc (.cells #[.pointer none, .int .u64 0, .bool false, .pointer none] 113))) := LZ.new H0.out
  clear H0
  have H0 := Lib.hid HL.out.1
  generalize (V0.alloc (.cells #[.bool false, .slice none 0 0, .int .i64 0] 107)).alloc (.cells #[.pointer none, .int .u64 0, .bool false, .pointer none] 113) = W at HL H0 ⊢
  generalize V0.heap.size + 1 = q2 at HL ⊢
  generalize V0.heap.size = q at HL ⊢
  go_upto_region 10 with (go_at_call 18; refine Calls.mono (compact_zero q _ HL.out.2.1) ?_; rintro e w1 ⟨rfl, hp1⟩; replace H0 := Lib.hid (H0.out.pure hp1); replace HL := Lib.hid (HL.out.pure hp1); clear hp1)
  have HA := Lib.hid (ZBox.new w w1 H0.out.2)
  replace H0 := Lib.hid (H0.out.pure ((Mod.refl _ w1).alloc (.cells #[.slice none 0 0, .int .i64 0] 34)))
  replace HL := Lib.hid (HL.out.pure ((Mod.refl _ w1).alloc (.cells #[.slice none 0 0, .int .i64 0] 34))); 
  generalize w1.alloc (.cells #[.slice none 0 0, .int .i64 0] 34) = W1 at HL HA H0 ⊢
  generalize w1.heap.size = b8 at HA ⊢
  go_upto_region 11 with (go_at_call 56; refine Calls.mono (compact_Dict_zero q2 _ HL.out.2.2) ?_; rintro e w2 ⟨rfl, hp2⟩; replace H0 := Lib.hid (H0.out.pure hp2); replace HA := Lib.hid (HA.out.pure hp2); clear hp2)
  have HB := Lib.hid (ZBox.new w w2 H0.out.2)
  replace H0 := Lib.hid (H0.out.pure ((Mod.refl _ w2).alloc (.cells #[.slice none 0 0, .int .i64 0] 34)))
  replace HA := Lib.hid (HA.out.pure ((Mod.refl _ w2).alloc (.cells #[.slice none 0 0, .int .i64 0] 34)))
  generalize w2.alloc (.cells #[.slice none 0 0, .int .i64 0] 34) = W2 at HA HB H0 ⊢
  generalize w2.heap.size = b11 at HB ⊢
  have a0 := HA.out.c0.1; have a1 := HA.out.c0.2; have d0 := HB.out.c0.1; have d1 := HB.out.c0.2
  go_upto_region 6 with (go_at_call 32; refine Calls.mono (lensZ none 0 0 0 0 0 true (by decide)) ?_; rintro e V1 ⟨rfl, hq⟩; replace H0 := Lib.hid (H0.out.pure hq); replace HA := Lib.hid (HA.out.pure hq); replace HB := Lib.hid (HB.out.pure hq); have a0 := HA.out.c0.1; have a1 := HA.out.c0.2; have d0 := HB.out.c0.1; have d1 := HB.out.c0.2; clear hq)
  clear a0 a1 d0 d1 HA HB HL
  go_wp2
  rw [rounds_succ]
  go_upto_region 13 with fail
  have m0 := H0.out.c0.1; have m1 := H0.out.c0.2
  go_upto_region 14 with (go_at_call 22; refine Calls.mono (ThenZ (nil_row _) (nil_row _) 0 [] 0 0 0 0 (by simp) (by decide) (by simp) (by decide) rfl rfl rfl rfl rfl) ?_; rintro e w7 ⟨a7, c7, rfl, hr7, hf7, hp7⟩; replace H0 := Lib.hid (H0.out.pure hp7); clear hp7)
  have HN : Hid ((w7.alloc (.cells #[.slice a7 0 c7, .int .i64 0] 34)).heap[w7.heap.size]? = some (.cells #[.slice a7 0 c7, .int .i64 0] 34 (0, 0))) := heap_new rfl
  replace H0 := Lib.hid (H0.out.pure ((Mod.refl _ w7).alloc (.cells #[.slice a7 0 c7, .int .i64 0] 34)))
  clear m0 m1 hr7 hf7
  generalize w7.alloc (.cells #[.slice a7 0 c7, .int .i64 0] 34) = W7 at H0 HN ⊢
  generalize w7.heap.size = b13 at HN ⊢
  have m0 := H0.out.c0.1; have m1 := H0.out.c0.2; have n0 := cell_of_row W7 b13 0 _ _ _ HN.out; have n1 := cell_of_row W7 b13 1 _ _ _ HN.out
  simp at n0 n1
  go_wp2_with (first
    | (go_at_call 32; refine Calls.mono (lensZ _ _ 0 0 0 0 true (by decide)) ?_; rintro e W3 ⟨rfl, hq⟩; replace H0 := Lib.hid (H0.out.pure hq); replace HN := Lib.hid (hq.heap (fun h => h) HN.out); have m0 := H0.out.c0.1; have m1 := H0.out.c0.2; have n0 := cell_of_row _ b13 0 _ _ _ HN.out; have n1 := cell_of_row _ b13 1 _ _ _ HN.out; simp at n0 n1; clear hq)
    | (go_at_call 30; refine Calls.mono (toZ (nil_row _) rising0 0 rfl 0 s 0 9 true HS.out (toM_nil _)) ?_; rintro e W3 ⟨rfl, hq⟩; replace H0 := Lib.hid (H0.out.pure hq); replace HN := Lib.hid (hq.heap (fun h => h) HN.out); have m0 := H0.out.c0.1; have m1 := H0.out.c0.2; have n0 := cell_of_row _ b13 0 _ _ _ HN.out; have n1 := cell_of_row _ b13 1 _ _ _ HN.out; simp at n0 n1; clear hq)
    | (go_at_call 31; refine Calls.mono (fromZ (nil_row _) (by decide) 0 rfl 0 s 0 9 true HS.out (fromM_nil _)) ?_; rintro e W3 ⟨rfl, hq⟩; replace H0 := Lib.hid (H0.out.pure hq); replace HN := Lib.hid (hq.heap (fun h => h) HN.out); have m0 := H0.out.c0.1; have m1 := H0.out.c0.2; have n0 := cell_of_row _ b13 0 _ _ _ HN.out; have n1 := cell_of_row _ b13 1 _ _ _ HN.out; simp at n0 n1; clear hq)
    | (go_at_call 15; refine Calls.mono (known_true _) ?_; rintro e W3 ⟨rfl, hq⟩; replace H0 := Lib.hid (H0.out.pure hq)))
  go_ret
  exact ⟨rfl, H0.out.2⟩
end Go.Proofs.Ytbjiebhbmpafpaa
