/- law12.BirthNil answers true. -/
import Derived.Test.YtpafcocciggfpaaKnown12
namespace Go.Proofs.Ytpafcocciggfpaa
open Go.RowKit Go.Shelf
set_option maxRecDepth 100000

theorem after12_nil {w : World} {v : Value} (hz : IsZ w v) (b : Int) : Calls Try.prog 27 #[v, .int .u64 b, .int .u32 0, .int .i64 1] w fun e w' => e = .returned (.bool true) ∧ Pure w w' := by
  have HA := Lib.hid (After_nil hz b)
  clear hz
  go_enter Try.func27, Try.ntmps27
  go_wp2_with (go_at_call 60; refine Calls.mono HA.out ?_; rintro e w1 ⟨rfl, hp1⟩)
  go_ret
  exact ⟨rfl, hp1⟩
theorem finds12_nil {w : World} {v : Value} (hz : IsZ w v) (b : Int) : Calls Try.prog 28 #[v, .int .u64 b, .int .u32 0, .int .i64 1] w fun e w' => e = .returned (.bool true) ∧ Pure w w' := by
  have HA := Lib.hid (FindB_nil hz b)
  clear hz
  go_enter Try.func28, Try.ntmps28
  go_wp2_with (go_at_call 61; refine Calls.mono HA.out ?_; rintro e w1 ⟨rfl, hp1⟩)
  go_ret
  exact ⟨rfl, hp1⟩
set_option maxHeartbeats 1000000 in
theorem BirthNil_true (b : Int) (_ : 0 ≤ b) (_ : b ≤ 18446744073709551615) {w : World} : Calls Try.prog 5 #[.int .u64 b] w fun e w' => e = .returned (.bool true) ∧ Pure w w' := by
  go_enter Try.func5, Try.ntmps5
  go_upto_region 4 with fail
  go_loopw [3, 4, 5] (fun v3 v4 v5 wr => ∃ i, v5 = .int .i64 (i : Nat) ∧ i ≤ 2 ∧ NilC wr v3 ∧ NilD wr v4 ∧ Pure w wr) (fun _ _ v5 _ => 2 - (intOf v5).toNat)
  case atStart => exact ⟨0, rfl, by omega, .inl rfl, .inl rfl, Mod.refl _ _⟩
  case round =>
    obtain ⟨i, rfl, hi, hc, hd, hp⟩ := hrel
    have hcase : i = 0 ∨ i = 1 ∨ i = 2 := by omega
    rcases hcase with rfl | rfl | rfl
    · have HC := Lib.hid hc; have HD := Lib.hid hd; have HP := Lib.hid hp
      clear hc hd hp
      go_wp2_with (first
        | (go_at_call 25; refine Calls.mono (Rank_nil (isZ_nil HD.out) b) ?_; rintro e w1 ⟨rfl, hp1⟩; replace HC := Lib.hid (HC.out.pure hp1); replace HD := Lib.hid (HD.out.pure hp1); replace HP := Lib.hid (HP.out.trans hp1); clear hp1)
        | (go_at_call 24; refine Calls.mono (gives12_nil HC.out) ?_; rintro e w2 ⟨rfl, rfl⟩)
        | (go_at_call 21; refine Calls.mono (CLast_nil HC.out) ?_; rintro e w2 ⟨rfl, rfl⟩)
        | (go_at_call 20; refine Calls.mono (CCopy_nil HC.out) ?_; rintro e w2 ⟨rfl, rfl⟩)
        | (go_at_call 26; refine Calls.mono (Sorted_ok (allOf_nil HD.out)) ?_; rintro e w1 ⟨rfl, hp1⟩; replace HC := Lib.hid (HC.out.pure hp1); replace HD := Lib.hid (HD.out.pure hp1); replace HP := Lib.hid (HP.out.trans hp1); clear hp1; rw [show sortedF 0 (live []) = true from rfl])
        | (go_at_call 27; refine Calls.mono (after12_nil (isZ_nil HD.out) b) ?_; rintro e w1 ⟨rfl, hp1⟩; replace HC := Lib.hid (HC.out.pure hp1); replace HD := Lib.hid (HD.out.pure hp1); replace HP := Lib.hid (HP.out.trans hp1); clear hp1)
        | (go_at_call 28; refine Calls.mono (finds12_nil (isZ_nil HD.out) b) ?_; rintro e w1 ⟨rfl, hp1⟩; replace HC := Lib.hid (HC.out.pure hp1); replace HD := Lib.hid (HD.out.pure hp1); replace HP := Lib.hid (HP.out.trans hp1); clear hp1))
      go_roundw
      case rel => exact ⟨1, by go_num, by omega, HC.out, HD.out, HP.out⟩
      case measure => simp [intOf]
    · have hp1 : Pure wr ((wr.alloc (.cells #[.bool false, .int .u64 0] 63)).alloc (.cells #[.pointer none, .int .u64 0, .bool false, .pointer none] 69)) := ((Mod.refl _ wr).alloc _).alloc _
      have z1 := heap_keep (o := .cells #[.pointer none, .int .u64 0, .bool false, .pointer none] 69) (heap_new (w := wr) (o := .cells #[.bool false, .int .u64 0] 63 (0, 0)) rfl)
      have z2 := heap_new (w := wr.alloc (.cells #[.bool false, .int .u64 0] 63)) (o := .cells #[.pointer none, .int .u64 0, .bool false, .pointer none] 69 (0, 0)) (n := wr.heap.size + 1) (by simp)
      have HP := Lib.hid (hp.trans hp1)
      clear hc hd hp hp1
      go_upto_region 8 with fail
      generalize ((wr.alloc (.cells #[.bool false, .int .u64 0] 63)).alloc (.cells #[.pointer none, .int .u64 0, .bool false, .pointer none] 69)) = W1 at *
      have HC : Hid (NilC W1 (.pointer (some ⟨wr.heap.size, 0, none⟩))) := .inr ⟨_, rfl, z1⟩
      have HD : Hid (NilD W1 (.pointer (some ⟨wr.heap.size + 1, 0, none⟩))) := .inr ⟨_, rfl, z2⟩
      clear z1 z2
      go_wp2_with (first
        | (go_at_call 25; refine Calls.mono (Rank_nil (isZ_nil HD.out) b) ?_; rintro e w1 ⟨rfl, hp1⟩; replace HC := Lib.hid (HC.out.pure hp1); replace HD := Lib.hid (HD.out.pure hp1); replace HP := Lib.hid (HP.out.trans hp1); clear hp1)
        | (go_at_call 24; refine Calls.mono (gives12_nil HC.out) ?_; rintro e w2 ⟨rfl, rfl⟩)
        | (go_at_call 21; refine Calls.mono (CLast_nil HC.out) ?_; rintro e w2 ⟨rfl, rfl⟩)
        | (go_at_call 20; refine Calls.mono (CCopy_nil HC.out) ?_; rintro e w2 ⟨rfl, rfl⟩)
        | (go_at_call 26; refine Calls.mono (Sorted_ok (allOf_nil HD.out)) ?_; rintro e w1 ⟨rfl, hp1⟩; replace HC := Lib.hid (HC.out.pure hp1); replace HD := Lib.hid (HD.out.pure hp1); replace HP := Lib.hid (HP.out.trans hp1); clear hp1; rw [show sortedF 0 (live []) = true from rfl])
        | (go_at_call 27; refine Calls.mono (after12_nil (isZ_nil HD.out) b) ?_; rintro e w1 ⟨rfl, hp1⟩; replace HC := Lib.hid (HC.out.pure hp1); replace HD := Lib.hid (HD.out.pure hp1); replace HP := Lib.hid (HP.out.trans hp1); clear hp1)
        | (go_at_call 28; refine Calls.mono (finds12_nil (isZ_nil HD.out) b) ?_; rintro e w1 ⟨rfl, hp1⟩; replace HC := Lib.hid (HC.out.pure hp1); replace HD := Lib.hid (HD.out.pure hp1); replace HP := Lib.hid (HP.out.trans hp1); clear hp1))
      go_roundw
      case rel => exact ⟨2, by go_num, by omega, HC.out, HD.out, HP.out⟩
      case measure => simp [intOf]
    · have HP := Lib.hid hp
      clear hc hd hp
      go_wp2_with (go_at_call 18; refine Calls.mono (known12_true _) ?_; rintro e w1 ⟨rfl, hp1⟩)
      go_ret
      exact ⟨rfl, HP.out.trans hp1⟩
end Go.Proofs.Ytpafcocciggfpaa
