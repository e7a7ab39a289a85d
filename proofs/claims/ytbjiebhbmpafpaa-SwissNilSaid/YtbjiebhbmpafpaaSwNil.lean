/- law07.SwissNil answers true. -/
import Derived.Test.YtbjiebhbmpafpaaZero7
import Derived.Test.YtbjiebhbmpafpaaKnown7
namespace Go.Proofs.Ytbjiebhbmpafpaa
open Go.RowKit Go.Shelf
set_option maxRecDepth 100000
set_option maxHeartbeats 4000000 in
theorem SwissNil_true (s l g : Int) {w : World} : Calls Try.prog 11 #[.int .u64 s, .int .u32 l, .int .i64 g] w fun e w' => e = .returned (.bool true) ∧ Pure w w' := by
  have hp : Pure w ((w.alloc (.cells #[.slice none 0 0, .int .i64 0, .int .i64 0] 98)).alloc (.cells #[.pointer none, .pointer (some ⟨w.heap.size, 0, none⟩)] 69)) := by (repeat' (first | (with_reducible exact Mod.refl _ _) | (with_reducible refine Mod.alloc ?_ _) | (with_reducible refine Mod.drew ?_) | (with_reducible refine Mod.drewN ?_ _) | (with_reducible refine Mod.setCell ?_ ?_ _) | (refine Mod.then ?_ (by with_reducible assumption) ?_)))
  have h1 : ((w.alloc (.cells #[.slice none 0 0, .int .i64 0, .int .i64 0] 98)).alloc (.cells #[.pointer none, .pointer (some ⟨w.heap.size, 0, none⟩)] 69)).heap[w.heap.size]? = some (.cells #[.slice none 0 0, .int .i64 0, .int .i64 0] 98 (0, 0)) := heap_keep (heap_new rfl)
  have h2 : ((w.alloc (.cells #[.slice none 0 0, .int .i64 0, .int .i64 0] 98)).alloc (.cells #[.pointer none, .pointer (some ⟨w.heap.size, 0, none⟩)] 69)).heap[w.heap.size + 1]? = some (.cells #[.pointer none, .pointer (some ⟨w.heap.size, 0, none⟩)] 69 (0, 0)) := heap_new (by simp)
  go_enter Try.func11, Try.ntmps11
  go_upto_region 3 with fail
  generalize (w.alloc (.cells #[.slice none 0 0, .int .i64 0, .int .i64 0] 98)).alloc (.cells #[.pointer none, .pointer (some ⟨w.heap.size, 0, none⟩)] 69) = W1 at *
  obtain ⟨b, hbe⟩ : ∃ b, w.heap.size = b := ⟨_, rfl⟩
  rw [hbe] at h1 h2 ⊢
  clear hbe
  have HP := Lib.hid hp; have H1 := Lib.hid h1; have H2 := Lib.hid h2
  clear hp h1 h2
  go_loopw [27] (fun k wr => ∃ i, k = .int .i64 (i : Nat) ∧ i ≤ 2 ∧ Pure w wr ∧ wr.heap[b]? = some (.cells #[.slice none 0 0, .int .i64 0, .int .i64 0] 98 (0, 0)) ∧ wr.heap[b + 1]? = some (.cells #[.pointer none, .pointer (some ⟨b, 0, none⟩)] 69 (0, 0))) (fun k _ => 2 - (intOf k).toNat)
  case atStart => exact ⟨0, rfl, by omega, HP.out, H1.out, H2.out⟩
  case round =>
    obtain ⟨i, rfl, hi, hpu, k1, k2⟩ := hrel
    have HPU := Lib.hid hpu; have K1 := Lib.hid k1
    clear HP H1 H2 hpu
    by_cases hlt : i < 2
    · have hz : ∃ v, ZIx wr v ∧ wr.cell? ⟨b + 1, i, none⟩ = some v := by
        have : i = 0 ∨ i = 1 := by omega
        rcases this with rfl | rfl
        · exact ⟨_, .inl rfl, by have := cell_of_row wr _ 0 _ _ _ k2; simpa using this⟩
        · exact ⟨_, .inr ⟨b, rfl, k1⟩, by have := cell_of_row wr _ 1 _ _ _ k2; simpa using this⟩
      obtain ⟨v, hz, zc⟩ := hz
      have hlt' : (i : Int) < 2 := by omega
      have K2 := Lib.hid k2
      have HZ := Lib.hid hz
      have H0 := Lib.hid (Mod.refl (fun _ => False) wr)
      clear k1 k2 hz
      go_upto_region 7 with (first
        | (go_at_call 49; refine Calls.mono (zFind_ok HZ.out s) ?_; rintro e w2 ⟨rfl, hq⟩; replace HZ := Lib.hid (HZ.out.pure hq); replace H0 := Lib.hid (H0.out.trans hq); clear hq)
        | (go_at_call 42; refine Calls.mono (zRehash_ok HZ.out g) ?_; rintro e w3 ⟨rfl, hq⟩; replace HZ := Lib.hid (HZ.out.pure hq); replace H0 := Lib.hid (H0.out.trans hq); clear hq))
      go_upto_region 9 with (first
        | (go_at_call 52; refine Calls.mono (zLayout_ok HZ.out) ?_; rintro e w4 ⟨rfl, hq⟩; replace HZ := Lib.hid (HZ.out.pure hq); replace H0 := Lib.hid (H0.out.trans hq); clear hq)
        | (go_at_call 37; refine Calls.mono (zInsert_ok HZ.out s l) ?_; rintro e w5 ⟨rfl, hq⟩; replace HZ := Lib.hid (HZ.out.pure hq); replace H0 := Lib.hid (H0.out.trans hq); clear hq)
        | (go_at_call 41; refine Calls.mono (zRemove_ok HZ.out s l) ?_; rintro e w6 ⟨rfl, hq⟩; replace HZ := Lib.hid (HZ.out.pure hq); replace H0 := Lib.hid (H0.out.trans hq); clear hq)
        | (go_at_call 53; refine Calls.mono (zReplace_ok HZ.out s l 1) ?_; rintro e w7 ⟨rfl, hq⟩; replace HZ := Lib.hid (HZ.out.pure hq); replace H0 := Lib.hid (H0.out.trans hq); clear hq)
        | (go_at_call 54; refine Calls.mono (zGroups_ok HZ.out) ?_; rintro e w8 ⟨rfl, hq⟩; replace HZ := Lib.hid (HZ.out.pure hq); replace H0 := Lib.hid (H0.out.trans hq); clear hq)
        | (go_at_call 39; refine Calls.mono (zLen_ok HZ.out) ?_; rintro e w9 ⟨rfl, hq⟩; replace HZ := Lib.hid (HZ.out.pure hq); replace H0 := Lib.hid (H0.out.trans hq); clear hq)
        | (go_at_call 44; refine Calls.mono (zTombs_ok HZ.out) ?_; rintro e w10 ⟨rfl, hq⟩; replace HZ := Lib.hid (HZ.out.pure hq); replace H0 := Lib.hid (H0.out.trans hq); clear hq)
        | (go_at_call 55; refine Calls.mono (zCopy_ok HZ.out) ?_; rintro e w11 ⟨rfl, hq⟩; replace HZ := Lib.hid (HZ.out.pure hq); replace H0 := Lib.hid (H0.out.trans hq); clear hq))
      exact ⟨⟨i + 1, by go_num, by omega, HPU.out.trans H0.out, H0.out.heap (fun h => h) K1.out, H0.out.heap (fun h => h) K2.out⟩, by simp [intOf]; omega⟩
    · have hlt' : (2 : Int) ≤ (i : Int) := by omega
      clear k1 k2 K1
      have HN := Lib.hid (fun W => New_ok 1 W pow_one)
      go_upto_region 14 with (go_at_call 36; refine Calls.mono (HN.out _) ?_; rintro e w2 hq; obtain ⟨p, sv, rfl, hH0, _⟩ := Has.mk_new HPU.out hq; clear hq; have H0 := Lib.hid hH0; clear hH0)
      go_upto_region 15 with (go_at_call 49; refine Calls.mono (nFind_ok H0.out s) ?_; rintro e w3 ⟨rfl, rfl⟩)
      go_upto_region 16 with (go_at_call 42; refine Calls.mono (nRehash_ok H0.out 2 ⟨1, by decide, rfl⟩) ?_; rintro e w4 ⟨rfl, hq⟩; replace H0 := Lib.hid (H0.out.pure hq); clear hq)
      go_wp2_with (go_at_call 35; refine Calls.mono (known7_true _) ?_; rintro e w5 ⟨rfl, hq⟩)
      go_ret
      exact ⟨rfl, H0.out.pu.trans hq⟩
end Go.Proofs.Ytbjiebhbmpafpaa
