/- Lemmas and contracts of functions, strung together out of 4 texts. No condition. -/
import Derived.Test.YtapplindfijngaaJPfDictHolds10
import Derived.Test.YtapplindfijngaaJPfDictHolds4
/- growth.power, bound, Remove; bits.Len of small numbers. -/
namespace Go.Proofs.Ytapplindfijngaa
open Go.RowKit Go.Shelf
set_option maxRecDepth 100000

/-- How many bits a number has. -/
def blen (n : Nat) : Nat := if n = 0 then 0 else Nat.log2 n + 1
theorem blen_lt (n : Nat) : n < 2 ^ blen n := by
  unfold blen
  split
  · rename_i h; subst h; decide
  · exact Nat.lt_log2_self
theorem blen_le {n k : Nat} (h : n < 2 ^ k) : blen n ≤ k := by
  unfold blen
  split
  · exact Nat.zero_le _
  · rename_i h0
    exact (Nat.log2_lt h0).2 h
theorem blen_min {n k : Nat} (h1 : 2 ^ k ≤ n) (h2 : n < 2 ^ (k + 1)) : blen n = k + 1 := by
  have h0 : n ≠ 0 := by have := Nat.pow_pos (n := k) (show 0 < 2 by decide); omega
  unfold blen
  rw [if_neg h0]
  have h3 : n.log2 < k + 1 := (Nat.log2_lt h0).2 h2
  have h4 : ¬ n.log2 < k := fun h => by have := (Nat.log2_lt h0).1 h; omega
  omega
theorem blen_div {n j : Nat} (h : 2 ^ j ≤ n) : blen n = blen (n / 2 ^ j) + j := by
  have hp := Nat.pow_pos (n := j) (show 0 < 2 by decide)
  have h0 : n ≠ 0 := by omega
  have h1 : n / 2 ^ j ≠ 0 := by have := Nat.div_pos h hp; omega
  have e : n.log2 = (n / 2 ^ j).log2 + j := by
    have h2 : (n / 2 ^ j) < 2 ^ ((n / 2 ^ j).log2 + 1) := Nat.lt_log2_self
    have h3 : 2 ^ (n / 2 ^ j).log2 ≤ n / 2 ^ j := Nat.log2_self_le h1
    have h4 : 2 ^ ((n / 2 ^ j).log2 + j) ≤ n := by
      rw [Nat.pow_add]
      have := Nat.mul_le_mul_right (2 ^ j) h3
      exact Nat.le_trans this (Nat.div_mul_le_self n _)
    have h5 : n < 2 ^ ((n / 2 ^ j).log2 + j + 1) := by
      have h6 := Nat.lt_mul_of_div_lt h2 hp
      rw [show (n / 2 ^ j).log2 + j + 1 = j + ((n / 2 ^ j).log2 + 1) by omega, Nat.pow_add]
      rw [Nat.mul_comm]; exact h6
    have h7 : n.log2 < (n / 2 ^ j).log2 + j + 1 := (Nat.log2_lt h0).2 h5
    have h8 : ¬ n.log2 < (n / 2 ^ j).log2 + j := fun h => by have := (Nat.log2_lt h0).1 h; omega
    omega
  unfold blen
  rw [if_neg h0, if_neg h1, e]
  omega
theorem blen_table (s : ByteArray) (hs : s.size = 256) (h : ∀ k (hk : k < 256), wrap64 ((s[k]'(by omega)).toNat : Int) = blen k) (m : Nat) (hm : m < 256) (hms : m < s.size) : wrap64 ((s[m]'hms).toNat : Int) = blen m := h m hm
theorem len_end (y : Int) (s : ByteArray) (hs : s.size = 256) (h : ∀ k (hk : k < 256), wrap64 ((s[k]'(by omega)).toNat : Int) = blen k) (m : Nat) (hm : m < 256) (hms : m < s.size) (n : Nat) (hb : (blen n : Int) = y + blen m) (h0 : 0 ≤ y ∧ y ≤ 100) :
    wrap64 (y + wrap64 ((s[m]'hms).toNat : Int)) = (blen n : Int) := by
  rw [blen_table s hs h m hm hms, ← hb]
  have : blen m ≤ 8 := blen_le (by omega)
  exact IntWalk.wrap64_in _ (by omega)
theorem len_end0 (s : ByteArray) (hs : s.size = 256) (h : ∀ k (hk : k < 256), wrap64 ((s[k]'(by omega)).toNat : Int) = blen k) (m : Nat) (hm : m < 256) (hms : m < s.size) : wrap64 (wrap64 ((s[m]'hms).toNat : Int)) = (blen m : Int) := by
  have := len_end 0 s hs h m hm hms m (by omega) (by omega)
  rwa [Int.zero_add] at this
theorem Len64_ok (n : Nat) (hn : n < 4294967296) (w : World) : Calls Try.prog 93 #[.int .u64 n] w fun e w' => e = .returned (.int .i64 (blen n)) ∧ w = w' := by
  have d0 : decide (4294967296 ≤ (n : Int)) = false := decide_eq_false (by omega)
  have n0 : (0 : Int) ≤ n := by omega
  by_cases c1 : 65536 ≤ n
  · have d1 : decide (65536 ≤ (n : Int)) = true := decide_eq_true (by omega)
    have hb := blen_div (n := n) (j := 16) c1
    obtain ⟨k, hk⟩ : ∃ k, n / 2 ^ 16 = k := ⟨_, rfl⟩
    have e1 : (n : Int) / 65536 = (k : Int) := by omega
    have hk2 : k < 65536 := by omega
    rw [hk] at hb
    have k0 : (0 : Int) ≤ k := by omega
    by_cases c2 : 256 ≤ k
    · have d2 : decide (256 ≤ (k : Int)) = true := decide_eq_true (by omega)
      have hb2 := blen_div (n := k) (j := 8) c2
      obtain ⟨m, hm⟩ : ∃ m, k / 2 ^ 8 = m := ⟨_, rfl⟩
      have e2 : (k : Int) / 256 = (m : Int) := by omega
      have hm2 : m < 256 := by omega
      rw [hm] at hb2
      have m0 : (0 : Int) ≤ m := by omega
      have m1 : (m : Int) < 256 := by omega
      have w8 : IntKind.u8.wrap (m : Int) = m := by simp [IntKind.wrap, IntKind.signed, IntKind.bits]; omega
      go_enter Try.func93, Try.ntmps93
      go_wp2
      go_ret
      exact ⟨congrArg (fun x => Ending.returned (.int .i64 x)) (len_end 24 _ (by decide) (by decide +kernel) m hm2 _ n (by omega) (by omega)), rfl⟩
    · have d2 : decide (256 ≤ (k : Int)) = false := decide_eq_false (by omega)
      have m1 : (k : Int) < 256 := by omega
      have w8 : IntKind.u8.wrap (k : Int) = k := by simp [IntKind.wrap, IntKind.signed, IntKind.bits]; omega
      go_enter Try.func93, Try.ntmps93
      go_wp2
      go_ret
      exact ⟨congrArg (fun x => Ending.returned (.int .i64 x)) (len_end 16 _ (by decide) (by decide +kernel) k (by omega) _ n (by omega) (by omega)), rfl⟩
  · have d1 : decide (65536 ≤ (n : Int)) = false := decide_eq_false (by omega)
    by_cases c2 : 256 ≤ n
    · have d2 : decide (256 ≤ (n : Int)) = true := decide_eq_true (by omega)
      have hb2 := blen_div (n := n) (j := 8) c2
      obtain ⟨m, hm⟩ : ∃ m, n / 2 ^ 8 = m := ⟨_, rfl⟩
      have e2 : (n : Int) / 256 = (m : Int) := by omega
      have hm2 : m < 256 := by omega
      rw [hm] at hb2
      have m0 : (0 : Int) ≤ m := by omega
      have m1 : (m : Int) < 256 := by omega
      have w8 : IntKind.u8.wrap (m : Int) = m := by simp [IntKind.wrap, IntKind.signed, IntKind.bits]; omega
      go_enter Try.func93, Try.ntmps93
      go_wp2
      go_ret
      exact ⟨congrArg (fun x => Ending.returned (.int .i64 x)) (len_end 8 _ (by decide) (by decide +kernel) m hm2 _ n (by omega) (by omega)), rfl⟩
    · have d2 : decide (256 ≤ (n : Int)) = false := decide_eq_false (by omega)
      have m1 : (n : Int) < 256 := by omega
      have w8 : IntKind.u8.wrap (n : Int) = n := by simp [IntKind.wrap, IntKind.signed, IntKind.bits]; omega
      go_enter Try.func93, Try.ntmps93
      go_wp2
      go_ret
      exact ⟨congrArg (fun x => Ending.returned (.int .i64 x)) (len_end0 _ (by decide) (by decide +kernel) n (by omega) _), rfl⟩
theorem Len_ok (n : Nat) (hn : n < 4294967296) (w : World) : Calls Try.prog 91 #[.int .u64 n] w fun e w' => e = .returned (.int .i64 (blen n)) ∧ w = w' := by
  have HL := Lib.hid (fun W => Len64_ok n hn W)
  go_enter Try.func91, Try.ntmps91
  go_wp2_with (go_at_call 93; refine Calls.mono (HL.out _) ?_; rintro e w' ⟨rfl, rfl⟩)
  go_ret
  exact ⟨rfl, rfl⟩
theorem power_ok (n : Nat) (h1 : 1 ≤ n) (hn : n ≤ 1073741824) (w : World) : Calls Try.prog 82 #[.int .i64 n] w fun e w' => e = .returned (.int .i64 (2 ^ blen (n - 1) : Nat)) ∧ w = w' := by
  have HL := Lib.hid (fun W => Len_ok (n - 1) (by omega) W)
  have e1 : IntKind.i64.wrap ((n : Int) - 1) = ((n - 1 : Nat) : Int) := by rw [IntWalk.i64_in _ (by omega)]; omega
  have e2 : IntKind.u64.wrap ((n - 1 : Nat) : Int) = ((n - 1 : Nat) : Int) := u64_wrap _ (by omega)
  have hb : blen (n - 1) ≤ 30 := blen_le (by omega)
  have b0 : (0 : Int) ≤ (blen (n - 1) : Int) := by omega
  generalize n - 1 = m at *
  generalize blen m = k at *
  go_enter Try.func82, Try.ntmps82
  go_wp2_with (go_at_call 91; refine Calls.mono (HL.out _) ?_; rintro e w' ⟨rfl, rfl⟩)
  go_ret
  refine ⟨?_, rfl⟩
  have hk : 2 ^ k ≤ 2 ^ 30 := Nat.pow_le_pow_right (by decide) hb
  have e3 : (2 : Int) ^ k = ((2 ^ k : Nat) : Int) := by simp
  have e4 : wrap64 ((2 : Int) ^ k) = ((2 ^ k : Nat) : Int) := by rw [e3]; exact w64_nat _ (by omega)
  exact congrArg (fun x => Ending.returned (.int .i64 x)) e4
/-- The maximum number of lanes for some slot numbers. -/
def boundM (live : Nat) : Nat := 2 ^ blen (4 * live + 15)
theorem boundM_le (live : Nat) : 4 * live + 16 ≤ boundM live := by have := blen_lt (4 * live + 15); unfold boundM; omega
theorem boundM_min {live j : Nat} (h : 4 * live + 16 ≤ 2 ^ j) : boundM live ≤ 2 ^ j := Nat.pow_le_pow_right (by decide) (blen_le (by omega))
theorem boundM_pow {live : Nat} (hlt : boundM live < 8388608) : ∃ k, k ≤ 19 ∧ boundM live = 8 * 2 ^ k := by
  have h1 := boundM_le live
  unfold boundM at h1 hlt ⊢
  obtain ⟨b, hb⟩ : ∃ b, blen (4 * live + 15) = b := ⟨_, rfl⟩
  rw [hb] at h1 hlt ⊢
  have h3 : 3 ≤ b := by
    by_cases c : 3 ≤ b
    · exact c
    · have : 2 ^ b ≤ 2 ^ 2 := Nat.pow_le_pow_right (by decide) (by omega)
      omega
  have h23 : b < 23 := by
    by_cases c : b < 23
    · exact c
    · have : 2 ^ 23 ≤ 2 ^ b := Nat.pow_le_pow_right (by decide) (by omega)
      omega
  refine ⟨b - 3, by omega, ?_⟩
  rw [show b = 3 + (b - 3) by omega, Nat.pow_add]
  simp
theorem bound_ok (live : Nat) (hn : live ≤ 7340032) (w : World) : Calls Try.prog 61 #[.int .i64 live] w fun e w' => e = .returned (.int .i64 (boundM live)) ∧ w = w' := by
  have HL := Lib.hid (fun W => power_ok (4 * live + 16) (by omega) (by omega) W)
  have e0 : 4 * live + 16 - 1 = 4 * live + 15 := by omega
  rw [e0] at HL
  have e1 : IntKind.i64.wrap (4 * (live : Int)) = 4 * (live : Int) := IntWalk.i64_in _ (by omega)
  have e2 : IntKind.i64.wrap (4 * (live : Int) + 16) = ((4 * live + 16 : Nat) : Int) := by rw [IntWalk.i64_in _ (by omega)]; omega
  unfold boundM
  generalize 4 * live + 16 = z at *
  generalize 2 ^ blen (4 * live + 15) = r at *
  go_enter Try.func61, Try.ntmps61
  go_wp2_with (go_at_call 82; refine Calls.mono (HL.out _) ?_; rintro e w' ⟨rfl, rfl⟩)
  go_ret
  exact ⟨rfl, rfl⟩
/-- What is to be done after a slot number was taken out: how many groups, and whether it is made again. -/
def planR (g live : Nat) : Nat × Bool := if live ≤ 7340032 ∧ boundM live < 8 * g then (boundM live / 8, true) else (g, false)
def gremPost (w : World) (x : Nat × Bool) (e : Ending) (w' : World) : Prop := e = .returned (.tuple #[.agg #[.int .i64 (x.1 : Nat), .bool x.2], .int .i64 0]) ∧ Pure w w'
theorem planR_ok {g live : Nat} (hg : Pow g) : Pow (planR g live).1 ∧ ((planR g live).2 = true → live < 8 * (planR g live).1) ∧ ((planR g live).2 = false → (planR g live).1 = g) := by
  have hle := hg.le
  unfold planR
  split
  · rename_i h
    obtain ⟨k, hk, e⟩ := boundM_pow (live := live) (by omega)
    have h1 := boundM_le live
    rw [e, show 8 * 2 ^ k / 8 = 2 ^ k by omega]
    refine ⟨⟨k, by omega, rfl⟩, fun _ => ?_, by simp⟩
    dsimp only
    omega
  · exact ⟨hg, by simp, fun _ => rfl⟩
set_option maxHeartbeats 1000000 in
theorem gRemove_ok {g live tombs : Nat} (hg : Pow g) (h : live + tombs ≤ 8 * g) (w : World) : Calls Try.prog 36 #[.int .i64 g, .int .i64 live, .int .i64 tombs] w (gremPost w (planR g live)) := by
  have hg1 := hg.le
  have HC := Lib.hid (fun W => gcheck_ok hg h W)
  have wg : IntKind.i64.wrap ((g : Int) * 8) = (g : Int) * 8 := IntWalk.i64_in _ (by omega)
  obtain ⟨r, hr⟩ : ∃ r, planR g live = r := ⟨_, rfl⟩
  rw [hr]
  unfold planR at hr
  have hp0 : Pure w (w.alloc (.cells #[.int .i64 0, .bool false] 68)) := (Mod.refl _ w).alloc _
  have h6 := heap_new (w := w) (o := .cells #[.int .i64 0, .bool false] 68 (0, 0)) rfl
  have HP := Lib.hid hp0
  by_cases c1 : live ≤ 7340032
  · have d1 : decide ((live : Int) ≤ 7340032) = true := decide_eq_true (by omega)
    have HB := Lib.hid (fun W => bound_ok live c1 W)
    obtain ⟨bm, hbm⟩ : ∃ bm, boundM live = bm := ⟨_, rfl⟩
    rw [hbm] at HB hr
    by_cases c2 : bm < 8 * g
    · have d2 : decide ((bm : Int) < (g : Int) * 8) = true := decide_eq_true (by omega)
      rw [if_pos ⟨c1, c2⟩] at hr
      obtain ⟨q, hq⟩ : ∃ q, bm / 8 = q := ⟨_, rfl⟩
      have e8 : wrap64 ((bm : Int) / 8) = (q : Int) := by
        rw [show (bm : Int) / 8 = (q : Int) by omega]
        exact w64_nat _ (by omega)
      rw [hq] at hr
      have HR := Lib.hid hr
      clear hr hp0 hg h c1 c2 hbm
      go_enter Try.func36, Try.ntmps36
      go_upto_region 1 with fail
      generalize w.alloc (.cells #[.int .i64 0, .bool false] 68) = W1 at *
      obtain ⟨b6, hb6⟩ : ∃ b, w.heap.size = b := ⟨_, rfl⟩
      rw [hb6] at h6 ⊢
      have HB6 := Lib.hid hb6
      clear hb6
      go_upto_region 2 with (go_at_call 60; refine Calls.mono (HC.out _) ?_; rintro e w1 ⟨rfl, hp1⟩)
      have hh6 := hp1.heap (fun h => h) h6
      replace HP := Lib.hid (HP.out.trans hp1)
      clear hp1 h6
      have hh6_0 := cell_of_row _ _ 0 _ _ _ hh6; have hh6_1 := cell_of_row _ _ 1 _ _ _ hh6; have hh6_f := (fun j => frozen_of_row _ _ j _ _ hh6); have hh6_l := lt_of_block hh6; simp at hh6_0 hh6_1; have H_hh6 := Lib.hid hh6; clear hh6
      go_wp2_with (go_at_call 61; refine Calls.mono (HB.out _) ?_; rintro e w' ⟨rfl, rfl⟩)
      obtain ⟨f1, x0, x1⟩ := gfin (v0 := .int .i64 q) (v1 := .bool true) H_hh6.out HP.out (by have := HB6.out; omega) rfl
      obtain ⟨Y, hY⟩ : ∃ Y, (w1.setCell ⟨b6, 0, none⟩ (.int .i64 q)).setCell ⟨b6, 1, none⟩ (.bool true) = Y := ⟨_, rfl⟩
      rw [hY] at f1 x0 x1 ⊢
      rw [← HR.out]
      exact bodyPost_ret (v := .tuple #[.agg #[.int .i64 q, .bool true], .int .i64 0]) (by simp [results, Try.results36, go_sem, x0, x1]) rfl ⟨rfl, f1⟩
    · have d2 : decide ((bm : Int) < (g : Int) * 8) = false := decide_eq_false (by omega)
      rw [if_neg (fun h => c2 h.2)] at hr
      have HR := Lib.hid hr
      clear hr hp0 hg h c1 c2 hbm
      go_enter Try.func36, Try.ntmps36
      go_upto_region 1 with fail
      generalize w.alloc (.cells #[.int .i64 0, .bool false] 68) = W1 at *
      obtain ⟨b6, hb6⟩ : ∃ b, w.heap.size = b := ⟨_, rfl⟩
      rw [hb6] at h6 ⊢
      have HB6 := Lib.hid hb6
      clear hb6
      go_upto_region 2 with (go_at_call 60; refine Calls.mono (HC.out _) ?_; rintro e w1 ⟨rfl, hp1⟩)
      have hh6 := hp1.heap (fun h => h) h6
      replace HP := Lib.hid (HP.out.trans hp1)
      clear hp1 h6
      have hh6_0 := cell_of_row _ _ 0 _ _ _ hh6; have hh6_1 := cell_of_row _ _ 1 _ _ _ hh6; have hh6_f := (fun j => frozen_of_row _ _ j _ _ hh6); have hh6_l := lt_of_block hh6; simp at hh6_0 hh6_1; have H_hh6 := Lib.hid hh6; clear hh6
      go_wp2_with (go_at_call 61; refine Calls.mono (HB.out _) ?_; rintro e w' ⟨rfl, rfl⟩)
      obtain ⟨f1, x0, x1⟩ := gfin (v0 := .int .i64 g) (v1 := .bool false) H_hh6.out HP.out (by have := HB6.out; omega) rfl
      obtain ⟨Y, hY⟩ : ∃ Y, (w1.setCell ⟨b6, 0, none⟩ (.int .i64 g)).setCell ⟨b6, 1, none⟩ (.bool false) = Y := ⟨_, rfl⟩
      rw [hY] at f1 x0 x1 ⊢
      rw [← HR.out]
      exact bodyPost_ret (v := .tuple #[.agg #[.int .i64 g, .bool false], .int .i64 0]) (by simp [results, Try.results36, go_sem, x0, x1]) rfl ⟨rfl, f1⟩
  · have d1 : decide ((live : Int) ≤ 7340032) = false := decide_eq_false (by omega)
    rw [if_neg (fun h => c1 h.1)] at hr
    have HR := Lib.hid hr
    clear hr hp0 hg h c1
    go_enter Try.func36, Try.ntmps36
    go_upto_region 1 with fail
    generalize w.alloc (.cells #[.int .i64 0, .bool false] 68) = W1 at *
    obtain ⟨b6, hb6⟩ : ∃ b, w.heap.size = b := ⟨_, rfl⟩
    rw [hb6] at h6 ⊢
    have HB6 := Lib.hid hb6
    clear hb6
    go_upto_region 2 with (go_at_call 60; refine Calls.mono (HC.out _) ?_; rintro e w1 ⟨rfl, hp1⟩)
    have hh6 := hp1.heap (fun h => h) h6
    replace HP := Lib.hid (HP.out.trans hp1)
    clear hp1 h6
    have hh6_0 := cell_of_row _ _ 0 _ _ _ hh6; have hh6_1 := cell_of_row _ _ 1 _ _ _ hh6; have hh6_f := (fun j => frozen_of_row _ _ j _ _ hh6); have hh6_l := lt_of_block hh6; simp at hh6_0 hh6_1; have H_hh6 := Lib.hid hh6; clear hh6
    go_wp2
    obtain ⟨f1, x0, x1⟩ := gfin (v0 := .int .i64 g) (v1 := .bool false) H_hh6.out HP.out (by have := HB6.out; omega) rfl
    obtain ⟨Y, hY⟩ : ∃ Y, (w1.setCell ⟨b6, 0, none⟩ (.int .i64 g)).setCell ⟨b6, 1, none⟩ (.bool false) = Y := ⟨_, rfl⟩
    rw [hY] at f1 x0 x1 ⊢
    rw [← HR.out]
    exact bodyPost_ret (v := .tuple #[.agg #[.int .i64 g, .bool false], .int .i64 0]) (by simp [results, Try.results36, go_sem, x0, x1]) rfl ⟨rfl, f1⟩
end Go.Proofs.Ytapplindfijngaa

/- dict: Remove (plain law and contract). -/
namespace Go.Proofs.Ytapplindfijngaa
open Go.RowKit Go.Shelf
set_option maxRecDepth 100000

/-! ### the plain law -/
theorem keyL_set {L : List (Option Ent)} {s t : Nat} (h : t ≠ s) : keyL (L.set s none) t = keyL L t := by
  unfold keyL
  rw [List.getElem?_set_ne (fun e => h e.symm)]
theorem liveS_set (L : List (Option Ent)) (s t : Nat) : liveS (L.set s none) t ↔ t ≠ s ∧ liveS L t := by
  unfold liveS
  by_cases h : t = s
  · subst h
    simp only [ne_eq, not_true_eq_false, false_and, iff_false]
    rintro ⟨e, he⟩
    rw [List.getElem?_set] at he
    simp at he
  · rw [List.getElem?_set_ne (fun e => h e.symm)]
    simp [h]
theorem keys_set {L : List (Option Ent)} (h : KeysOk L) (s : Nat) : KeysOk (L.set s none) := by
  intro a b e f ha hb hk
  have h1 := (liveS_set L s a).1 ⟨e, ha⟩
  have h2 := (liveS_set L s b).1 ⟨f, hb⟩
  rw [List.getElem?_set_ne (fun e => h1.1 e.symm)] at ha
  rw [List.getElem?_set_ne (fun e => h2.1 e.symm)] at hb
  exact h a b e f ha hb hk
theorem liveOf_set : ∀ {L : List (Option Ent)} {s : Nat} {x : Ent}, L[s]? = some (some x) → liveOf (L.set s none) + 1 = liveOf L
  | [], s, x, h => by simp at h
  | o :: L, 0, x, h => by
    simp at h; subst h
    simp [liveOf]
  | o :: L, s + 1, x, h => by
    have := liveOf_set (L := L) (s := s) (x := x) (by simpa using h)
    simp only [List.set_cons_succ, liveOf, List.countP_cons] at this ⊢
    omega
/-- What an index is behind a slot number that was taken out; behind the plan. -/
def takeM (H : Nat → Nat) (Gs : List Grp) (s : Nat) : List Grp := match findM Gs (H s) (fun x => x == s) with
  | some x => delG Gs x.1 x.2
  | none => Gs
def remM (H H' : Nat → Nat) (Gs : List Grp) (s : Nat) : List Grp := doG H' (planR (takeM H Gs s).length (usedN (takeM H Gs s))) (takeM H Gs s)
theorem Keeps.remove {seed : Nat} {same : Bool} {L : List (Option Ent)} {Gs : List Grp} (h : Keeps seed same L Gs) {s : Nat} {x : Ent} (hx : L[s]? = some (some x)) :
    (∃ i j, findM Gs (sumL seed same L s) (fun y => y == s) = some (i, j) ∧ takeM (sumL seed same L) Gs s = delG Gs i j) ∧ IxOk (takeM (sumL seed same L) Gs s) ∧
      ((planR (takeM (sumL seed same L) Gs s).length (usedN (takeM (sumL seed same L) Gs s))).2 = true → Pow (planR (takeM (sumL seed same L) Gs s).length (usedN (takeM (sumL seed same L) Gs s))).1 ∧ usedN (takeM (sumL seed same L) Gs s) ≤ 8 * (planR (takeM (sumL seed same L) Gs s).length (usedN (takeM (sumL seed same L) Gs s))).1) ∧
      Keeps seed same (L.set s none) (remM (sumL seed same L) (sumL seed same (L.set s none)) Gs s) := by
  obtain ⟨i, j, h1, h2⟩ := h.holds.find_some (s := s) ⟨x, hx⟩
  have ht : takeM (sumL seed same L) Gs s = delG Gs i j := by unfold takeM; rw [h1]
  obtain ⟨c1, c2, c3⟩ := del_counts h.holds.ok h2
  have h3 := h.holds.del h2
  have h4 : Holds (sumL seed same (L.set s none)) (liveS (L.set s none)) (delG Gs i j) :=
    (h3.congr (fun t ht => by unfold sumL; rw [keyL_set ht.1])).of_iff (fun t => (liveS_set L s t).symm)
  unfold remM
  rw [ht]
  obtain ⟨p1, p2, p3⟩ := planR_ok (g := (delG Gs i j).length) (live := usedN (delG Gs i j)) c3.pow
  have hle := used_le8 c3
  have hu : usedN (delG Gs i j) ≤ 8 * (planR (delG Gs i j).length (usedN (delG Gs i j))).1 := by
    cases hb : (planR (delG Gs i j).length (usedN (delG Gs i j))).2 with
    | true => exact Nat.le_of_lt (p2 hb)
    | false => rw [p3 hb]; exact hle
  obtain ⟨k1, k2, k3⟩ := h4.do p1 hu p3
  refine ⟨⟨i, j, h1, rfl⟩, c3, fun _ => ⟨p1, hu⟩, k1, keys_set h.keys s, ?_⟩
  rw [k2]
  have := liveOf_set hx
  have := h.used
  omega

/-! ### the contract -/
/-- A block of four cells is written whole. -/
theorem fin4 {X Y : World} {b : Nat} {u0 u1 u2 u3 v0 v1 v2 v3 : Value} {T : TypeId} (h : X.heap[b]? = some (.cells #[u0, u1, u2, u3] T (0, 0)))
    (hY : (((X.setCell ⟨b, 0, none⟩ v0).setCell ⟨b, 1, none⟩ v1).setCell ⟨b, 2, none⟩ v2).setCell ⟨b, 3, none⟩ v3 = Y) : Mod (fun k => k = b) X Y ∧ Y.heap[b]? = some (.cells #[v0, v1, v2, v3] T (0, 0)) := by
  subst hY
  refine ⟨((((Mod.set1 b 0 v0).trans (Mod.set1 b 1 v1)).trans (Mod.set1 b 2 v2)).trans (Mod.set1 b 3 v3)), ?_⟩
  have h1 := heap_set1 (j := 0) (v := v0) h
  have h2 := heap_set1 (j := 1) (v := v1) h1
  have h3 := heap_set1 (j := 2) (v := v2) h2
  have h4 := heap_set1 (j := 3) (v := v3) h3
  simpa using h4
section
variable {w w' : World} {D S : Nat → Prop} {d seed : Nat} {same : Bool} {L : List (Option Ent)} {Gs : List Grp}
def dremPost (w : World) (D : Nat → Prop) (d seed : Nat) (same : Bool) (L : List (Option Ent)) (Gs : List Grp) (s : Nat) (x : Ent) (e : Ending) (w' : World) : Prop :=
  ∃ a n c, e = .returned (.tuple #[.agg #[.string x.key, .slice a n c, .int .u64 x.dl, .int .u64 x.birth], .int .i64 0]) ∧ BytesAt w' (.slice a n c) (bytesOf x.val) ∧ Fresh w (.slice a n c) ∧
    ∃ D', DictAt w' D' d seed same (L.set s none) (remM (sumL seed same L) (sumL seed same (L.set s none)) Gs s) ∧ Mod D w w' ∧ Grew D D' w
def drem0 (w : World) (e : Ending) (w' : World) : Prop := e = .returned (.tuple #[.agg #[.string ⟨#[]⟩, .slice none 0 0, .int .u64 0, .int .u64 0], .int .i64 9]) ∧ Pure w w'
set_option maxHeartbeats 1000000 in
theorem drem_miss (h : DictAt w D d seed same L Gs) {s : Nat} (hs : s ≤ 4294967295) (hx : hasL L s = false) : Calls Try.prog 11 #[dPtr d, .int .u32 s] w (drem0 w) := by
  obtain ⟨q, p, sv, Dl, h1, h2, h3⟩ := h
  have hp0 : Pure w (w.alloc (.cells #[.string ⟨#[]⟩, .slice none 0 0, .int .u64 0, .int .u64 0] 36)) := (Mod.refl _ w).alloc _
  have z4 := heap_new (w := w) (o := .cells #[.string ⟨#[]⟩, .slice none 0 0, .int .u64 0, .int .u64 0] 36 (0, 0)) rfl
  have HZ := Lib.hid (dzero_ok (h1.pure hp0))
  have HK := Lib.hid (Key_any (h1.log.pure hp0) s hs)
  have e1 : noL L s = 9 := by unfold noL; rw [hx]; rfl
  rw [e1] at HK
  have hb := (h1.pure hp0).box
  have HP := Lib.hid hp0
  have hdb : d < w.heap.size := lt_of_block h1.box
  clear h1 h2 h3 hp0 e1 hx
  generalize keyL L s = ks at *
  go_enter Try.func11, Try.ntmps11
  go_upto_region 1 with fail
  generalize w.alloc (.cells #[.string ⟨#[]⟩, .slice none 0 0, .int .u64 0, .int .u64 0] 36) = W1 at *
  obtain ⟨b4, hb4⟩ : ∃ b, w.heap.size = b := ⟨_, rfl⟩
  rw [hb4] at z4 hdb ⊢
  have HB := Lib.hid hb4
  clear hb4
  have hb_0 := cell_of_row _ _ 0 _ _ _ hb; have hb_1 := cell_of_row _ _ 1 _ _ _ hb; have hb_2 := cell_of_row _ _ 2 _ _ _ hb; have hb_3 := cell_of_row _ _ 3 _ _ _ hb; have hb_f := (fun j => frozen_of_row _ _ j _ _ hb); have hb_l := lt_of_block hb; simp at hb_0 hb_1 hb_2 hb_3; have H_hb := Lib.hid hb; clear hb
  have z4_0 := cell_of_row _ _ 0 _ _ _ z4; have z4_1 := cell_of_row _ _ 1 _ _ _ z4; have z4_2 := cell_of_row _ _ 2 _ _ _ z4; have z4_3 := cell_of_row _ _ 3 _ _ _ z4; have z4_f := (fun j => frozen_of_row _ _ j _ _ z4); have z4_l := lt_of_block z4; simp at z4_0 z4_1 z4_2 z4_3; have H_z4 := Lib.hid z4; clear z4
  go_wp2_with (first
    | (go_at_call 21; refine Calls.mono HZ.out ?_; rintro e w' ⟨rfl, rfl⟩)
    | (go_at_call 32; refine Calls.mono HK.out ?_; rintro e w' ⟨rfl, rfl⟩))
  obtain ⟨Y, hY⟩ : ∃ Y, (((W1.setCell ⟨b4, 0, none⟩ (.string ⟨#[]⟩)).setCell ⟨b4, 1, none⟩ (.slice none 0 0)).setCell ⟨b4, 2, none⟩ (.int .u64 0)).setCell ⟨b4, 3, none⟩ (.int .u64 0) = Y := ⟨_, rfl⟩
  obtain ⟨g1, g2⟩ := fin4 H_z4.out hY
  rw [hY]
  have x0 := cell_of_row _ _ 0 _ _ _ g2; have x1 := cell_of_row _ _ 1 _ _ _ g2; have x2 := cell_of_row _ _ 2 _ _ _ g2; have x3 := cell_of_row _ _ 3 _ _ _ g2
  simp at x0 x1 x2 x3
  exact bodyPost_ret (v := .tuple #[.agg #[.string ⟨#[]⟩, .slice none 0 0, .int .u64 0, .int .u64 0], .int .i64 9]) (by simp [results, Try.results11, go_sem, x0, x1, x2, x3]) rfl ⟨rfl, HP.out.then g1 (fun i hi e => by have := HB.out; omega)⟩
end
end Go.Proofs.Ytapplindfijngaa

/- What DictHolds says of lists: a bound on the groups, the slot number of each key, how many entries there are. -/
namespace Go.Proofs.Ytapplindfijngaa
open Go.RowKit Go.Shelf
set_option maxRecDepth 100000

/-! ### the bound -/
/-- There are at most as many lanes as the bound says. -/
def GB (Gs : List Grp) : Prop := 8 * Gs.length ≤ boundM (usedN Gs)
theorem boundM_two (live : Nat) : ∃ k, boundM live = 2 ^ k := ⟨_, rfl⟩
theorem boundM_mono {a b : Nat} (h : a ≤ b) : boundM a ≤ boundM b := by
  obtain ⟨k, hk⟩ := boundM_two b
  rw [hk]
  refine boundM_min ?_
  have := boundM_le b
  omega
theorem gb_new : GB (newG 1) := by
  unfold GB
  rw [newG_used]
  have := boundM_le 0
  show 8 * (newG 1).length ≤ _
  rw [newG_length]
  omega
theorem boundM_gt {live x k : Nat} (hx : x = 2 ^ k) (h : x < 2 * (4 * live + 16)) : x ≤ boundM live := by
  obtain ⟨j, hj⟩ := boundM_two live
  have h1 := boundM_le live
  rw [hj] at h1 ⊢
  subst hx
  rcases Nat.lt_or_ge j k with h2 | h2
  · have : 2 ^ (j + 1) ≤ 2 ^ k := Nat.pow_le_pow_right (by decide) h2
    rw [Nat.pow_succ] at this
    omega
  · exact Nat.pow_le_pow_right (by decide) h2
theorem Pow.eight {g : Nat} (h : Pow g) : ∃ k, 8 * g = 2 ^ k := by
  obtain ⟨k, _, rfl⟩ := h
  exact ⟨k + 3, by rw [Nat.pow_add]; omega⟩
theorem gb_put {H : Nat → Nat} {S : Nat → Prop} {Gs : List Grp} (h : Holds H S Gs) (hl : usedN Gs ≤ 4194304) {s : Nat} (hs : s ≤ 4294967295) (hn : ¬ S s) (hg : GB Gs) : GB (putM H Gs s) := by
  obtain ⟨x, h1, h2, h3, h4, h5, h6, h7, h8⟩ := h.put hl hs hn
  have hlen : (putM H Gs s).length = x.1 := by
    have e := (insD_ok (H := H) h5.ok hs).2
    have e2 := (h.do h2 h3 h4).2.2
    unfold putM
    rw [h1]
    show (insD H (doG H x Gs) s).length = _
    rw [e, e2]
  unfold GB at hg ⊢
  rw [hlen, h8]
  have hm := boundM_mono (show usedN Gs ≤ usedN Gs + 1 by omega)
  unfold planI at h1
  split at h1
  · cases h1; exact Nat.le_trans hg hm
  · split at h1
    · cases h1; exact Nat.le_trans hg hm
    · split at h1
      · rename_i q1 q2 q3
        have e : x.1 = 2 * Gs.length := by cases h1; rfl
        obtain ⟨k, hk⟩ := h2.eight
        exact boundM_gt hk (by omega)
      · split at h1
        · cases h1; exact Nat.le_trans hg hm
        · cases h1
theorem gb_rem {seed : Nat} {same : Bool} {L : List (Option Ent)} {Gs : List Grp} (h : Keeps seed same L Gs) (hl : L.length ≤ 4194304) {s : Nat} {x : Ent} (hx : L[s]? = some (some x)) : GB (remM (sumL seed same L) (sumL seed same (L.set s none)) Gs s) := by
  obtain ⟨i, j, h1, h2⟩ := h.holds.find_some (s := s) ⟨x, hx⟩
  have ht : takeM (sumL seed same L) Gs s = delG Gs i j := by unfold takeM; rw [h1]
  obtain ⟨c1, c2, c3⟩ := del_counts h.holds.ok h2
  have h3 := h.holds.del h2
  have h4 : Holds (sumL seed same (L.set s none)) (liveS (L.set s none)) (delG Gs i j) :=
    (h3.congr (fun t ht => by unfold sumL; rw [keyL_set ht.1])).of_iff (fun t => (liveS_set L s t).symm)
  unfold remM
  rw [ht]
  obtain ⟨p1, p2, p3⟩ := planR_ok (g := (delG Gs i j).length) (live := usedN (delG Gs i j)) c3.pow
  have hle := used_le8 c3
  have hu : usedN (delG Gs i j) ≤ 8 * (planR (delG Gs i j).length (usedN (delG Gs i j))).1 := by
    cases hb : (planR (delG Gs i j).length (usedN (delG Gs i j))).2 with
    | true => exact Nat.le_of_lt (p2 hb)
    | false => rw [p3 hb]; exact hle
  obtain ⟨k1, k2, k3⟩ := h4.do p1 hu p3
  have hused := h.used
  have hlv := liveOf_le' L
  have hpl := c3.pow.le
  unfold GB
  rw [k2, k3]
  generalize delG Gs i j = T at *
  unfold planR
  split
  · rename_i hc
    obtain ⟨q, hq, e⟩ := boundM_pow (live := usedN T) (by omega)
    show 8 * (boundM (usedN T) / 8) ≤ _
    omega
  · rename_i hc
    show 8 * T.length ≤ _
    omega
/-! ### slot numbers -/
/-- What a map from the keys to the slot numbers says, one more. -/
def inV (L : List (Option Ent)) (key : ByteArray) : Nat := match findK L key with
  | some s => s + 1
  | none => 0
theorem findK_app {L : List (Option Ent)} {x : Ent} (hk : KeysOk L) (hf : findK L x.key = none) (key : ByteArray) : findK (L ++ [some x]) key = if key = x.key then some L.length else findK L key := by
  have hk2 := keys_append hk hf
  split
  · rename_i e
    subst e
    exact findK_eq hk2 (by rw [List.getElem?_append_right (Nat.le_refl _)]; simp)
  · rename_i e
    cases h : findK L key with
    | some s =>
      obtain ⟨y, h1, h2⟩ := findK_some h
      subst h2
      exact findK_eq hk2 (by rw [List.getElem?_append_left (List.getElem?_eq_some_iff.1 h1).1]; exact h1)
    | none =>
      refine findK_not (fun s y hs hy => ?_)
      rcases Nat.lt_or_ge s L.length with h1 | h1
      · rw [List.getElem?_append_left h1] at hs
        exact findK_none h s y hs hy
      · rw [List.getElem?_append_right h1] at hs
        cases hd : s - L.length with
        | zero => rw [hd] at hs; cases hs; exact e hy.symm
        | succ q => rw [hd] at hs; cases hs
theorem inV_app {L : List (Option Ent)} {x : Ent} (hk : KeysOk L) (hf : findK L x.key = none) (key : ByteArray) : inV (L ++ [some x]) key = if key = x.key then L.length + 1 else inV L key := by
  unfold inV
  rw [findK_app hk hf]
  by_cases e : key = x.key
  · rw [if_pos e, if_pos e]
  · rw [if_neg e, if_neg e]
theorem findK_del {L : List (Option Ent)} {s : Nat} {x : Ent} (hk : KeysOk L) (hx : L[s]? = some (some x)) (key : ByteArray) : findK (L.set s none) key = if key = x.key then none else findK L key := by
  have hk2 := keys_set hk s
  have hs := (List.getElem?_eq_some_iff.1 hx).1
  split
  · rename_i e
    subst e
    refine findK_not (fun t y ht hy => ?_)
    by_cases hts : s = t
    · subst hts
      rw [List.getElem?_set_self hs] at ht
      cases ht
    · rw [List.getElem?_set_ne hts] at ht
      exact hts (hk _ _ _ _ hx ht hy.symm)
  · rename_i e
    cases h : findK L key with
    | some t =>
      obtain ⟨y, h1, h2⟩ := findK_some h
      subst h2
      have hts : s ≠ t := fun c => by subst c; rw [hx] at h1; cases h1; exact e rfl
      exact findK_eq hk2 (by rw [List.getElem?_set_ne hts]; exact h1)
    | none =>
      refine findK_not (fun t y ht hy => ?_)
      by_cases hts : s = t
      · subst hts
        rw [List.getElem?_set_self hs] at ht
        cases ht
      · rw [List.getElem?_set_ne hts] at ht
        exact findK_none h t y ht hy
theorem inV_del {L : List (Option Ent)} {s : Nat} {x : Ent} (hk : KeysOk L) (hx : L[s]? = some (some x)) (key : ByteArray) : inV (L.set s none) key = if key = x.key then 0 else inV L key := by
  unfold inV
  rw [findK_del hk hx]
  by_cases e : key = x.key
  · rw [if_pos e, if_pos e]
  · rw [if_neg e, if_neg e]
theorem inV_hit {L : List (Option Ent)} {s : Nat} {x : Ent} (hk : KeysOk L) (hx : L[s]? = some (some x)) : inV L x.key = s + 1 := by
  unfold inV
  rw [findK_eq hk hx]
theorem findK_upd {L : List (Option Ent)} {s : Nat} {x y : Ent} (hx : L[s]? = some (some x)) (hy : y.key = x.key) (key : ByteArray) : findK (L.set s (some y)) key = findK L key := by
  unfold findK
  have hs := (List.getElem?_eq_some_iff.1 hx)
  obtain ⟨hl, he⟩ := hs
  have e : (L.set s (some y)).map (isK key) = L.map (isK key) := by
    rw [List.map_set]
    refine List.ext_getElem? (fun i => ?_)
    by_cases hi : s = i
    · subst hi
      rw [List.getElem?_set_self (by simpa using hl), List.getElem?_map, hx]
      simp [isK, hy]
    · rw [List.getElem?_set_ne hi]
  have h1 : ∀ (l : List (Option Ent)), l.findIdx? (isK key) = (l.map (isK key)).findIdx? id := fun l => by
    rw [List.findIdx?_map]
    rfl
  rw [h1, h1, e]
end Go.Proofs.Ytapplindfijngaa

/- dict: Sizes, Len, Insert's errors; all of it for a dictionary that was made since (DG). -/
namespace Go.Proofs.Ytapplindfijngaa
open Go.RowKit Go.Shelf
set_option maxRecDepth 100000
section
variable {w w' : World} {D S : Nat → Prop} {d seed : Nat} {same : Bool} {L : List (Option Ent)} {Gs : List Grp}
theorem dlen_ok (h : DictAt w D d seed same L Gs) : Calls Try.prog 15 #[dPtr d] w fun e w' => e = .returned (.int .i64 (liveOf L)) ∧ w = w' := by
  obtain ⟨q, p, sv, Dl, h1, h2, h3⟩ := h
  have HZ := Lib.hid (dzero_ok h1)
  have HC := Lib.hid (liveA h1.log)
  have hb := h1.box
  clear h1 h2 h3
  have hb_0 := cell_of_row _ _ 0 _ _ _ hb; have hb_1 := cell_of_row _ _ 1 _ _ _ hb; have hb_2 := cell_of_row _ _ 2 _ _ _ hb; have hb_3 := cell_of_row _ _ 3 _ _ _ hb; have hb_f := (fun j => frozen_of_row _ _ j _ _ hb); have hb_l := lt_of_block hb; simp at hb_0 hb_1 hb_2 hb_3; have H_hb := Lib.hid hb; clear hb
  go_enter Try.func15, Try.ntmps15
  go_wp2_with (first
    | (go_at_call 21; refine Calls.mono HZ.out ?_; rintro e w' ⟨rfl, rfl⟩)
    | (go_at_call 42; refine Calls.mono HC.out ?_; rintro e w' ⟨rfl, rfl⟩))
  go_ret
  exact ⟨rfl, rfl⟩
def dsizesPost (w : World) (L : List (Option Ent)) (Gs : List Grp) (e : Ending) (w' : World) : Prop :=
  e = .returned (.tuple #[.int .i64 L.length, .int .i64 Gs.length, .int .i64 (tombN Gs)]) ∧ Pure w w'
set_option maxHeartbeats 1000000 in
theorem dsizes_ok (h : DictAt w D d seed same L Gs) : Calls Try.prog 14 #[dPtr d] w (dsizesPost w L Gs) := by
  obtain ⟨q, p, sv, Dl, h1, h2, h3⟩ := h
  have HZ := Lib.hid (dzero_ok h1)
  have HL := Lib.hid (fun (W : World) (hW : Pure w W) => lenA (h1.log.pure hW))
  have HX := Lib.hid (fun (W : World) (hW : Pure w W) => IGroups_ok (h1.ix.pure hW))
  have HT := Lib.hid (fun (W : World) (hW : Pure w W) => ITombs_ok (h1.ix.pure hW))
  have hb := h1.box
  clear h1 h2 h3
  have hb_0 := cell_of_row _ _ 0 _ _ _ hb; have hb_1 := cell_of_row _ _ 1 _ _ _ hb; have hb_2 := cell_of_row _ _ 2 _ _ _ hb; have hb_3 := cell_of_row _ _ 3 _ _ _ hb; have hb_f := (fun j => frozen_of_row _ _ j _ _ hb); have hb_l := lt_of_block hb; simp at hb_0 hb_1 hb_2 hb_3; have H_hb := Lib.hid hb; clear hb
  go_enter Try.func14, Try.ntmps14
  go_upto_region 3 with (go_at_call 21; refine Calls.mono HZ.out ?_; rintro e w' ⟨rfl, rfl⟩)
  go_region_held3 (fun w' => w'.cell? ⟨d, 0, none⟩ = some (.pointer (some ⟨q, 0, none⟩)) ∧ w'.cell? ⟨d, 3, none⟩ = some (.pointer (some ⟨p, 0, none⟩)))
    (first | exact ⟨hb_0, hb_3⟩)
    (first
      | (go_at_call 41; (with_reducible refine Calls.mono (HL.out _ (by first | exact Mod.refl _ _ | exact Mod.drew (Mod.refl _ _))) ?_); rintro e w1 ⟨rfl, rfl⟩)
      | (go_at_call 37; (with_reducible refine Calls.mono (HX.out _ (by first | exact Mod.refl _ _ | exact Mod.drew (Mod.refl _ _))) ?_); rintro e w1 ⟨rfl, rfl⟩)
      | (go_at_call 39; (with_reducible refine Calls.mono (HT.out _ (by first | exact Mod.refl _ _ | exact Mod.drew (Mod.refl _ _))) ?_); rintro e w1 ⟨rfl, rfl⟩))
  all_goals
    try go_wp2
    refine bodyPost_ret (v := .tuple #[.int .i64 L.length, .int .i64 Gs.length, .int .i64 (tombN Gs)]) (by simp [results, Try.results14, go_sem]) rfl ⟨rfl, ?_⟩
    first | exact Mod.refl _ _ | exact Mod.drew (Mod.refl _ _)

/-! ### Insert's errors -/
def dins0 (w : World) (er : Int) (e : Ending) (w' : World) : Prop := e = .returned (.tuple #[.int .u32 0, .int .i64 er]) ∧ Pure w w'
set_option maxHeartbeats 1000000 in
theorem dins_busy (h : DictAt w D d seed same L Gs) (x : Ent) (hok : x.Ok) {t : Nat} (hf : findK L x.key = some t) (a : Option Addr) (n c : Nat) (hx : ReadAt w (.slice a n c) 1 (bytesOf x.val)) :
    Calls Try.prog 8 #[dPtr d, .agg #[.string x.key, .slice a n c, .int .u64 x.dl, .int .u64 x.birth]] w (dins0 w 11) := by
  obtain ⟨q, p, sv, Dl, h1, h2, h3⟩ := h
  have hp0 : Pure w (w.alloc (.cells #[.string x.key, .slice a n c, .int .u64 x.dl, .int .u64 x.birth] 36)) := (Mod.refl _ w).alloc _
  have z3 := heap_new (w := w) (o := .cells #[.string x.key, .slice a n c, .int .u64 x.dl, .int .u64 x.birth] 36 (0, 0)) rfl
  have HP := Lib.hid hp0
  have HZ := Lib.hid (dzero_ok (h1.pure hp0))
  have hn : n ≤ 65536 := by have := read_length hx; rw [bytesOf_length] at this; have := hok.v1; omega
  have hb : (x.birth == 0) = false := by have := hok.b0; simp; omega
  have HN := Lib.hid (entry_New_ok x.key a n c x.dl x.birth (bytesOf x.val) _ (hx.frame hp0 (fun _ _ h => h)) hn hok.k0 hok.k1 hb)
  have HFd := Lib.hid (fun (W : World) (hW : Pure w W) => dfind_ok (h1.pure hW) h2 x.key (by have := hok.k1; omega))
  have e1 : findV L x.key = (t, 0) := by unfold findV; rw [hf]
  unfold dfindPost at HFd
  rw [e1] at HFd
  dsimp only at HFd
  clear h1 h2 h3 hx hok hp0 hn hb e1 hf
  go_enter Try.func8, Try.ntmps8
  go_upto_region 1 with fail
  generalize w.alloc (.cells #[.string x.key, .slice a n c, .int .u64 x.dl, .int .u64 x.birth] 36) = W1 at *
  generalize w.heap.size = b3 at *
  have z3_0 := cell_of_row _ _ 0 _ _ _ z3; have z3_1 := cell_of_row _ _ 1 _ _ _ z3; have z3_2 := cell_of_row _ _ 2 _ _ _ z3; have z3_3 := cell_of_row _ _ 3 _ _ _ z3; have z3_f := (fun j => frozen_of_row _ _ j _ _ z3); have z3_l := lt_of_block z3; simp at z3_0 z3_1 z3_2 z3_3; have H_z3 := Lib.hid z3; clear z3
  go_upto_region 4 with (first
    | (go_at_call 21; refine Calls.mono HZ.out ?_; rintro e w' ⟨rfl, rfl⟩)
    | (go_at_call 22; refine Calls.mono HN.out ?_; rintro e w2 ⟨a2, n2, c2, rfl, hr2, hf2, hp2⟩))
  have hpo : Pure w2 (w2.alloc (.cells #[.string x.key, .slice a2 n2 c2, .int .u64 x.dl, .int .u64 x.birth] 36)) := (Mod.refl _ w2).alloc _
  have zz3 := (hp2.trans hpo).heap (fun h => h) H_z3.out
  replace HP := Lib.hid ((HP.out.trans hp2).trans hpo)
  clear z3_0 z3_1 z3_2 z3_3 z3_f z3_l
  clear H_z3 hr2 hf2 hp2 hpo HN HZ
  generalize w2.alloc (.cells #[.string x.key, .slice a2 n2 c2, .int .u64 x.dl, .int .u64 x.birth] 36) = W3 at *
  generalize w2.heap.size = b6 at *
  have zz3_0 := cell_of_row _ _ 0 _ _ _ zz3; have zz3_1 := cell_of_row _ _ 1 _ _ _ zz3; have zz3_2 := cell_of_row _ _ 2 _ _ _ zz3; have zz3_3 := cell_of_row _ _ 3 _ _ _ zz3; have zz3_f := (fun j => frozen_of_row _ _ j _ _ zz3); have zz3_l := lt_of_block zz3; simp at zz3_0 zz3_1 zz3_2 zz3_3; have H_zz3 := Lib.hid zz3; clear zz3
  go_wp2_with (go_at_call 10; refine Calls.mono (HFd.out _ HP.out) ?_; rintro e w4 ⟨rfl, hp4⟩)
  go_ret2
  exact ⟨rfl, HP.out.trans hp4⟩
set_option maxHeartbeats 1000000 in
theorem dins_err (h : DictAt w D d seed same L Gs) (k : ByteArray) (a : Option Addr) (n c : Nat) (dl b : Int) (hk : k.size ≤ 140737488355328) (hn : n ≤ 140737488355328) (er : Int) (E : errOf k.size n b = er) (he0 : (er == 0) = false) :
    Calls Try.prog 8 #[dPtr d, .agg #[.string k, .slice a n c, .int .u64 dl, .int .u64 b]] w (dins0 w er) := by
  obtain ⟨q, p, sv, Dl, h1, h2, h3⟩ := h
  have hp0 : Pure w (w.alloc (.cells #[.string k, .slice a n c, .int .u64 dl, .int .u64 b] 36)) := (Mod.refl _ w).alloc _
  have z3 := heap_new (w := w) (o := .cells #[.string k, .slice a n c, .int .u64 dl, .int .u64 b] 36 (0, 0)) rfl
  have HP := Lib.hid hp0
  have HZ := Lib.hid (dzero_ok (h1.pure hp0))
  have HN := Lib.hid (fun W => entry_New_err k a n c dl b W hk hn er E he0)
  clear h1 h2 h3 hp0 E hk hn
  have hne : er ≠ 0 := by simpa using he0
  go_enter Try.func8, Try.ntmps8
  go_upto_region 1 with fail
  generalize w.alloc (.cells #[.string k, .slice a n c, .int .u64 dl, .int .u64 b] 36) = W1 at *
  generalize w.heap.size = b3 at *
  have z3_0 := cell_of_row _ _ 0 _ _ _ z3; have z3_1 := cell_of_row _ _ 1 _ _ _ z3; have z3_2 := cell_of_row _ _ 2 _ _ _ z3; have z3_3 := cell_of_row _ _ 3 _ _ _ z3; have z3_f := (fun j => frozen_of_row _ _ j _ _ z3); have z3_l := lt_of_block z3; simp at z3_0 z3_1 z3_2 z3_3; have H_z3 := Lib.hid z3; clear z3
  go_upto_region 4 with (first
    | (go_at_call 21; refine Calls.mono HZ.out ?_; rintro e w' ⟨rfl, rfl⟩)
    | (go_at_call 22; refine Calls.mono (HN.out _) ?_; rintro e w2 ⟨rfl, hp2⟩))
  have hpo : Pure w2 (w2.alloc (.cells #[.string ⟨#[]⟩, .slice none 0 0, .int .u64 0, .int .u64 0] 36)) := (Mod.refl _ w2).alloc _
  replace HP := Lib.hid ((HP.out.trans hp2).trans hpo)
  clear hp2 hpo HN HZ
  go_wp2
  go_ret2
  exact ⟨rfl, HP.out⟩

/-! ### a dictionary that was made since w -/
def DG (w W : World) (d seed : Nat) (same : Bool) (L : List (Option Ent)) (Gs : List Grp) : Prop := ∃ D, DictAt W D d seed same L Gs ∧ Pure w W ∧ ∀ k, D k → w.heap.size ≤ k
end
section
variable {w W W' : World} {d seed : Nat} {same : Bool} {L : List (Option Ent)} {Gs : List Grp}
theorem DG.pu (h : DG w W d seed same L Gs) : Pure w W := by obtain ⟨D, h1, h2, h3⟩ := h; exact h2
theorem DG.pure (h : DG w W d seed same L Gs) (hp : Pure W W') : DG w W' d seed same L Gs := by
  obtain ⟨D, h1, h2, h3⟩ := h
  exact ⟨D, h1.pure hp, h2.trans hp, h3⟩
theorem newG' (seed : Nat) (same : Bool) (hs : seed < 18446744073709551616) (h : Pure w W) : Calls Try.prog 6 #[.agg #[.int .u64 seed, .bool same]] W fun e w' => ∃ d, e = .returned (dPtr d) ∧ DG w w' d seed same [] (newG 1) ∧ Pure W w' := by
  refine Calls.mono (dnew_ok seed same hs W) ?_
  rintro e w' ⟨d, D, rfl, h1, h2, h3⟩
  exact ⟨d, rfl, ⟨D, h1, h.trans h2, fun k hk => Nat.le_trans h.size (h3 k hk)⟩, h2⟩
theorem DG.step {D D' : Nat → Prop} {L2 : List (Option Ent)} {G2 : List Grp} (h2 : Pure w W) (h3 : ∀ k, D k → w.heap.size ≤ k) (g1 : DictAt W' D' d seed same L2 G2) (g2 : Mod D W W') (g3 : Grew D D' W) : DG w W' d seed same L2 G2 :=
  ⟨D', g1, h2.then g2 (fun i hi e => by have := h3 i e; omega), fun k hk => by
    rcases g3 k hk with e | e
    · exact h3 k e
    · exact Nat.le_trans h2.size e⟩
end
end Go.Proofs.Ytapplindfijngaa
