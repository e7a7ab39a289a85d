/- growth.power, bound, Remove; bits.Len of small numbers. -/
import Derived.Test.YtpafcocciggfpaaGreatGrowth
namespace Go.Proofs.YtpafcocciggfpaaGreat
open Go.RowKit Go.Shelf
set_option maxRecDepth 100000

/-- How many bits a number has. -/
def blen (n : Nat) : Nat := if n = 0 then 0 else Nat.log2 n + 1
theorem blen_lt (n : Nat) : n < 2 ^ blen n := by
  unfold blen
  split
  · rename_i h; subst h; decide
  · exact Nat.lt_log2_self
theorem blen_le {n k : Nat} (h : n < 2 ^ k) : blen n ≤ k := by
  unfold blen
  split
  · exact Nat.zero_le _
  · rename_i h0
    exact (Nat.log2_lt h0).2 h
theorem blen_min {n k : Nat} (h1 : 2 ^ k ≤ n) (h2 : n < 2 ^ (k + 1)) : blen n = k + 1 := by
  have h0 : n ≠ 0 := by have := Nat.pow_pos (n := k) (show 0 < 2 by decide); omega
  unfold blen
  rw [if_neg h0]
  have h3 : n.log2 < k + 1 := (Nat.log2_lt h0).2 h2
  have h4 : ¬ n.log2 < k := fun h => by have := (Nat.log2_lt h0).1 h; omega
  omega
theorem blen_div {n j : Nat} (h : 2 ^ j ≤ n) : blen n = blen (n / 2 ^ j) + j := by
  have hp := Nat.pow_pos (n := j) (show 0 < 2 by decide)
  have h0 : n ≠ 0 := by omega
  have h1 : n / 2 ^ j ≠ 0 := by have := Nat.div_pos h hp; omega
  have e : n.log2 = (n / 2 ^ j).log2 + j := by
    have h2 : (n / 2 ^ j) < 2 ^ ((n / 2 ^ j).log2 + 1) := Nat.lt_log2_self
    have h3 : 2 ^ (n / 2 ^ j).log2 ≤ n / 2 ^ j := Nat.log2_self_le h1
    have h4 : 2 ^ ((n / 2 ^ j).log2 + j) ≤ n := by
      rw [Nat.pow_add]
      have := Nat.mul_le_mul_right (2 ^ j) h3
      exact Nat.le_trans this (Nat.div_mul_le_self n _)
    have h5 : n < 2 ^ ((n / 2 ^ j).log2 + j + 1) := by
      have h6 := Nat.lt_mul_of_div_lt h2 hp
      rw [show (n / 2 ^ j).log2 + j + 1 = j + ((n / 2 ^ j).log2 + 1) by omega, Nat.pow_add]
      rw [Nat.mul_comm]; exact h6
    have h7 : n.log2 < (n / 2 ^ j).log2 + j + 1 := (Nat.log2_lt h0).2 h5
    have h8 : ¬ n.log2 < (n / 2 ^ j).log2 + j := fun h => by have := (Nat.log2_lt h0).1 h; omega
    omega
  unfold blen
  rw [if_neg h0, if_neg h1, e]
  omega
theorem blen_table (s : ByteArray) (hs : s.size = 256) (h : ∀ k (hk : k < 256), wrap64 ((s[k]'(by omega)).toNat : Int) = blen k) (m : Nat) (hm : m < 256) (hms : m < s.size) : wrap64 ((s[m]'hms).toNat : Int) = blen m := h m hm
theorem len_end (y : Int) (s : ByteArray) (hs : s.size = 256) (h : ∀ k (hk : k < 256), wrap64 ((s[k]'(by omega)).toNat : Int) = blen k) (m : Nat) (hm : m < 256) (hms : m < s.size) (n : Nat) (hb : (blen n : Int) = y + blen m) (h0 : 0 ≤ y ∧ y ≤ 100) :
    wrap64 (y + wrap64 ((s[m]'hms).toNat : Int)) = (blen n : Int) := by
  rw [blen_table s hs h m hm hms, ← hb]
  have : blen m ≤ 8 := blen_le (by omega)
  exact IntWalk.wrap64_in _ (by omega)
theorem len_end0 (s : ByteArray) (hs : s.size = 256) (h : ∀ k (hk : k < 256), wrap64 ((s[k]'(by omega)).toNat : Int) = blen k) (m : Nat) (hm : m < 256) (hms : m < s.size) : wrap64 (wrap64 ((s[m]'hms).toNat : Int)) = (blen m : Int) := by
  have := len_end 0 s hs h m hm hms m (by omega) (by omega)
  rwa [Int.zero_add] at this
theorem Len64_ok (n : Nat) (hn : n < 4294967296) (w : World) : Calls Tryz.prog 194 #[.int .u64 n] w fun e w' => e = .returned (.int .i64 (blen n)) ∧ w = w' := by
  have d0 : decide (4294967296 ≤ (n : Int)) = false := decide_eq_false (by omega)
  have n0 : (0 : Int) ≤ n := by omega
  by_cases c1 : 65536 ≤ n
  · have d1 : decide (65536 ≤ (n : Int)) = true := decide_eq_true (by omega)
    have hb := blen_div (n := n) (j := 16) c1
    obtain ⟨k, hk⟩ : ∃ k, n / 2 ^ 16 = k := ⟨_, rfl⟩
    have e1 : (n : Int) / 65536 = (k : Int) := by omega
    have hk2 : k < 65536 := by omega
    rw [hk] at hb
    have k0 : (0 : Int) ≤ k := by omega
    by_cases c2 : 256 ≤ k
    · have d2 : decide (256 ≤ (k : Int)) = true := decide_eq_true (by omega)
      have hb2 := blen_div (n := k) (j := 8) c2
      obtain ⟨m, hm⟩ : ∃ m, k / 2 ^ 8 = m := ⟨_, rfl⟩
      have e2 : (k : Int) / 256 = (m : Int) := by omega
      have hm2 : m < 256 := by omega
      rw [hm] at hb2
      have m0 : (0 : Int) ≤ m := by omega
      have m1 : (m : Int) < 256 := by omega
      have w8 : IntKind.u8.wrap (m : Int) = m := by simp [IntKind.wrap, IntKind.signed, IntKind.bits]; omega
      go_enter Tryz.func194, Tryz.ntmps194
      go_wp2
      go_ret
      exact ⟨congrArg (fun x => Ending.returned (.int .i64 x)) (len_end 24 _ (by decide) (by decide +kernel) m hm2 _ n (by omega) (by omega)), rfl⟩
    · have d2 : decide (256 ≤ (k : Int)) = false := decide_eq_false (by omega)
      have m1 : (k : Int) < 256 := by omega
      have w8 : IntKind.u8.wrap (k : Int) = k := by simp [IntKind.wrap, IntKind.signed, IntKind.bits]; omega
      go_enter Tryz.func194, Tryz.ntmps194
      go_wp2
      go_ret
      exact ⟨congrArg (fun x => Ending.returned (.int .i64 x)) (len_end 16 _ (by decide) (by decide +kernel) k (by omega) _ n (by omega) (by omega)), rfl⟩
  · have d1 : decide (65536 ≤ (n : Int)) = false := decide_eq_false (by omega)
    by_cases c2 : 256 ≤ n
    · have d2 : decide (256 ≤ (n : Int)) = true := decide_eq_true (by omega)
      have hb2 := blen_div (n := n) (j := 8) c2
      obtain ⟨m, hm⟩ : ∃ m, n / 2 ^ 8 = m := ⟨_, rfl⟩
      have e2 : (n : Int) / 256 = (m : Int) := by omega
      have hm2 : m < 256 := by omega
      rw [hm] at hb2
      have m0 : (0 : Int) ≤ m := by omega
      have m1 : (m : Int) < 256 := by omega
      have w8 : IntKind.u8.wrap (m : Int) = m := by simp [IntKind.wrap, IntKind.signed, IntKind.bits]; omega
      go_enter Tryz.func194, Tryz.ntmps194
      go_wp2
      go_ret
      exact ⟨congrArg (fun x => Ending.returned (.int .i64 x)) (len_end 8 _ (by decide) (by decide +kernel) m hm2 _ n (by omega) (by omega)), rfl⟩
    · have d2 : decide (256 ≤ (n : Int)) = false := decide_eq_false (by omega)
      have m1 : (n : Int) < 256 := by omega
      have w8 : IntKind.u8.wrap (n : Int) = n := by simp [IntKind.wrap, IntKind.signed, IntKind.bits]; omega
      go_enter Tryz.func194, Tryz.ntmps194
      go_wp2
      go_ret
      exact ⟨congrArg (fun x => Ending.returned (.int .i64 x)) (len_end0 _ (by decide) (by decide +kernel) n (by omega) _), rfl⟩
theorem Len_ok (n : Nat) (hn : n < 4294967296) (w : World) : Calls Tryz.prog 190 #[.int .u64 n] w fun e w' => e = .returned (.int .i64 (blen n)) ∧ w = w' := by
  have HL := Lib.hid (fun W => Len64_ok n hn W)
  go_enter Tryz.func190, Tryz.ntmps190
  go_wp2_with (go_at_call 194; refine Calls.mono (HL.out _) ?_; rintro e w' ⟨rfl, rfl⟩)
  go_ret
  exact ⟨rfl, rfl⟩
theorem power_ok (n : Nat) (h1 : 1 ≤ n) (hn : n ≤ 1073741824) (w : World) : Calls Tryz.prog 177 #[.int .i64 n] w fun e w' => e = .returned (.int .i64 (2 ^ blen (n - 1) : Nat)) ∧ w = w' := by
  have HL := Lib.hid (fun W => Len_ok (n - 1) (by omega) W)
  have e1 : IntKind.i64.wrap ((n : Int) - 1) = ((n - 1 : Nat) : Int) := by rw [IntWalk.i64_in _ (by omega)]; omega
  have e2 : IntKind.u64.wrap ((n - 1 : Nat) : Int) = ((n - 1 : Nat) : Int) := u64_wrap _ (by omega)
  have hb : blen (n - 1) ≤ 30 := blen_le (by omega)
  have b0 : (0 : Int) ≤ (blen (n - 1) : Int) := by omega
  generalize n - 1 = m at *
  generalize blen m = k at *
  go_enter Tryz.func177, Tryz.ntmps177
  go_wp2_with (go_at_call 190; refine Calls.mono (HL.out _) ?_; rintro e w' ⟨rfl, rfl⟩)
  go_ret
  refine ⟨?_, rfl⟩
  have hk : 2 ^ k ≤ 2 ^ 30 := Nat.pow_le_pow_right (by decide) hb
  have e3 : (2 : Int) ^ k = ((2 ^ k : Nat) : Int) := by simp
  have e4 : wrap64 ((2 : Int) ^ k) = ((2 ^ k : Nat) : Int) := by rw [e3]; exact w64_nat _ (by omega)
  exact congrArg (fun x => Ending.returned (.int .i64 x)) e4
/-- The maximum number of lanes for some slot numbers. -/
def boundM (live : Nat) : Nat := 2 ^ blen (4 * live + 15)
theorem boundM_le (live : Nat) : 4 * live + 16 ≤ boundM live := by have := blen_lt (4 * live + 15); unfold boundM; omega
theorem boundM_min {live j : Nat} (h : 4 * live + 16 ≤ 2 ^ j) : boundM live ≤ 2 ^ j := Nat.pow_le_pow_right (by decide) (blen_le (by omega))
theorem boundM_pow {live : Nat} (hlt : boundM live < 8388608) : ∃ k, k ≤ 19 ∧ boundM live = 8 * 2 ^ k := by
  have h1 := boundM_le live
  unfold boundM at h1 hlt ⊢
  obtain ⟨b, hb⟩ : ∃ b, blen (4 * live + 15) = b := ⟨_, rfl⟩
  rw [hb] at h1 hlt ⊢
  have h3 : 3 ≤ b := by
    by_cases c : 3 ≤ b
    · exact c
    · have : 2 ^ b ≤ 2 ^ 2 := Nat.pow_le_pow_right (by decide) (by omega)
      omega
  have h23 : b < 23 := by
    by_cases c : b < 23
    · exact c
    · have : 2 ^ 23 ≤ 2 ^ b := Nat.pow_le_pow_right (by decide) (by omega)
      omega
  refine ⟨b - 3, by omega, ?_⟩
  rw [show b = 3 + (b - 3) by omega, Nat.pow_add]
  simp
theorem bound_ok (live : Nat) (hn : live ≤ 7340032) (w : World) : Calls Tryz.prog 139 #[.int .i64 live] w fun e w' => e = .returned (.int .i64 (boundM live)) ∧ w = w' := by
  have HL := Lib.hid (fun W => power_ok (4 * live + 16) (by omega) (by omega) W)
  have e0 : 4 * live + 16 - 1 = 4 * live + 15 := by omega
  rw [e0] at HL
  have e1 : IntKind.i64.wrap (4 * (live : Int)) = 4 * (live : Int) := IntWalk.i64_in _ (by omega)
  have e2 : IntKind.i64.wrap (4 * (live : Int) + 16) = ((4 * live + 16 : Nat) : Int) := by rw [IntWalk.i64_in _ (by omega)]; omega
  unfold boundM
  generalize 4 * live + 16 = z at *
  generalize 2 ^ blen (4 * live + 15) = r at *
  go_enter Tryz.func139, Tryz.ntmps139
  go_wp2_with (go_at_call 177; refine Calls.mono (HL.out _) ?_; rintro e w' ⟨rfl, rfl⟩)
  go_ret
  exact ⟨rfl, rfl⟩
/-- What is to be done after a slot number was taken out: how many groups, and whether it is made again. -/
def planR (g live : Nat) : Nat × Bool := if live ≤ 7340032 ∧ boundM live < 8 * g then (boundM live / 8, true) else (g, false)
def gremPost (w : World) (x : Nat × Bool) (e : Ending) (w' : World) : Prop := e = .returned (.tuple #[.agg #[.int .i64 (x.1 : Nat), .bool x.2], .int .i64 0]) ∧ Pure w w'
theorem planR_ok {g live : Nat} (hg : Pow g) : Pow (planR g live).1 ∧ ((planR g live).2 = true → live < 8 * (planR g live).1) ∧ ((planR g live).2 = false → (planR g live).1 = g) := by
  have hle := hg.le
  unfold planR
  split
  · rename_i h
    obtain ⟨k, hk, e⟩ := boundM_pow (live := live) (by omega)
    have h1 := boundM_le live
    rw [e, show 8 * 2 ^ k / 8 = 2 ^ k by omega]
    refine ⟨⟨k, by omega, rfl⟩, fun _ => ?_, by simp⟩
    dsimp only
    omega
  · exact ⟨hg, by simp, fun _ => rfl⟩
set_option maxHeartbeats 1000000 in
theorem gRemove_ok {g live tombs : Nat} (hg : Pow g) (h : live + tombs ≤ 8 * g) (w : World) : Calls Tryz.prog 75 #[.int .i64 g, .int .i64 live, .int .i64 tombs] w (gremPost w (planR g live)) := by
  have hg1 := hg.le
  have HC := Lib.hid (fun W => gcheck_ok hg h W)
  have wg : IntKind.i64.wrap ((g : Int) * 8) = (g : Int) * 8 := IntWalk.i64_in _ (by omega)
  obtain ⟨r, hr⟩ : ∃ r, planR g live = r := ⟨_, rfl⟩
  rw [hr]
  unfold planR at hr
  have hp0 : Pure w (w.alloc (.cells #[.int .i64 0, .bool false] 131)) := (Mod.refl _ w).alloc _
  have h6 := heap_new (w := w) (o := .cells #[.int .i64 0, .bool false] 131 (0, 0)) rfl
  have HP := Lib.hid hp0
  by_cases c1 : live ≤ 7340032
  · have d1 : decide ((live : Int) ≤ 7340032) = true := decide_eq_true (by omega)
    have HB := Lib.hid (fun W => bound_ok live c1 W)
    obtain ⟨bm, hbm⟩ : ∃ bm, boundM live = bm := ⟨_, rfl⟩
    rw [hbm] at HB hr
    by_cases c2 : bm < 8 * g
    · have d2 : decide ((bm : Int) < (g : Int) * 8) = true := decide_eq_true (by omega)
      rw [if_pos ⟨c1, c2⟩] at hr
      obtain ⟨q, hq⟩ : ∃ q, bm / 8 = q := ⟨_, rfl⟩
      have e8 : wrap64 ((bm : Int) / 8) = (q : Int) := by
        rw [show (bm : Int) / 8 = (q : Int) by omega]
        exact w64_nat _ (by omega)
      rw [hq] at hr
      have HR := Lib.hid hr
      clear hr hp0 hg h c1 c2 hbm
      go_enter Tryz.func75, Tryz.ntmps75
      go_upto_region 1 with fail
      generalize w.alloc (.cells #[.int .i64 0, .bool false] 131) = W1 at *
      obtain ⟨b6, hb6⟩ : ∃ b, w.heap.size = b := ⟨_, rfl⟩
      rw [hb6] at h6 ⊢
      have HB6 := Lib.hid hb6
      clear hb6
      go_upto_region 2 with (go_at_call 138; refine Calls.mono (HC.out _) ?_; rintro e w1 ⟨rfl, hp1⟩)
      have hh6 := hp1.heap (fun h => h) h6
      replace HP := Lib.hid (HP.out.trans hp1)
      clear hp1 h6
      have hh6_0 := cell_of_row _ _ 0 _ _ _ hh6; have hh6_1 := cell_of_row _ _ 1 _ _ _ hh6; have hh6_f := (fun j => frozen_of_row _ _ j _ _ hh6); have hh6_l := lt_of_block hh6; simp at hh6_0 hh6_1; have H_hh6 := Lib.hid hh6; clear hh6
      go_wp2_with (go_at_call 139; refine Calls.mono (HB.out _) ?_; rintro e w' ⟨rfl, rfl⟩)
      obtain ⟨f1, x0, x1⟩ := gfin (v0 := .int .i64 q) (v1 := .bool true) H_hh6.out HP.out (by have := HB6.out; omega) rfl
      obtain ⟨Y, hY⟩ : ∃ Y, (w1.setCell ⟨b6, 0, none⟩ (.int .i64 q)).setCell ⟨b6, 1, none⟩ (.bool true) = Y := ⟨_, rfl⟩
      rw [hY] at f1 x0 x1 ⊢
      rw [← HR.out]
      exact bodyPost_ret (v := .tuple #[.agg #[.int .i64 q, .bool true], .int .i64 0]) (by simp [results, Tryz.results75, go_sem, x0, x1]) rfl ⟨rfl, f1⟩
    · have d2 : decide ((bm : Int) < (g : Int) * 8) = false := decide_eq_false (by omega)
      rw [if_neg (fun h => c2 h.2)] at hr
      have HR := Lib.hid hr
      clear hr hp0 hg h c1 c2 hbm
      go_enter Tryz.func75, Tryz.ntmps75
      go_upto_region 1 with fail
      generalize w.alloc (.cells #[.int .i64 0, .bool false] 131) = W1 at *
      obtain ⟨b6, hb6⟩ : ∃ b, w.heap.size = b := ⟨_, rfl⟩
      rw [hb6] at h6 ⊢
      have HB6 := Lib.hid hb6
      clear hb6
      go_upto_region 2 with (go_at_call 138; refine Calls.mono (HC.out _) ?_; rintro e w1 ⟨rfl, hp1⟩)
      have hh6 := hp1.heap (fun h => h) h6
      replace HP := Lib.hid (HP.out.trans hp1)
      clear hp1 h6
      have hh6_0 := cell_of_row _ _ 0 _ _ _ hh6; have hh6_1 := cell_of_row _ _ 1 _ _ _ hh6; have hh6_f := (fun j => frozen_of_row _ _ j _ _ hh6); have hh6_l := lt_of_block hh6; simp at hh6_0 hh6_1; have H_hh6 := Lib.hid hh6; clear hh6
      go_wp2_with (go_at_call 139; refine Calls.mono (HB.out _) ?_; rintro e w' ⟨rfl, rfl⟩)
      obtain ⟨f1, x0, x1⟩ := gfin (v0 := .int .i64 g) (v1 := .bool false) H_hh6.out HP.out (by have := HB6.out; omega) rfl
      obtain ⟨Y, hY⟩ : ∃ Y, (w1.setCell ⟨b6, 0, none⟩ (.int .i64 g)).setCell ⟨b6, 1, none⟩ (.bool false) = Y := ⟨_, rfl⟩
      rw [hY] at f1 x0 x1 ⊢
      rw [← HR.out]
      exact bodyPost_ret (v := .tuple #[.agg #[.int .i64 g, .bool false], .int .i64 0]) (by simp [results, Tryz.results75, go_sem, x0, x1]) rfl ⟨rfl, f1⟩
  · have d1 : decide ((live : Int) ≤ 7340032) = false := decide_eq_false (by omega)
    rw [if_neg (fun h => c1 h.1)] at hr
    have HR := Lib.hid hr
    clear hr hp0 hg h c1
    go_enter Tryz.func75, Tryz.ntmps75
    go_upto_region 1 with fail
    generalize w.alloc (.cells #[.int .i64 0, .bool false] 131) = W1 at *
    obtain ⟨b6, hb6⟩ : ∃ b, w.heap.size = b := ⟨_, rfl⟩
    rw [hb6] at h6 ⊢
    have HB6 := Lib.hid hb6
    clear hb6
    go_upto_region 2 with (go_at_call 138; refine Calls.mono (HC.out _) ?_; rintro e w1 ⟨rfl, hp1⟩)
    have hh6 := hp1.heap (fun h => h) h6
    replace HP := Lib.hid (HP.out.trans hp1)
    clear hp1 h6
    have hh6_0 := cell_of_row _ _ 0 _ _ _ hh6; have hh6_1 := cell_of_row _ _ 1 _ _ _ hh6; have hh6_f := (fun j => frozen_of_row _ _ j _ _ hh6); have hh6_l := lt_of_block hh6; simp at hh6_0 hh6_1; have H_hh6 := Lib.hid hh6; clear hh6
    go_wp2
    obtain ⟨f1, x0, x1⟩ := gfin (v0 := .int .i64 g) (v1 := .bool false) H_hh6.out HP.out (by have := HB6.out; omega) rfl
    obtain ⟨Y, hY⟩ : ∃ Y, (w1.setCell ⟨b6, 0, none⟩ (.int .i64 g)).setCell ⟨b6, 1, none⟩ (.bool false) = Y := ⟨_, rfl⟩
    rw [hY] at f1 x0 x1 ⊢
    rw [← HR.out]
    exact bodyPost_ret (v := .tuple #[.agg #[.int .i64 g, .bool false], .int .i64 0]) (by simp [results, Tryz.results75, go_sem, x0, x1]) rfl ⟨rfl, f1⟩
end Go.Proofs.YtpafcocciggfpaaGreat
