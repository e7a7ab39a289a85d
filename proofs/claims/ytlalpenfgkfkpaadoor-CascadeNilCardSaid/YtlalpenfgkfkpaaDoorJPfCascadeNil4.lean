/- Lemmas and contracts of functions, strung together out of 5 texts. No condition. -/
import Derived.Test.YtlalpenfgkfkpaaDoorJPfCascadeNil3
import Derived.Test.YtlalpenfgkfkpaaDoorJPfCascadeNil1
import Derived.Test.YtlalpenfgkfkpaaDoorJPfCascadeNil2
import Derived.Deep.CutBlock
/- growth.power, bound, Remove; bits.Len of small numbers. -/
namespace Go.Proofs.YtlalpenfgkfkpaaDoor
open Go.RowKit Go.Shelf
set_option maxRecDepth 100000

/-- How many bits a number has. -/
def blen (n : Nat) : Nat := if n = 0 then 0 else Nat.log2 n + 1
theorem blen_lt (n : Nat) : n < 2 ^ blen n := by
  unfold blen
  split
  · rename_i h; subst h; decide
  · exact Nat.lt_log2_self
theorem blen_le {n k : Nat} (h : n < 2 ^ k) : blen n ≤ k := by
  unfold blen
  split
  · exact Nat.zero_le _
  · rename_i h0
    exact (Nat.log2_lt h0).2 h
theorem blen_min {n k : Nat} (h1 : 2 ^ k ≤ n) (h2 : n < 2 ^ (k + 1)) : blen n = k + 1 := by
  have h0 : n ≠ 0 := by have := Nat.pow_pos (n := k) (show 0 < 2 by decide); omega
  unfold blen
  rw [if_neg h0]
  have h3 : n.log2 < k + 1 := (Nat.log2_lt h0).2 h2
  have h4 : ¬ n.log2 < k := fun h => by have := (Nat.log2_lt h0).1 h; omega
  omega
theorem blen_div {n j : Nat} (h : 2 ^ j ≤ n) : blen n = blen (n / 2 ^ j) + j := by
  have hp := Nat.pow_pos (n := j) (show 0 < 2 by decide)
  have h0 : n ≠ 0 := by omega
  have h1 : n / 2 ^ j ≠ 0 := by have := Nat.div_pos h hp; omega
  have e : n.log2 = (n / 2 ^ j).log2 + j := by
    have h2 : (n / 2 ^ j) < 2 ^ ((n / 2 ^ j).log2 + 1) := Nat.lt_log2_self
    have h3 : 2 ^ (n / 2 ^ j).log2 ≤ n / 2 ^ j := Nat.log2_self_le h1
    have h4 : 2 ^ ((n / 2 ^ j).log2 + j) ≤ n := by
      rw [Nat.pow_add]
      have := Nat.mul_le_mul_right (2 ^ j) h3
      exact Nat.le_trans this (Nat.div_mul_le_self n _)
    have h5 : n < 2 ^ ((n / 2 ^ j).log2 + j + 1) := by
      have h6 := Nat.lt_mul_of_div_lt h2 hp
      rw [show (n / 2 ^ j).log2 + j + 1 = j + ((n / 2 ^ j).log2 + 1) by omega, Nat.pow_add]
      rw [Nat.mul_comm]; exact h6
    have h7 : n.log2 < (n / 2 ^ j).log2 + j + 1 := (Nat.log2_lt h0).2 h5
    have h8 : ¬ n.log2 < (n / 2 ^ j).log2 + j := fun h => by have := (Nat.log2_lt h0).1 h; omega
    omega
  unfold blen
  rw [if_neg h0, if_neg h1, e]
  omega
theorem blen_table (s : ByteArray) (hs : s.size = 256) (h : ∀ k (hk : k < 256), wrap64 ((s[k]'(by omega)).toNat : Int) = blen k) (m : Nat) (hm : m < 256) (hms : m < s.size) : wrap64 ((s[m]'hms).toNat : Int) = blen m := h m hm
theorem len_end (y : Int) (s : ByteArray) (hs : s.size = 256) (h : ∀ k (hk : k < 256), wrap64 ((s[k]'(by omega)).toNat : Int) = blen k) (m : Nat) (hm : m < 256) (hms : m < s.size) (n : Nat) (hb : (blen n : Int) = y + blen m) (h0 : 0 ≤ y ∧ y ≤ 100) :
    wrap64 (y + wrap64 ((s[m]'hms).toNat : Int)) = (blen n : Int) := by
  rw [blen_table s hs h m hm hms, ← hb]
  have : blen m ≤ 8 := blen_le (by omega)
  exact IntWalk.wrap64_in _ (by omega)
theorem len_end0 (s : ByteArray) (hs : s.size = 256) (h : ∀ k (hk : k < 256), wrap64 ((s[k]'(by omega)).toNat : Int) = blen k) (m : Nat) (hm : m < 256) (hms : m < s.size) : wrap64 (wrap64 ((s[m]'hms).toNat : Int)) = (blen m : Int) := by
  have := len_end 0 s hs h m hm hms m (by omega) (by omega)
  rwa [Int.zero_add] at this
theorem Len64_ok (n : Nat) (hn : n < 4294967296) (w : World) : Calls Tryd.prog 78 #[.int .u64 n] w fun e w' => e = .returned (.int .i64 (blen n)) ∧ w = w' := by
  have d0 : decide (4294967296 ≤ (n : Int)) = false := decide_eq_false (by omega)
  have n0 : (0 : Int) ≤ n := by omega
  by_cases c1 : 65536 ≤ n
  · have d1 : decide (65536 ≤ (n : Int)) = true := decide_eq_true (by omega)
    have hb := blen_div (n := n) (j := 16) c1
    obtain ⟨k, hk⟩ : ∃ k, n / 2 ^ 16 = k := ⟨_, rfl⟩
    have e1 : (n : Int) / 65536 = (k : Int) := by omega
    have hk2 : k < 65536 := by omega
    rw [hk] at hb
    have k0 : (0 : Int) ≤ k := by omega
    by_cases c2 : 256 ≤ k
    · have d2 : decide (256 ≤ (k : Int)) = true := decide_eq_true (by omega)
      have hb2 := blen_div (n := k) (j := 8) c2
      obtain ⟨m, hm⟩ : ∃ m, k / 2 ^ 8 = m := ⟨_, rfl⟩
      have e2 : (k : Int) / 256 = (m : Int) := by omega
      have hm2 : m < 256 := by omega
      rw [hm] at hb2
      have m0 : (0 : Int) ≤ m := by omega
      have m1 : (m : Int) < 256 := by omega
      have w8 : IntKind.u8.wrap (m : Int) = m := by simp [IntKind.wrap, IntKind.signed, IntKind.bits]; omega
      go_enter Tryd.func78, Tryd.ntmps78
      go_wp2
      go_ret
      exact ⟨congrArg (fun x => Ending.returned (.int .i64 x)) (len_end 24 _ (by decide) (by decide +kernel) m hm2 _ n (by omega) (by omega)), rfl⟩
    · have d2 : decide (256 ≤ (k : Int)) = false := decide_eq_false (by omega)
      have m1 : (k : Int) < 256 := by omega
      have w8 : IntKind.u8.wrap (k : Int) = k := by simp [IntKind.wrap, IntKind.signed, IntKind.bits]; omega
      go_enter Tryd.func78, Tryd.ntmps78
      go_wp2
      go_ret
      exact ⟨congrArg (fun x => Ending.returned (.int .i64 x)) (len_end 16 _ (by decide) (by decide +kernel) k (by omega) _ n (by omega) (by omega)), rfl⟩
  · have d1 : decide (65536 ≤ (n : Int)) = false := decide_eq_false (by omega)
    by_cases c2 : 256 ≤ n
    · have d2 : decide (256 ≤ (n : Int)) = true := decide_eq_true (by omega)
      have hb2 := blen_div (n := n) (j := 8) c2
      obtain ⟨m, hm⟩ : ∃ m, n / 2 ^ 8 = m := ⟨_, rfl⟩
      have e2 : (n : Int) / 256 = (m : Int) := by omega
      have hm2 : m < 256 := by omega
      rw [hm] at hb2
      have m0 : (0 : Int) ≤ m := by omega
      have m1 : (m : Int) < 256 := by omega
      have w8 : IntKind.u8.wrap (m : Int) = m := by simp [IntKind.wrap, IntKind.signed, IntKind.bits]; omega
      go_enter Tryd.func78, Tryd.ntmps78
      go_wp2
      go_ret
      exact ⟨congrArg (fun x => Ending.returned (.int .i64 x)) (len_end 8 _ (by decide) (by decide +kernel) m hm2 _ n (by omega) (by omega)), rfl⟩
    · have d2 : decide (256 ≤ (n : Int)) = false := decide_eq_false (by omega)
      have m1 : (n : Int) < 256 := by omega
      have w8 : IntKind.u8.wrap (n : Int) = n := by simp [IntKind.wrap, IntKind.signed, IntKind.bits]; omega
      go_enter Tryd.func78, Tryd.ntmps78
      go_wp2
      go_ret
      exact ⟨congrArg (fun x => Ending.returned (.int .i64 x)) (len_end0 _ (by decide) (by decide +kernel) n (by omega) _), rfl⟩
theorem Len_ok (n : Nat) (hn : n < 4294967296) (w : World) : Calls Tryd.prog 81 #[.int .u64 n] w fun e w' => e = .returned (.int .i64 (blen n)) ∧ w = w' := by
  have HL := Lib.hid (fun W => Len64_ok n hn W)
  go_enter Tryd.func81, Tryd.ntmps81
  go_wp2_with (go_at_call 78; refine Calls.mono (HL.out _) ?_; rintro e w' ⟨rfl, rfl⟩)
  go_ret
  exact ⟨rfl, rfl⟩
/-- The maximum number of lanes for some slot numbers. -/
def boundM (live : Nat) : Nat := 2 ^ blen (4 * live + 15)
theorem boundM_le (live : Nat) : 4 * live + 16 ≤ boundM live := by have := blen_lt (4 * live + 15); unfold boundM; omega
theorem boundM_min {live j : Nat} (h : 4 * live + 16 ≤ 2 ^ j) : boundM live ≤ 2 ^ j := Nat.pow_le_pow_right (by decide) (blen_le (by omega))
theorem boundM_pow {live : Nat} (hlt : boundM live < 8388608) : ∃ k, k ≤ 19 ∧ boundM live = 8 * 2 ^ k := by
  have h1 := boundM_le live
  unfold boundM at h1 hlt ⊢
  obtain ⟨b, hb⟩ : ∃ b, blen (4 * live + 15) = b := ⟨_, rfl⟩
  rw [hb] at h1 hlt ⊢
  have h3 : 3 ≤ b := by
    by_cases c : 3 ≤ b
    · exact c
    · have : 2 ^ b ≤ 2 ^ 2 := Nat.pow_le_pow_right (by decide) (by omega)
      omega
  have h23 : b < 23 := by
    by_cases c : b < 23
    · exact c
    · have : 2 ^ 23 ≤ 2 ^ b := Nat.pow_le_pow_right (by decide) (by omega)
      omega
  refine ⟨b - 3, by omega, ?_⟩
  rw [show b = 3 + (b - 3) by omega, Nat.pow_add]
  simp
/-- What is to be done after a slot number was taken out: how many groups, and whether it is made again. -/
def planR (g live : Nat) : Nat × Bool := if live ≤ 7340032 ∧ boundM live < 8 * g then (boundM live / 8, true) else (g, false)
def gremPost (w : World) (x : Nat × Bool) (e : Ending) (w' : World) : Prop := e = .returned (.tuple #[.agg #[.int .i64 (x.1 : Nat), .bool x.2], .int .i64 0]) ∧ Pure w w'
theorem planR_ok {g live : Nat} (hg : Pow g) : Pow (planR g live).1 ∧ ((planR g live).2 = true → live < 8 * (planR g live).1) ∧ ((planR g live).2 = false → (planR g live).1 = g) := by
  have hle := hg.le
  unfold planR
  split
  · rename_i h
    obtain ⟨k, hk, e⟩ := boundM_pow (live := live) (by omega)
    have h1 := boundM_le live
    rw [e, show 8 * 2 ^ k / 8 = 2 ^ k by omega]
    refine ⟨⟨k, by omega, rfl⟩, fun _ => ?_, by simp⟩
    dsimp only
    omega
  · exact ⟨hg, by simp, fun _ => rfl⟩
end Go.Proofs.YtlalpenfgkfkpaaDoor

/- Levels and buckets of deadlines, by plain numbers. No program in sight. No condition. -/
namespace Go.Proofs.YtlalpenfgkfkpaaDoor
def lvlF : Nat → Nat → Nat → Nat
  | 0, _, _ => 0
  | k + 1, now, dl => if dl / 256 = now / 256 then 0 else lvlF k (now / 256) (dl / 256) + 1
/-- The level of a deadline at a time, and its bucket there. -/
def lvl (now dl : Nat) : Nat := lvlF 8 now dl
def bkt (now dl : Nat) : Nat := dl / 256 ^ lvl now dl % 256
theorem div_pow_succ (a k : Nat) : a / 256 / 256 ^ k = a / 256 ^ (k + 1) := by rw [Nat.div_div_eq_div_mul, Nat.pow_succ, Nat.mul_comm]
theorem lvlF_spec : ∀ (f now dl : Nat), now < 256 ^ f → dl < 256 ^ f → 0 < f → lvlF f now dl < f ∧ dl / 256 ^ (lvlF f now dl + 1) = now / 256 ^ (lvlF f now dl + 1) ∧ ∀ k, k < lvlF f now dl → dl / 256 ^ (k + 1) ≠ now / 256 ^ (k + 1)
  | 0, _, _, _, _, h => by omega
  | f + 1, now, dl, hn, hd, _ => by
    unfold lvlF
    split
    · rename_i h
      exact ⟨by omega, by simpa using h, fun k hk => by omega⟩
    · rename_i h
      have hn' : now / 256 < 256 ^ f := by rw [Nat.div_lt_iff_lt_mul (by decide), ← Nat.pow_succ]; exact hn
      have hd' : dl / 256 < 256 ^ f := by rw [Nat.div_lt_iff_lt_mul (by decide), ← Nat.pow_succ]; exact hd
      have hf : 0 < f := by
        rcases Nat.eq_zero_or_pos f with rfl | h0
        · rw [Nat.pow_zero] at hn' hd'; omega
        · exact h0
      obtain ⟨i1, i2, i3⟩ := lvlF_spec f (now / 256) (dl / 256) hn' hd' hf
      refine ⟨by omega, ?_, fun k hk => ?_⟩
      · rw [div_pow_succ, div_pow_succ] at i2; exact i2
      · cases k with
        | zero => simpa using h
        | succ k =>
          have := i3 k (by omega)
          rw [div_pow_succ, div_pow_succ] at this
          exact this
section
variable {now dl tt : Nat}
theorem lvl_spec (hn : now < 18446744073709551616) (hd : dl < 18446744073709551616) : lvl now dl < 8 ∧ dl / 256 ^ (lvl now dl + 1) = now / 256 ^ (lvl now dl + 1) ∧ ∀ k, k < lvl now dl → dl / 256 ^ (k + 1) ≠ now / 256 ^ (k + 1) :=
  lvlF_spec 8 now dl hn hd (by decide)
theorem div_pow_mono {a b i j : Nat} (h : a / 256 ^ i = b / 256 ^ i) (hij : i ≤ j) : a / 256 ^ j = b / 256 ^ j := by
  obtain ⟨d, rfl⟩ := Nat.exists_eq_add_of_le hij
  rw [Nat.pow_add, ← Nat.div_div_eq_div_mul, ← Nat.div_div_eq_div_mul, h]
theorem lvl_uniq (hn : now < 18446744073709551616) (hd : dl < 18446744073709551616) {k : Nat} (h1 : dl / 256 ^ (k + 1) = now / 256 ^ (k + 1)) (h2 : ∀ j, j < k → dl / 256 ^ (j + 1) ≠ now / 256 ^ (j + 1)) : lvl now dl = k := by
  obtain ⟨a1, a2, a3⟩ := lvl_spec hn hd
  rcases Nat.lt_trichotomy (lvl now dl) k with h | h | h
  · exact absurd a2 (h2 _ h)
  · exact h
  · exact absurd h1 (a3 k h)
theorem lvl_diff (hn : now < 18446744073709551616) (hd : dl < 18446744073709551616) (h : now < dl) : now / 256 ^ lvl now dl < dl / 256 ^ lvl now dl := by
  obtain ⟨a1, a2, a3⟩ := lvl_spec hn hd
  have hle : now / 256 ^ lvl now dl ≤ dl / 256 ^ lvl now dl := Nat.div_le_div_right (Nat.le_of_lt h)
  have hne : now / 256 ^ lvl now dl ≠ dl / 256 ^ lvl now dl := by
    cases hl : lvl now dl with
    | zero => simp; omega
    | succ k => exact fun e => a3 k (by omega) e.symm
  omega
theorem bkt_lt : bkt now dl < 256 := Nat.mod_lt _ (by decide)
/-- What is moved as the time goes on: the levels below the highest digit that changes, and there the buckets up tt that digit. -/
def movedD (now tt dl : Nat) : Prop := lvl now dl < lvl now tt ∨ lvl now dl = lvl now tt ∧ bkt now dl ≤ bkt now tt
theorem lt_of_div {a b m : Nat} (h : a / m < b / m) : a < b := by
  apply Nat.lt_of_not_le
  intro hba
  have := Nat.div_le_div_right (c := m) hba
  omega
theorem not_moved (hn : now < 18446744073709551616) (ht : tt < 18446744073709551616) (hd : dl < 18446744073709551616) (h1 : now < dl) (h2 : now < tt) (h : ¬ movedD now tt dl) : tt < dl ∧ lvl tt dl = lvl now dl ∧ bkt tt dl = bkt now dl := by
  obtain ⟨a1, a2, a3⟩ := lvl_spec hn hd
  obtain ⟨b1, b2, b3⟩ := lvl_spec hn ht
  have hdf := lvl_diff hn hd h1
  unfold movedD at h
  rw [not_or] at h
  obtain ⟨h3, h4⟩ := h
  have key : tt / 256 ^ lvl now dl < dl / 256 ^ lvl now dl := by
    rcases Nat.lt_or_ge (lvl now tt) (lvl now dl) with c | c
    · rw [div_pow_mono b2 (show lvl now tt + 1 ≤ lvl now dl by omega)]
      exact hdf
    · have e : lvl now dl = lvl now tt := by omega
      have h5 : bkt now tt < bkt now dl := by
        apply Nat.lt_of_not_le
        exact fun hh => h4 ⟨e, hh⟩
      unfold bkt at h5
      rw [← e] at h5 b2
      have e2 : dl / 256 ^ (lvl now dl + 1) = tt / 256 ^ (lvl now dl + 1) := a2.trans b2.symm
      rw [Nat.pow_succ, ← Nat.div_div_eq_div_mul, ← Nat.div_div_eq_div_mul] at e2
      omega
  have e3 : lvl tt dl = lvl now dl := by
    refine lvl_uniq ht hd ?_ (fun j hj e => ?_)
    · rw [a2]
      rcases Nat.lt_or_ge (lvl now tt) (lvl now dl) with c | c
      · exact (div_pow_mono b2 (show lvl now tt + 1 ≤ lvl now dl + 1 by omega)).symm
      · have e : lvl now dl = lvl now tt := by omega
        rw [e]; exact b2.symm
    · have := div_pow_mono e (show j + 1 ≤ lvl now dl by omega)
      omega
  exact ⟨lt_of_div key, e3, by unfold bkt; rw [e3]⟩
/-- The level by the highest bit in which the two differ. -/
theorem xor_div (a b k : Nat) : (a ^^^ b) / 2 ^ k = (a / 2 ^ k) ^^^ (b / 2 ^ k) := by
  rw [← Nat.shiftRight_eq_div_pow, ← Nat.shiftRight_eq_div_pow, ← Nat.shiftRight_eq_div_pow, Nat.shiftRight_xor_distrib]
theorem xor_eq_zero' {a b : Nat} : a ^^^ b = 0 ↔ a = b := by
  constructor
  · intro h
    apply Nat.eq_of_testBit_eq
    intro i
    have := congrArg (fun n => n.testBit i) h
    simp [Nat.testBit_xor] at this
    exact this
  · rintro rfl; exact Nat.xor_self a
theorem lvl_bits (hn : now < 18446744073709551616) (hd : dl < 18446744073709551616) (h : dl ≠ now) {n : Nat} (h1 : dl ^^^ now < 2 ^ n) (h2 : 2 ^ (n - 1) ≤ dl ^^^ now) (h0 : 0 < n) : (n - 1) / 8 = lvl now dl := by
  symm
  have p : ∀ k, (256 : Nat) ^ k = 2 ^ (8 * k) := fun k => by rw [Nat.pow_mul]
  refine lvl_uniq hn hd ?_ (fun j hj e => ?_)
  · rw [p, ← xor_eq_zero', ← xor_div]
    apply Nat.div_eq_of_lt
    exact Nat.lt_of_lt_of_le h1 (Nat.pow_le_pow_right (by decide) (by omega))
  · rw [p, ← xor_eq_zero', ← xor_div] at e
    have h3 : dl ^^^ now < 2 ^ (8 * (j + 1)) := by
      rcases Nat.div_eq_zero_iff.1 e with e | e
      · have := Nat.pow_pos (n := 8 * (j + 1)) (show 0 < 2 by decide); omega
      · exact e
    have : 2 ^ (8 * (j + 1)) ≤ 2 ^ (n - 1) := Nat.pow_le_pow_right (by decide) (by omega)
    omega
end
end Go.Proofs.YtlalpenfgkfkpaaDoor

/- bits.Len64 of every number; the level and the bucket by it. No condition. -/
namespace Go.Proofs.YtlalpenfgkfkpaaDoor
open Go.RowKit
set_option maxRecDepth 100000
theorem Len64_big (n : Nat) (hn : n < 18446744073709551616) (hb0 : 4294967296 ≤ n) (w : World) : Calls Tryd.prog 78 #[.int .u64 n] w fun e w' => e = .returned (.int .i64 (blen n)) ∧ w = w' := by
  have d0 : decide (4294967296 ≤ (n : Int)) = true := decide_eq_true (by omega)
  have hbb := blen_div (n := n) (j := 32) hb0
  obtain ⟨q, hq⟩ : ∃ q, n / 2 ^ 32 = q := ⟨_, rfl⟩
  have e0 : (n : Int) / 4294967296 = (q : Int) := by omega
  have hq2 : q < 4294967296 := by omega
  rw [hq] at hbb
  have n0 : (0 : Int) ≤ n := by omega
  have q0 : (0 : Int) ≤ q := by omega
  by_cases c1 : 65536 ≤ q
  · have d1 : decide (65536 ≤ (q : Int)) = true := decide_eq_true (by omega)
    have hb := blen_div (n := q) (j := 16) c1
    obtain ⟨k, hk⟩ : ∃ k, q / 2 ^ 16 = k := ⟨_, rfl⟩
    have e1 : (q : Int) / 65536 = (k : Int) := by omega
    have hk2 : k < 65536 := by omega
    rw [hk] at hb
    have k0 : (0 : Int) ≤ k := by omega
    by_cases c2 : 256 ≤ k
    · have d2 : decide (256 ≤ (k : Int)) = true := decide_eq_true (by omega)
      have hb2 := blen_div (n := k) (j := 8) c2
      obtain ⟨m, hm⟩ : ∃ m, k / 2 ^ 8 = m := ⟨_, rfl⟩
      have e2 : (k : Int) / 256 = (m : Int) := by omega
      have hm2 : m < 256 := by omega
      rw [hm] at hb2
      have m0 : (0 : Int) ≤ m := by omega
      have m1 : (m : Int) < 256 := by omega
      have w8 : IntKind.u8.wrap (m : Int) = m := by simp [IntKind.wrap, IntKind.signed, IntKind.bits]; omega
      go_enter Tryd.func78, Tryd.ntmps78
      go_wp2
      go_ret
      exact ⟨congrArg (fun x => Ending.returned (.int .i64 x)) (len_end 56 _ (by decide) (by decide +kernel) m hm2 _ n (by omega) (by omega)), rfl⟩
    · have d2 : decide (256 ≤ (k : Int)) = false := decide_eq_false (by omega)
      have m1 : (k : Int) < 256 := by omega
      have w8 : IntKind.u8.wrap (k : Int) = k := by simp [IntKind.wrap, IntKind.signed, IntKind.bits]; omega
      go_enter Tryd.func78, Tryd.ntmps78
      go_wp2
      go_ret
      exact ⟨congrArg (fun x => Ending.returned (.int .i64 x)) (len_end 48 _ (by decide) (by decide +kernel) k (by omega) _ n (by omega) (by omega)), rfl⟩
  · have d1 : decide (65536 ≤ (q : Int)) = false := decide_eq_false (by omega)
    by_cases c2 : 256 ≤ q
    · have d2 : decide (256 ≤ (q : Int)) = true := decide_eq_true (by omega)
      have hb2 := blen_div (n := q) (j := 8) c2
      obtain ⟨m, hm⟩ : ∃ m, q / 2 ^ 8 = m := ⟨_, rfl⟩
      have e2 : (q : Int) / 256 = (m : Int) := by omega
      have hm2 : m < 256 := by omega
      rw [hm] at hb2
      have m0 : (0 : Int) ≤ m := by omega
      have m1 : (m : Int) < 256 := by omega
      have w8 : IntKind.u8.wrap (m : Int) = m := by simp [IntKind.wrap, IntKind.signed, IntKind.bits]; omega
      go_enter Tryd.func78, Tryd.ntmps78
      go_wp2
      go_ret
      exact ⟨congrArg (fun x => Ending.returned (.int .i64 x)) (len_end 40 _ (by decide) (by decide +kernel) m hm2 _ n (by omega) (by omega)), rfl⟩
    · have d2 : decide (256 ≤ (q : Int)) = false := decide_eq_false (by omega)
      have m1 : (q : Int) < 256 := by omega
      have w8 : IntKind.u8.wrap (q : Int) = q := by simp [IntKind.wrap, IntKind.signed, IntKind.bits]; omega
      go_enter Tryd.func78, Tryd.ntmps78
      go_wp2
      go_ret
      exact ⟨congrArg (fun x => Ending.returned (.int .i64 x)) (len_end 32 _ (by decide) (by decide +kernel) q (by omega) _ n (by omega) (by omega)), rfl⟩
theorem Len64_any (n : Nat) (hn : n < 18446744073709551616) (w : World) : Calls Tryd.prog 78 #[.int .u64 n] w fun e w' => e = .returned (.int .i64 (blen n)) ∧ w = w' := by
  by_cases h : n < 4294967296
  · exact Len64_ok n h w
  · exact Len64_big n hn (by omega) w
theorem blen_lvl {now dl : Nat} (hn : now < 18446744073709551616) (hd : dl < 18446744073709551616) (h : dl ≠ now) : 1 ≤ blen (dl ^^^ now) ∧ blen (dl ^^^ now) ≤ 64 ∧ (blen (dl ^^^ now) - 1) / 8 = lvl now dl := by
  have h0 : dl ^^^ now ≠ 0 := fun e => h (xor_eq_zero'.1 e)
  have hx : dl ^^^ now < 2 ^ 64 := Nat.xor_lt_two_pow hd hn
  have hb : blen (dl ^^^ now) = Nat.log2 (dl ^^^ now) + 1 := by unfold blen; rw [if_neg h0]
  have h1 := blen_lt (dl ^^^ now)
  have h2 : 2 ^ (blen (dl ^^^ now) - 1) ≤ dl ^^^ now := by rw [hb]; exact Nat.log2_self_le h0
  exact ⟨by omega, blen_le hx, lvl_bits hn hd h h1 h2 (by omega)⟩
end Go.Proofs.YtlalpenfgkfkpaaDoor

/- links: Back, Of, Len, Nodes. Conditions: the field lies in memory. -/
namespace Go.Proofs.YtlalpenfgkfkpaaDoor
open Go.RowKit
set_option maxRecDepth 100000
/-- The list of a node. -/
def inL (Ls : List (List Nat)) (n : Nat) : Prop := ∃ (k : Nat) (l : List Nat), Ls[k]? = some l ∧ n ∈ l
section
variable {w w' : World} {p gF gL cF cL N : Nat} {Ls : List (List Nat)} {F : List Nd} {D : Nat → Prop}
theorem LkOk.free0 (h : LkOk N Ls F) {n : Nat} (hn : n < N) (hf : ¬ inL Ls n) : (nd F n).ow = 0 := by
  by_cases h0 : (nd F n).ow = 0
  · exact h0
  · obtain ⟨k, l, h1, h2, _⟩ := h.free n hn h0
    exact absurd ⟨k, l, h1, h2⟩ hf
theorem LkOk.not_free (h : LkOk N Ls F) {n k : Nat} {l : List Nat} (hl : Ls[k]? = some l) (hm : n ∈ l) : n < N ∧ (nd F n).ow = k + 1 := h.own k l hl n hm
set_option maxHeartbeats 1000000 in
theorem ladd_ok (h : LkMem w p gF gL cF cL N Ls F) {n k : Nat} {l : List Nat} (hn : n < N) (hl : Ls[k]? = some l) (hf : ¬ inL Ls n) :
    Calls Tryd.prog 115 #[lkP p, .int .i64 k, .int .u32 n, .bool false] w fun e w' => e = .returned (.int .i64 0) ∧ LkMem w' p gF gL cF cL N (Ls.set k (l ++ [n])) (putF F n (N + k)) ∧ Mod (fun b => b = gF ∨ b = gL) w w' := by
  have h0 := h.ok.free0 hn hf
  obtain ⟨a1, a2, a3, a4, a5, a6⟩ := h.ok.back hn h0 hl
  have hk : k < Ls.length := (List.getElem?_eq_some_iff.1 hl).1
  have hk4 : k ≤ 4096 := by have := h.hm; omega
  have HP := Lib.hid (lput_ok h hn a3 a2 a4 a5 a6 hl)
  have HLi := Lib.hid (llist_ok h hk)
  have HNo := Lib.hid (lnode_ok h hn)
  have HRi := Lib.hid (ring_ok h hk4)
  have hb := h.box
  obtain ⟨FL, hFL⟩ : ∃ FL, F.length = FL := ⟨_, rfl⟩
  have hnF : n < FL := by rw [← hFL, h.ok.len]; omega
  obtain ⟨c0, c1, c2⟩ := h.at_ (i := n) (by rw [hFL]; exact hnF)
  rw [h0] at c2
  rw [hFL] at hb
  have dn : decide (n < FL) = true := decide_eq_true hnF
  have hend : ∀ (w' : World), w'.heap[gF]? = some (.cells (fldC (putF F n (N + k))).toArray 156 (0, 0)) → w'.heap[gL]? = some (.cells ((lensC Ls).set k (.int .i64 ((l.length + 1 : Nat) : Int))).toArray 3 (0, 0)) → Mod (fun b => b = gF ∨ b = gL) w w' → LkMem w' p gF gL cF cL N (Ls.set k (l ++ [n])) (putF F n (N + k)) := fun w' g1 g2 g3 => by
    obtain ⟨n1, n2, n3⟩ := h.ne
    refine ⟨?_, g1, ?_, a1, h.n1, h.nm, by rw [List.length_set]; exact h.hm⟩
    · rw [putF_length, List.length_set]; exact g3.heap (fun e => by rcases e with e | e; exact n1 e; exact n2 e) h.box
    · rw [← lensC_set, List.length_append]; exact g2
  have HE := Lib.hid hend
  have hFb : FL ≤ 4198400 := by rw [← hFL, h.ok.len]; have := h.nm; have := h.hm; omega
  clear h hend hFL a1 a2 a3 a4 a5 a6 c0 c1 hl hf h0
  have hb_0 := cell_of_row _ _ 0 _ _ _ hb; have hb_1 := cell_of_row _ _ 1 _ _ _ hb; have hb_2 := cell_of_row _ _ 2 _ _ _ hb; have hb_f := (fun j => frozen_of_row _ _ j _ _ hb); have hb_l := lt_of_block hb; simp at hb_0 hb_1 hb_2; have H_hb := Lib.hid hb; clear hb
  go_enter Tryd.func115, Tryd.ntmps115
  go_wp2_with (first
    | (go_at_call 108; refine Calls.mono HLi.out ?_; rintro e w' ⟨rfl, rfl⟩)
    | (go_at_call 121; refine Calls.mono HNo.out ?_; rintro e w' ⟨rfl, rfl⟩)
    | (go_at_call 93; refine Calls.mono HRi.out ?_; rintro e w' ⟨rfl, rfl⟩)
    | (go_at_call 123; refine Calls.mono HP.out ?_; rintro e w2 ⟨rfl, q1, q2, q3⟩))
  go_ret
  exact ⟨rfl, HE.out _ q1 q2 q3, q3⟩
/-- A node of no list is added at the back of list k. -/
theorem lback_ok (h : LkAt w D p N Ls) {n k : Nat} {l : List Nat} (hn : n < N) (hl : Ls[k]? = some l) (hf : ¬ inL Ls n) :
    Calls Tryd.prog 95 #[lkP p, .int .i64 k, .int .u32 n] w fun e w' => e = .returned (.int .i64 0) ∧ LkAt w' D p N (Ls.set k (l ++ [n])) ∧ Mod D w w' := by
  obtain ⟨gF, gL, cF, cL, F, h1, h2⟩ := h
  have HA := Lib.hid (ladd_ok h1 hn hl hf)
  have H2 := Lib.hid h2
  clear h1 h2 hl hf hn
  go_enter Tryd.func95, Tryd.ntmps95
  go_wp2_with (go_at_call 115; refine Calls.mono HA.out ?_; rintro e w2 ⟨rfl, q1, q2⟩)
  go_ret
  exact ⟨rfl, ⟨gF, gL, cF, cL, _, q1, H2.out⟩, q2.mono (fun k _ hk => (H2.out k).2 (.inr hk))⟩
def ofPostL (Ls : List (List Nat)) (n : Nat) (e : Ending) : Prop := (∃ (k : Nat) (l : List Nat), Ls[k]? = some l ∧ n ∈ l ∧ e = .returned (.tuple #[.int .i64 k, .int .i64 0])) ∨ (¬ inL Ls n ∧ ∃ er : Int, er ≠ 0 ∧ e = .returned (.tuple #[.int .i64 0, .int .i64 er]))
theorem lof_ok (h : LkAt w D p N Ls) {n : Nat} (h32 : n ≤ 4294967295) : Calls Tryd.prog 106 #[lkP p, .int .u32 n] w fun e w' => ofPostL Ls n e ∧ w = w' := by
  obtain ⟨gF, gL, cF, cL, F, h, h2⟩ := h
  have HI := Lib.hid (lin_ok h h32)
  have hb := h.box
  by_cases hn : n < N ∧ (nd F n).ow ≠ 0
  · obtain ⟨k, l, hl, hm, how⟩ := h.ok.free n hn.1 hn.2
    have e0 : inE N F n = 0 := by unfold inE; rw [if_pos hn.1, if_neg hn.2]
    rw [e0] at HI
    obtain ⟨FL, hFL⟩ : ∃ FL, F.length = FL := ⟨_, rfl⟩
    have hnF : n < FL := by rw [← hFL, h.ok.len]; omega
    obtain ⟨c0, c1, c2⟩ := h.at_ (i := n) (by rw [hFL]; exact hnF)
    rw [how] at c2
    rw [hFL] at hb
    have dn : decide (n < FL) = true := decide_eq_true hnF
    have hk : k < Ls.length := (List.getElem?_eq_some_iff.1 hl).1
    have hk4 : k < 4096 := by have := h.hm; omega
    have HE : Hid (ofPostL Ls n (.returned (.tuple #[.int .i64 k, .int .i64 0]))) := Lib.hid (Or.inl ⟨k, l, hl, hm, rfl⟩)
    obtain ⟨kk, hkk⟩ : ∃ kk, k + 1 = kk := ⟨_, rfl⟩
    rw [hkk] at c2
    have wk : IntKind.i64.wrap ((kk : Int) - 1) = (k : Int) := by rw [show (kk : Int) - 1 = (k : Int) by omega]; exact IntWalk.i64_in _ (by omega)
    have wkk : IntKind.i64.wrap (kk : Int) = (kk : Int) := IntWalk.i64_in _ (by omega)
    clear h c0 c1 hl hm hn how e0 hFL hkk h2
    have hb_0 := cell_of_row _ _ 0 _ _ _ hb; have hb_1 := cell_of_row _ _ 1 _ _ _ hb; have hb_2 := cell_of_row _ _ 2 _ _ _ hb; have hb_f := (fun j => frozen_of_row _ _ j _ _ hb); have hb_l := lt_of_block hb; simp at hb_0 hb_1 hb_2; have H_hb := Lib.hid hb; clear hb
    go_enter Tryd.func106, Tryd.ntmps106
    go_wp2_with (go_at_call 107; refine Calls.mono HI.out ?_; rintro e w' ⟨rfl, rfl⟩)
    go_ret2
    exact ⟨HE.out, rfl⟩
  · have hni : ¬ inL Ls n := fun ⟨k, l, hl, hm⟩ => by
      have := h.ok.own k l hl n hm
      exact hn ⟨this.1, by omega⟩
    have e0 : inE N F n ≠ 0 := by
      unfold inE
      split
      · rename_i h1
        have : (nd F n).ow = 0 := by
          by_cases h0 : (nd F n).ow = 0
          · exact h0
          · exact absurd ⟨h1, h0⟩ hn
        rw [if_pos this]; decide
      · decide
    have HE : ∀ er, er ≠ 0 → ofPostL Ls n (.returned (.tuple #[.int .i64 0, .int .i64 er]))   := fun er he => Or.inr ⟨hni, er, he, rfl⟩
    have HE2 := Lib.hid (HE _ e0)
    obtain ⟨er, her⟩ : ∃ er, inE N F n = er := ⟨_, rfl⟩
    rw [her] at HI HE2 e0
    have b0 : (er == 0) = false := by simpa using e0
    have b1 : (er != 0) = true := by simpa using e0
    clear h h2 hn HE her hni hb e0
    go_enter Tryd.func106, Tryd.ntmps106
    go_wp2_with (go_at_call 107; refine Calls.mono HI.out ?_; rintro e w' ⟨rfl, rfl⟩)
    go_ret2
    exact ⟨HE2.out, rfl⟩
theorem llen_ok (h : LkAt w D p N Ls) {k : Nat} {l : List Nat} (hl : Ls[k]? = some l) : Calls Tryd.prog 86 #[lkP p, .int .i64 k] w fun e w' => e = .returned (.int .i64 l.length) ∧ w = w' := by
  obtain ⟨gF, gL, cF, cL, F, h, h2⟩ := h
  have hk : k < Ls.length := (List.getElem?_eq_some_iff.1 hl).1
  have HLi := Lib.hid (llist_ok h hk)
  have hb := h.box
  have hc := h.lenAt hl
  obtain ⟨H, hH⟩ : ∃ H, Ls.length = H := ⟨_, rfl⟩
  rw [hH] at hb hk
  have hm := h.hm
  rw [hH] at hm
  have dn : decide (k < H) = true := decide_eq_true hk
  clear h h2 hl hH
  generalize l.length = n at *
  have hb_0 := cell_of_row _ _ 0 _ _ _ hb; have hb_1 := cell_of_row _ _ 1 _ _ _ hb; have hb_2 := cell_of_row _ _ 2 _ _ _ hb; have hb_f := (fun j => frozen_of_row _ _ j _ _ hb); have hb_l := lt_of_block hb; simp at hb_0 hb_1 hb_2; have H_hb := Lib.hid hb; clear hb
  go_enter Tryd.func86, Tryd.ntmps86
  go_wp2_with (go_at_call 108; refine Calls.mono HLi.out ?_; rintro e w' ⟨rfl, rfl⟩)
  go_ret
  exact ⟨rfl, rfl⟩
theorem lnodes_ok (h : LkAt w D p N Ls) : Calls Tryd.prog 113 #[lkP p] w fun e w' => e = .returned (.int .i64 N) ∧ w = w' := by
  obtain ⟨gF, gL, cF, cL, F, h, h2⟩ := h
  have HN := Lib.hid (lnone_ok h)
  have hb := h.box
  clear h h2
  have hb_0 := cell_of_row _ _ 0 _ _ _ hb; have hb_1 := cell_of_row _ _ 1 _ _ _ hb; have hb_2 := cell_of_row _ _ 2 _ _ _ hb; have hb_f := (fun j => frozen_of_row _ _ j _ _ hb); have hb_l := lt_of_block hb; simp at hb_0 hb_1 hb_2; have H_hb := Lib.hid hb; clear hb
  go_enter Tryd.func113, Tryd.ntmps113
  go_wp2_with (go_at_call 122; refine Calls.mono HN.out ?_; rintro e w' ⟨rfl, rfl⟩)
  go_ret
  exact ⟨rfl, rfl⟩
end
end Go.Proofs.YtlalpenfgkfkpaaDoor

/- links: all. Conditions: the field lies in memory. -/
namespace Go.Proofs.YtlalpenfgkfkpaaDoor
open Go.RowKit
set_option maxRecDepth 100000
theorem info_n32 : (Tryd.prog.info? 29).map (fun i => (i.zero, i.size, i.bytes)) = some (some (.int .u32 0), 1, 4) := by kernel_rfl
def nums (xs : List Nat) : List Value := xs.map (fun x : Nat => (.int .u32 x : Value))
theorem nums_append (a b : List Nat) : nums (a ++ b) = nums a ++ nums b := by simp [nums]
theorem nums_length (a : List Nat) : (nums a).length = a.length := by simp [nums]
abbrev NumRow (w : World) (a : Option Addr) (c : Nat) (xs : List Nat) : Prop := w.ownsRow 0 29 1 (.slice a xs.length c) xs.length (nums xs)
def FreshV (w : World) (v : Value) : Prop := ∀ g, v.ownBlock = some g → w.heap.size ≤ g
theorem nums_one (xs : List Nat) : ∀ u ∈ nums xs, u.oneCell' = true := by
  intro u hu
  unfold nums at hu
  obtain ⟨x, _, rfl⟩ := List.mem_map.1 hu
  rfl
theorem Ch_at {F : List Nd} : ∀ {l : List Nat} {a : Nat}, Ch F a l → ∀ (i x y : Nat), (a :: l)[i]? = some x → l[i]? = some y → (nd F x).nx = y
  | [], _, _, i, x, y, _, h => by simp at h
  | z :: l, a, ⟨h1, h2, h3⟩, 0, x, y, hx, hy => by
    simp at hx hy
    rw [← hx, h1, hy]
  | z :: l, a, ⟨h1, h2, h3⟩, i + 1, x, y, hx, hy => Ch_at h3 i x y (by simpa using hx) (by simpa using hy)
theorem Ring.at_ {F : List Nd} {r : Nat} {l : List Nat} (h : Ring F r l) {i x y : Nat} (hx : (r :: l)[i]? = some x) (hy : (l ++ [r])[i]? = some y) : (nd F x).nx = y := by
  refine Ch_at h i x y ?_ hy
  rw [← List.cons_append, List.getElem?_append_left (by exact (List.getElem?_eq_some_iff.1 hx).1)]
  exact hx
section
variable {w w' : World} {p N : Nat} {Ls : List (List Nat)} {D : Nat → Prop}
set_option maxHeartbeats 1000000 in
theorem lall_ok (h : LkAt w D p N Ls) {k : Nat} {l : List Nat} (hl : Ls[k]? = some l) :
    Calls Tryd.prog 111 #[lkP p, .int .i64 k] w fun e w' => ∃ a c, e = .returned (.slice a l.length c) ∧ NumRow w' a c l ∧ FreshV w (.slice a l.length c) ∧ Pure w w' := by
  obtain ⟨gF, gL, cF, cL, F, h, _⟩ := h
  have hk : k < Ls.length := (List.getElem?_eq_some_iff.1 hl).1
  have hk4 : k ≤ 4096 := by have := h.hm; omega
  have HLi := Lib.hid (llist_ok h hk)
  have HRi := Lib.hid (ring_ok h hk4)
  have HNX : Hid (∀ {i x y : Nat}, ((N + k) :: l)[i]? = some x → (l ++ [N + k])[i]? = some y → (nd F x).nx = y) := Lib.hid (fun hx hy => (h.ok.ring k l hl).at_ hx hy)
  have HLT : Hid (∀ (i x : Nat), (l ++ [N + k])[i]? = some x → x < F.length ∧ (i < l.length → x < N ∧ l[i]? = some x) ∧ (l.length ≤ i → x = N + k)) := Lib.hid (fun i x hx => by
    have hm := List.mem_of_getElem? hx
    refine ⟨(h.ok.mem_lt hl x hm).1, fun hi => ?_, fun hi => ?_⟩
    · rw [List.getElem?_append_left hi] at hx
      exact ⟨(h.ok.own k l hl x (List.mem_of_getElem? hx)).1, hx⟩
    · rw [List.getElem?_append_right hi] at hx
      rw [List.getElem?_singleton] at hx
      split at hx
      · injection hx with hx; exact hx.symm
      · cases hx)
  have hll : l.length ≤ N := h.ok.short hl
  have hnm := h.nm
  have hFb : F.length ≤ 4198400 := by rw [h.ok.len]; have := h.hm; omega
  have hNF : N + k < F.length := h.ok.hd_lt hk
  obtain ⟨FL, hFL⟩ : ∃ FL, F.length = FL := ⟨_, rfl⟩
  rw [hFL] at hFb hNF HLT
  obtain ⟨c0, c1, c2⟩ := h.at_ (i := N + k) (by rw [hFL]; exact hNF)
  obtain ⟨y0, hy0⟩ : ∃ y, (l ++ [N + k])[0]? = some y := ⟨_, List.getElem?_eq_getElem (by simp)⟩
  rw [HNX.out (i := 0) rfl hy0] at c1
  have hb := h.box
  rw [hFL] at hb
  have HB := Lib.hid hb
  have HM := Lib.hid h; have HFLe := Lib.hid hFL
  obtain ⟨r, hr⟩ : ∃ r, N + k = r := ⟨_, rfl⟩
  rw [hr] at HRi HNX HLT hNF c1 hy0
  have HY0 := Lib.hid hy0
  have hNr : N ≤ r := by omega
  have dr : decide (r < FL) = true := decide_eq_true hNF
  have HY0L := HLT.out _ _ hy0
  have hy0b : y0 < FL := HY0L.1
  clear h hl hFL hr c0 c2 hy0 HY0L
  have hb_0 := cell_of_row _ _ 0 _ _ _ hb; have hb_1 := cell_of_row _ _ 1 _ _ _ hb; have hb_2 := cell_of_row _ _ 2 _ _ _ hb; have hb_f := (fun j => frozen_of_row _ _ j _ _ hb); have hb_l := lt_of_block hb; simp at hb_0 hb_1 hb_2; have H_hb := Lib.hid hb; clear hb
  obtain ⟨i0, hi, iz0, iz1, iz2⟩ := info_parts info_n32
  go_enter Tryd.func111, Tryd.ntmps111
  go_upto_block 0 with (first
    | (go_at_call 108; refine Calls.mono HLi.out ?_; rintro e w' ⟨rfl, rfl⟩)
    | (go_at_call 93; refine Calls.mono HRi.out ?_; rintro e w' ⟨rfl, rfl⟩))
  go_wp2_with fail
  have t1 := HM.out
  clear t1
  clear hb_0 hb_1 hb_2 hb_f hb_l
  clear H_hb
  go_loopw [6, 7] (fun v6 v7 wr => ∃ (i : Nat) (a : Option Addr) (c : Nat) (y : Nat), v7 = .int .u32 y ∧ i ≤ l.length ∧ (l ++ [r])[i]? = some y ∧ v6 = .slice a i c ∧ NumRow wr a c (l.take i) ∧ FreshV w (.slice a i c) ∧ Pure w wr) (fun v6 _ _ => l.length - (match v6 with | .slice _ n _ => n | _ => 0))
  case atStart => exact ⟨0, none, 0, y0, rfl, Nat.zero_le _, HY0.out, rfl, World.ownsRow_nil _ _ _ _, (fun g hg => by cases hg), Mod.refl _ _⟩
  case round =>
    obtain ⟨i, a, c, y, rfl, hi9, hy, rfl, hrow, hfr, hpu⟩ := hrel
    obtain ⟨hy1, hy2, hy3⟩ := HLT.out _ _ hy
    have HY := Lib.hid hy
    have HMr := Lib.hid (HM.out.pure hpu)
    have hb := hpu.heap (fun h => h) HB.out
    have hcl := (HMr.out.at_ (i := y) (by rw [HFLe.out]; exact hy1))
    obtain ⟨q0, q1, q2⟩ := hcl
    have HRow := Lib.hid hrow; have HFR := Lib.hid hfr; have HPU := Lib.hid hpu
    clear hy hrow hfr hpu q0 q2
    by_cases hlt : i < l.length
    · obtain ⟨hy4, hy5⟩ := hy2 hlt
      have hne : ((y : Int) == (r : Int)) = false := by simp; omega
      have hne2 : ((y : Int) != (r : Int)) = true := by simp; omega
      obtain ⟨y', hy'⟩ : ∃ y', (l ++ [r])[i + 1]? = some y' := ⟨_, List.getElem?_eq_getElem (by simp; omega)⟩
      have hnx : (nd F y).nx = y' := HNX.out (i := i + 1) (by simpa using hy5) hy'
      rw [hnx] at q1
      have hy'b := (HLT.out _ _ hy').1
      have dy : decide (y < FL) = true := decide_eq_true hy1
      have htk : l.take (i + 1) = l.take i ++ [y] := by rw [List.take_add_one, hy5]; rfl
      have htl : (l.take i).length = i := by rw [List.length_take]; omega
      have HTK := Lib.hid htk; have HTL := Lib.hid htl; have HY' := Lib.hid hy'
      have hrr : wr.ownsRow 0 29 1 (.slice a i c) i (nums (l.take i)) := by have := HRow.out; unfold NumRow at this; rw [htl] at this; exact this
      have HRR := Lib.hid hrr
      have q1b := q1
      clear htk htl hy' hnx hrr hy2 hy3 hy5 q1
      have hb_0 := cell_of_row _ _ 0 _ _ _ hb; have hb_1 := cell_of_row _ _ 1 _ _ _ hb; have hb_2 := cell_of_row _ _ 2 _ _ _ hb; have hb_f := (fun j => frozen_of_row _ _ j _ _ hb); have hb_l := lt_of_block hb; simp at hb_0 hb_1 hb_2; have H_hb := Lib.hid hb; clear hb
      go_upto_region 7 with (at_builtin; refine wpList_append_read _ rfl _ _ 74 rfl 29 i0 _ 1 4 Tryd.underlying74 hi iz0 iz1 iz2 rfl (by decide) (.slice a i c) i _ rfl (owns_mod HRR.out ((Mod.refl (fun _ => False) wr).alloc _) (fun _ _ h => h)) _ [.int .u32 (y : Nat)] 1 rfl (ReadAt.of_block 1 1 1 (heap_new rfl) (by rfl) (by simp [Value.oneCell'])) rfl (by unfold maxLen; omega) (by omega) ?_; intro a7 c7 w5 hr7 hg7 hb7)
      have hpw : Pure w w5 := (HPU.out.alloc _).then (Mod.of_grown (S := fun k' => (Value.slice a i c).ownBlock = some k') hg7 (fun k e _ => e)) (fun k hk e => by have := HFR.out k e; omega)
      have hfw : FreshV w (.slice a7 (i + 1) c7) := fun k hk => by
        rcases hb7 with e | e
        · exact HFR.out k (e ▸ hk)
        · rw [e] at hk; cases hk; exact (HPU.out.alloc _).size
      have HPW := Lib.hid hpw; have HFW := Lib.hid hfw; have HR7 := Lib.hid hr7
      have hb5 := hpw.heap (fun h => h) HB.out
      obtain ⟨z0, z1, z2⟩ := ((HM.out.pure hpw).at_ (i := y) (by rw [HFLe.out]; exact hy1))
      rw [HNX.out (i := i + 1) (by have := (HLT.out _ _ HY.out).2.1 hlt; simpa using this.2) HY'.out] at z1
      clear hb_0 hb_1 hb_2 hb_f hb_l
      clear H_hb hpw hfw hr7 hg7 hb7 q1b z0 z2 hne hne2
      have hb5_0 := cell_of_row _ _ 0 _ _ _ hb5; have hb5_1 := cell_of_row _ _ 1 _ _ _ hb5; have hb5_2 := cell_of_row _ _ 2 _ _ _ hb5; have hb5_f := (fun j => frozen_of_row _ _ j _ _ hb5); have hb5_l := lt_of_block hb5; simp at hb5_0 hb5_1 hb5_2; have H_hb5 := Lib.hid hb5; clear hb5
      go_wp2
      go_roundw
      case rel => exact ⟨i + 1, a7, c7, y', rfl, hlt, HY'.out, rfl, by unfold NumRow; rw [HTK.out, List.length_append, HTL.out, nums_append]; exact HR7.out, HFW.out, HPW.out⟩
      case measure => simp; omega
    · have hri : y = r := hy3 (by omega)
      have hil : i = l.length := by omega
      subst hri hil
      have HTA : Hid (l.take l.length = l) := Lib.hid (by rw [List.take_length])
      clear hy2 hy3 hlt hi9
      go_wp2
      go_ret
      refine ⟨a, c, rfl, ?_, HFR.out, HPU.out⟩
      have := HRow.out
      rw [HTA.out] at this
      exact this
end
end Go.Proofs.YtlalpenfgkfkpaaDoor
