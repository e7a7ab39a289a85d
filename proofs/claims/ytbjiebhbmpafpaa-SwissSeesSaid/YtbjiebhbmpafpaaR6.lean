/- The references of layers 2 and 6: Part, Tag, Valid, All; probe.Valid for any number. -/
import Derived.Test.YtbjiebhbmpafpaaProbe
import Derived.Test.YtbjiebhbmpafpaaBase
namespace Go.Proofs.Ytbjiebhbmpafpaa
open Go.RowKit Go.Shelf
set_option maxRecDepth 100000

/-! ### Part, Tag -/
theorem right_ok (s : Nat) (W : World) (hs : s < 18446744073709551616) : Calls Try.prog 128 #[.int .u64 s, .int .i64 7] W fun e w' => e = .returned (.int .u64 (s / 128 : Nat)) ∧ W = w' := by
  go_enter Try.func128, Try.ntmps128
  go_wp2
  go_loopw [0, 5] (fun v k wr => ∃ i, k = .int .i64 (i : Nat) ∧ i ≤ 7 ∧ v = .int .u64 (s / 2 ^ i : Nat) ∧ wr = W) (fun _ k _ => 7 - (intOf k).toNat)
  case atStart => exact ⟨0, rfl, by omega, by simp, rfl⟩
  case round =>
    obtain ⟨i, rfl, hi, rfl, rfl⟩ := hrel
    by_cases hlt : i < 7
    · have hlt' : (i : Int) < 7 := by omega
      obtain ⟨q, hq⟩ : ∃ q, s / 2 ^ i = q := ⟨_, rfl⟩
      have hql : q ≤ s := by rw [← hq]; exact Nat.div_le_self _ _
      have hq2 : s / 2 ^ (i + 1) = q / 2 := by rw [Nat.pow_succ, ← Nat.div_div_eq_div_mul, hq]
      have e1 : ((q : Int)).tdiv 2 = ((q / 2 : Nat) : Int) := by rw [Int.tdiv_eq_ediv_of_nonneg (by omega)]; rfl
      have e2 : ((q : Int)) / 2 = ((q / 2 : Nat) : Int) := rfl
      have e3 : IntKind.u64.wrap ((q / 2 : Nat) : Int) = ((q / 2 : Nat) : Int) := u64_wrap _ (by omega)
      have HQ := Lib.hid hq2
      rw [hq]
      clear hq hq2
      generalize q / 2 = r at *
      go_wp2
      go_roundw
      case rel => exact ⟨i + 1, by go_num, hlt, by rw [HQ.out], trivial⟩
      case measure => simp [intOf]; omega
    · have e : i = 7 := by omega
      subst e
      generalize hr : s / 2 ^ 7 = r
      go_wp2
      go_ret
      refine ⟨?_, rfl⟩
      rw [← hr]
      rfl
theorem rPart_ok (s : Nat) (W : World) (hs : s < 18446744073709551616) : Calls Try.prog 100 #[.int .u64 s] W fun e w' => e = .returned (.int .u64 (s / 128 : Nat)) ∧ W = w' := by
  have HR := Lib.hid (fun W => right_ok s W hs)
  obtain ⟨r, hr⟩ : ∃ r, s / 128 = r := ⟨_, rfl⟩
  rw [hr] at HR ⊢
  clear hr
  go_enter Try.func100, Try.ntmps100
  go_wp2_with (go_at_call 128; refine Calls.mono (HR.out _) ?_; rintro e w' ⟨rfl, rfl⟩)
  go_ret
  exact ⟨rfl, rfl⟩
theorem rTag_ok (s : Nat) (W : World) (hs : s < 18446744073709551616) : Calls Try.prog 102 #[.int .u64 s] W fun e w' => e = .returned (.int .u8 (s % 128 : Nat)) ∧ W = w' := by
  have e1 : (s : Int).tmod 128 = ((s % 128 : Nat) : Int) := by rw [Int.tmod_eq_emod_of_nonneg (by omega)]; rfl
  have e2 : (s : Int) % 128 = ((s % 128 : Nat) : Int) := rfl
  have e3 : IntKind.u8.wrap ((s % 128 : Nat) : Int) = ((s % 128 : Nat) : Int) := u8_wrap _ (by omega)
  have e4 : ((s % 128 : Nat) : Int) % 256 = ((s % 128 : Nat) : Int) := by omega
  have hl : s % 128 < 128 := Nat.mod_lt _ (by decide)
  generalize s % 128 = r at *
  go_enter Try.func102, Try.ntmps102
  go_wp2
  go_ret
  exact ⟨by simp [e1, e2, e3, e4], rfl⟩

/-! ### Valid -/
def validM (z : Int) : Bool := (List.range 21).any (fun k => z == ((2 ^ k : Nat) : Int))
theorem validM_pow {g : Nat} (h : Pow g) : validM g = true := by
  obtain ⟨k, hk, rfl⟩ := h
  exact List.any_eq_true.2 ⟨k, List.mem_range.2 (by omega), by simp⟩
theorem validM_iff (z : Int) : validM z = true ↔ ∃ g, Pow g ∧ z = (g : Int) := by
  constructor
  · intro h
    obtain ⟨k, hk, e⟩ := List.any_eq_true.1 h
    exact ⟨2 ^ k, ⟨k, by have := List.mem_range.1 hk; omega, rfl⟩, by simpa using e⟩
  · rintro ⟨g, hg, rfl⟩
    exact validM_pow hg
theorem rValid_ok (z : Int) (W : World) : Calls Try.prog 93 #[.int .i64 z] W fun e w' => e = .returned (.bool (validM z)) ∧ W = w' := by
  obtain ⟨res, hres⟩ : ∃ res, validM z = res := ⟨_, rfl⟩
  rw [hres]
  go_enter Try.func93, Try.ntmps93
  go_wp2
  go_loopw [3] (fun v wr => ∃ j, v = .int .i64 (2 ^ j : Nat) ∧ j ≤ 21 ∧ (∀ k, k < j → z ≠ ((2 ^ k : Nat) : Int)) ∧ wr = W) (fun v _ => 2097152 - (intOf v).toNat)
  case atStart => exact ⟨0, rfl, by omega, fun k hk => by omega, rfl⟩
  case round =>
    obtain ⟨j, rfl, hj, hn, rfl⟩ := hrel
    obtain ⟨n, hnn⟩ : ∃ n, 2 ^ j = n := ⟨_, rfl⟩
    have hnx : 2 ^ (j + 1) = 2 * n := by rw [Nat.pow_succ, hnn]; omega
    have HN := Lib.hid hn
    have HNX := Lib.hid hnx; have HNN := Lib.hid hnn
    rw [hnn]
    by_cases hlt : j ≤ 20
    · have hn1 : n ≤ 1048576 := by rw [← hnn]; exact Nat.pow_le_pow_right (n := 2) (by decide) hlt
      have hn0 : 0 < n := by rw [← hnn]; exact Nat.pow_pos (by decide)
      clear hn hnx hnn
      have hlt' : (n : Int) ≤ 1048576 := by omega
      have hn0' : (1 : Int) ≤ n := by omega
      have w2 : IntKind.i64.wrap (2 * (n : Int)) = 2 * (n : Int) := IntWalk.i64_in _ (by omega)
      by_cases hz : z = (n : Int)
      · subst hz
        go_wp2
        go_ret
        refine ⟨?_, rfl⟩
        rw [← hres, ← HNN.out, validM_pow ⟨j, hlt, rfl⟩]
        rfl
      · have hz' : ((n : Int) == z) = false := by simp; omega
        have hz2 : (n : Int) ≠ z := by omega
        go_wp2
        go_roundw
        case rel => exact ⟨j + 1, by rw [HNX.out]; rfl, by omega, fun k hk => by
          by_cases e : k = j
          · subst e; rw [HNN.out]; exact hz
          · exact HN.out k (by omega), trivial⟩
        case measure => simp [intOf]; omega
    · have e : j = 21 := by omega
      have hn1 : n = 2097152 := by rw [← hnn, e]
      subst hn1
      clear hnx
      go_wp2
      go_ret
      refine ⟨?_, rfl⟩
      rw [← hres]
      have : validM z = false := by
        cases h : validM z with
        | false => rfl
        | true =>
          obtain ⟨k, hk, e2⟩ := List.any_eq_true.1 h
          exact absurd (by simpa using e2) (HN.out k (by have := List.mem_range.1 hk; omega))
      rw [this]
      rfl

/-! ### All -/
theorem tri_succ (i : Nat) : (i + 1) * (i + 1 + 1) / 2 = i * (i + 1) / 2 + (i + 1) := by
  have e : (i + 1) * (i + 1 + 1) = i * (i + 1) + 2 * (i + 1) := by
    rw [Nat.mul_comm (i + 1) (i + 1 + 1), Nat.add_mul (i + 1) 1 (i + 1), Nat.add_mul i 1 (i + 1)]
    omega
  rw [e, Nat.add_mul_div_left _ _ (by decide)]
theorem atM_step (part g i : Nat) : (atM part g (i - 1) + i) % g = atM part g i := by
  unfold atM
  rw [Nat.mod_add_mod]
  cases i with
  | zero => rfl
  | succ i =>
    rw [Nat.add_sub_cancel, tri_succ]
    congr 1
    omega
def i64v (l : List Nat) : List Value := l.map (fun (x : Nat) => Value.int .i64 ((x : Nat) : Int))
theorem info_i64 : (Try.prog.info? 3).map (fun i => (i.zero, i.size, i.bytes)) = some (some (.int .i64 0), 1, 8) := by kernel_rfl
theorem rAll_ok (part g : Nat) (hg : Pow g) (hpart : part < 18446744073709551616) (W : World) : Calls Try.prog 99 #[.int .u64 part, .int .i64 g] W fun e w' => ∃ a c, e = .returned (.slice a g c) ∧ w'.ownsRow 0 3 1 (.slice a g c) g (i64v (probes part g)) ∧ Pure W w' ∧ ∀ k, (Value.slice a g c).ownBlock = some k → W.heap.size ≤ k := by
  have hg0 := hg.pos
  have hg1 := hg.le
  have HV := Lib.hid (fun W => (validM_pow hg ▸ rValid_ok (g : Int) W))
  have wg : IntKind.u64.wrap (g : Int) = g := u64_wrap g (by omega)
  have e1 : (part : Int).tmod (g : Int) = ((part % g : Nat) : Int) := by rw [Int.tmod_eq_emod_of_nonneg (by omega)]; rfl
  have e2 : (part : Int) % (g : Int) = ((part % g : Nat) : Int) := rfl
  have hpg : part % g < g := Nat.mod_lt _ hg0
  have w0 : IntKind.i64.wrap ((part % g : Nat) : Int) = ((part % g : Nat) : Int) := IntWalk.i64_in _ (by omega)
  have hat0 : part % g = atM part g (0 - 1) := by unfold atM; simp
  have w0' : wrap64 ((part % g : Nat) : Int) = ((part % g : Nat) : Int) := IntWalk.wrap64_in _ (by omega)
  have hgz : ((g : Int) == 0) = false := by simp; omega
  obtain ⟨q, hq⟩ : ∃ q, part % g = q := ⟨_, rfl⟩
  have HQ0 := Lib.hid hq
  rw [hq] at hat0
  go_enter Try.func99, Try.ntmps99
  go_upto_region 6 with (go_at_call 93; refine Calls.mono (HV.out _) ?_; rintro e w' ⟨rfl, rfl⟩)
  clear e1 e2 w0 w0' hq
  obtain ⟨i0, hi, iz0, iz1, iz2⟩ := info_parts info_i64
  go_loopw [5, 6, 7] (fun v5 v6 v7 wr => ∃ i a c, v7 = .int .i64 (i : Nat) ∧ i ≤ g ∧ v5 = .int .i64 (atM part g (i - 1) : Nat) ∧ v6 = .slice a i c ∧ wr.ownsRow 0 3 1 (.slice a i c) i (i64v ((probes part g).take i)) ∧ Pure W wr ∧ ∀ k, (Value.slice a i c).ownBlock = some k → W.heap.size ≤ k) (fun _ _ v7 _ => g - (intOf v7).toNat)
  case atStart => exact ⟨0, none, 0, rfl, Nat.zero_le _, by first | rfl | (rw [← hat0, ← HQ0.out, IntWalk.wrap64_in _ (by omega)]) | (rw [← hat0, ← HQ0.out]), rfl, World.ownsRow_nil _ _ _ _, Mod.refl _ _, fun k hk => by cases hk⟩
  case round =>
    obtain ⟨i, a, c, rfl, hil, rfl, rfl, hrow, hpu, hfr⟩ := hrel
    have HR := Lib.hid hrow; have HP := Lib.hid hpu; have HF := Lib.hid hfr
    clear hrow hpu hfr
    by_cases hlt : i < g
    · have hlt' : (i : Int) < (g : Int) := by omega
      have hst := atM_step part g i
      have hx : atM part g (i - 1) < g := Nat.mod_lt _ hg0
      have hz : atM part g i < g := Nat.mod_lt _ hg0
      have htk : i64v ((probes part g).take (i + 1)) = i64v ((probes part g).take i) ++ [.int .i64 (atM part g i : Nat)] := by
        unfold i64v
        rw [List.take_add_one]
        have : (probes part g)[i]? = some (atM part g i) := by
          unfold probes
          rw [List.getElem?_map, List.getElem?_range hlt]
          rfl
        rw [this]
        simp
      generalize atM part g (i - 1) = x at *
      have hai : atM part g (i + 1 - 1) = atM part g i := by rw [Nat.add_sub_cancel]
      have HTK := Lib.hid htk; have HAI := Lib.hid hai
      clear htk hai hat0
      have e1 : ((x : Int) + (i : Int)).tmod (g : Int) = ((atM part g i : Nat) : Int) := by rw [Int.tmod_eq_emod_of_nonneg (by omega), ← hst]; rfl
      have e2 : ((x : Int) + (i : Int)) % (g : Int) = ((atM part g i : Nat) : Int) := by rw [← hst]; rfl
      have w1 : IntKind.i64.wrap ((x : Int) + (i : Int)) = (x : Int) + (i : Int) := IntWalk.i64_in _ (by omega)
      clear hst
      generalize atM part g i = z at *
      go_wp2_with (at_builtin; refine wpList_append_read _ rfl _ _ 38 rfl 3 i0 _ 1 8 Try.underlying38 hi iz0 iz1 iz2 rfl (by decide) (.slice a i c) i _ rfl (owns_mod HR.out ((Mod.refl (fun _ => False) wr).alloc _) (fun _ _ h => h)) _ [.int .i64 (z : Nat)] 1 rfl (ReadAt.of_block 1 1 1 (heap_new rfl) (by rfl) (by simp [Value.oneCell'])) rfl (by unfold maxLen; omega) (by omega) ?_; intro a7 c7 w5 hr7 hg7 hb7)
      have hpw : Pure W w5 := (HP.out.alloc _).then (Mod.of_grown (S := fun k' => (Value.slice a i c).ownBlock = some k') hg7 (fun k e _ => e)) (fun k hk e => by have := HF.out k e; omega)
      have hfw : ∀ k, (Value.slice a7 (i + 1) c7).ownBlock = some k → W.heap.size ≤ k := fun k hk => by
        rcases hb7 with e | e
        · exact HF.out k (e ▸ hk)
        · rw [e] at hk; cases hk; exact (HP.out.alloc _).size
      have HPW := Lib.hid hpw; have HFW := Lib.hid hfw; have HR7 := Lib.hid hr7
      clear hpw hfw hr7 hg7 hb7
      go_roundw
      case rel => exact ⟨i + 1, a7, c7, by go_num, hlt, by rw [HAI.out], rfl, by rw [HTK.out]; exact HR7.out, HPW.out, HFW.out⟩
      case measure => simp [intOf]; omega
    · have hlt' : (g : Int) ≤ (i : Int) := by omega
      have e : g = i := by omega
      have htk : (probes part g).take i = probes part g := by rw [List.take_of_length_le]; unfold probes; simp; omega
      rw [htk] at HR
      subst e
      clear hlt' hlt hil
      go_wp2
      go_ret
      exact ⟨a, c, rfl, HR.out, HP.out, HF.out⟩
end Go.Proofs.Ytbjiebhbmpafpaa
