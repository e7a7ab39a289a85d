/- hash.fold, Mix, Sum. -/
import Derived.Test.YtpafcocciggfpaaGreatProbe
import Derived.Test.YtpafcocciggfpaaGreatField
namespace Go.Proofs.YtpafcocciggfpaaGreat
open Go.RowKit Go.Shelf
set_option maxRecDepth 100000

/-- One byte more. -/
def foldS (h : Nat) (b : UInt8) : Nat := (h ^^^ b.toNat) * 1099511628211 % 18446744073709551616
def foldM (h : Nat) (l : List UInt8) : Nat := l.foldl foldS h
theorem foldl_step {α β : Type} (f : β → α → β) (h : β) (l : List α) {i : Nat} {b : α} (hb : l[i]? = some b) : (l.take (i + 1)).foldl f h = f ((l.take i).foldl f h) b := by
  rw [List.take_add_one, hb, List.foldl_append]
  rfl
theorem foldM_step (h : Nat) (l : List UInt8) {i : Nat} {b : UInt8} (hb : l[i]? = some b) : foldM h (l.take (i + 1)) = foldS (foldM h (l.take i)) b := by
  unfold foldM
  exact foldl_step foldS h l hb
theorem foldS_lt (h : Nat) (b : UInt8) : foldS h b < 18446744073709551616 := Nat.mod_lt _ (by decide)
theorem foldM_lt {h : Nat} (hh : h < 18446744073709551616) : ∀ l : List UInt8, foldM h l < 18446744073709551616
  | [] => hh
  | b :: l => foldM_lt (foldS_lt h b) l
def mix5 (w : Nat) : Nat := 5 * (w ^^^ (w / 536870912)) % 18446744073709551616
def mixM (w : Nat) : Nat := mix5 w ^^^ (mix5 w / 4294967296)
theorem mix5_lt (w : Nat) : mix5 w < 18446744073709551616 := Nat.mod_lt _ (by decide)
def sumS (seed : Nat) (same : Bool) (key : ByteArray) : Nat := mixM (foldM seed (if same then [] else key.data.toList))
set_option maxHeartbeats 1000000 in
theorem fold_ok (h : Nat) (hh : h < 18446744073709551616) (key : ByteArray) (hk : key.size ≤ 140737488355328) (w : World) : Calls Tryz.prog 156 #[.int .u64 h, .string key] w fun e w' => e = .returned (.int .u64 (foldM h key.data.toList : Nat)) ∧ w = w' := by
  obtain ⟨n, hn⟩ : ∃ n, key.size = n := ⟨_, rfl⟩
  have HN := Lib.hid hn
  have hn2 : n ≤ 140737488355328 := by omega
  obtain ⟨res, hres⟩ : ∃ res, foldM h key.data.toList = res := ⟨_, rfl⟩
  rw [hres]
  clear hk
  have wn : IntKind.i64.wrap (n : Int) = n := IntWalk.i64_in _ (by omega)
  go_enter Tryz.func156, Tryz.ntmps156
  go_upto_region 2 with fail
  go_loopw [0, 8] (fun v0 v8 wr => ∃ i, v0 = .int .u64 (foldM h (key.data.toList.take i) : Nat) ∧ v8 = .int .i64 (i : Nat) ∧ i ≤ n ∧ wr = w) (fun _ v8 _ => n - (intOf v8).toNat)
  case atStart => exact ⟨0, by rw [List.take_zero, foldM, List.foldl_nil], rfl, Nat.zero_le _, rfl⟩
  case round =>
    obtain ⟨i, rfl, rfl, hi, rfl⟩ := hrel
    have hlen : key.data.toList.length = n := by rw [← hn]; rfl
    by_cases hlt : i < n
    · have hlt' : (i : Int) < (n : Int) := by omega
      obtain ⟨b, hb⟩ : ∃ b, key.data.toList[i]? = some b := ⟨_, List.getElem?_eq_getElem (by omega)⟩
      have htk := foldM_step h key.data.toList hb
      have hq := foldM_lt hh (key.data.toList.take i)
      have hq2 := foldS_lt (foldM h (key.data.toList.take i)) b
      have HTK := Lib.hid htk
      clear htk
      generalize foldM h (key.data.toList.take i) = q at *
      have wi : IntKind.i64.wrap ((i : Int) + 1) = (i : Int) + 1 := IntWalk.i64_in _ (by omega)
      have hki : i < key.size := by omega
      have hkb : (key[i]'hki).toNat = b.toNat := by
        have := List.getElem?_eq_some_iff.1 hb
        obtain ⟨h1, h2⟩ := this
        rw [← h2]
        exact congrArg UInt8.toNat rfl
      have hb256 : b.toNat < 256 := UInt8.toNat_lt b
      have e1 : IntKind.u64.wrap (b.toNat : Int) = (b.toNat : Int) := u64_wrap _ (by omega)
      have e2 : bits .xor .u64 (q : Int) (b.toNat : Int) = ((q ^^^ b.toNat : Nat) : Int) := bits_xor64 _ _ hq (by omega)
      have e3 : IntKind.u64.wrap (((q ^^^ b.toNat : Nat) : Int) * 1099511628211) = ((foldS q b : Nat) : Int) := by
        unfold foldS
        rw [← u64_mod]
        simp
      generalize foldS q b = r at *
      generalize q ^^^ b.toNat = xx at *
      clear hb
      generalize b.toNat = kb at *
      clear hh hq hq2
      go_upto_region 5 with fail
      go_wp2
      go_roundw
      case rel => exact ⟨i + 1, by rw [HTK.out], by go_num, hlt, trivial⟩
      case measure => simp [intOf]; omega
    · have hlt' : (n : Int) ≤ (i : Int) := by omega
      have htk : key.data.toList.take i = key.data.toList := List.take_of_length_le (by omega)
      rw [htk, hres]
      go_wp2
      go_ret
      exact ⟨rfl, rfl⟩
theorem Mix_ok (n : Nat) (hn : n < 18446744073709551616) (w : World) : Calls Tryz.prog 155 #[.int .u64 n] w fun e w' => e = .returned (.int .u64 (mixM n : Nat)) ∧ w = w' := by
  have h29 : n / 536870912 < 18446744073709551616 := Nat.lt_of_le_of_lt (Nat.div_le_self _ _) hn
  have e1 : bits .xor .u64 (n : Int) ((n : Int) / 536870912) = ((n ^^^ (n / 536870912) : Nat) : Int) := bits_xor64 _ _ hn h29
  have e2 : IntKind.u64.wrap (5 * ((n ^^^ (n / 536870912) : Nat) : Int)) = ((mix5 n : Nat) : Int) := by
    unfold mix5
    rw [← u64_mod]
    simp
  have h5 := mix5_lt n
  have h32 : mix5 n / 4294967296 < 18446744073709551616 := Nat.lt_of_le_of_lt (Nat.div_le_self _ _) h5
  have e3 : bits .xor .u64 ((mix5 n : Nat) : Int) (((mix5 n : Nat) : Int) / 4294967296) = ((mixM n : Nat) : Int) := bits_xor64 _ _ h5 h32
  generalize mixM n = r at *
  generalize mix5 n = q at *
  generalize n ^^^ (n / 536870912) = z at *
  have n0 : (0 : Int) ≤ n := by omega
  have q0 : (0 : Int) ≤ q := by omega
  go_enter Tryz.func155, Tryz.ntmps155
  go_wp2
  go_ret
  exact ⟨by simp [*], rfl⟩
end Go.Proofs.YtpafcocciggfpaaGreat
