/- word and control: each function on the lanes of its word. -/
import Derived.Test.YtpafcocciggfpaaGreatBits
import Derived.Test.YtpafcocciggfpaaGreatProg
import Derived.Handy
namespace Go.Proofs.YtpafcocciggfpaaGreat
open Go.RowKit
set_option maxRecDepth 100000

theorem u64_mod (n : Nat) : IntKind.u64.wrap (n : Int) = ((n % 18446744073709551616 : Nat) : Int) := by
  simp [IntKind.wrap, IntKind.signed, IntKind.bits]
theorem Repeat_ok (b r : Nat) (W : World) (hb : b < 256) (hr : 72340172838076673 * b = r) : Calls Tryz.prog 157 #[.int .u8 b] W fun e w' => e = .returned (.int .u64 r) ∧ W = w' := by
  subst hr
  have h0 : (0 : Int) ≤ b := by omega
  have h1 : (b : Int) ≤ 255 := by omega
  go_enter Tryz.func157, Tryz.ntmps157
  go_wp2
  go_ret
  exact ⟨by simp, rfl⟩
theorem gather_ok (z m : Nat) (W : World) (hz : z < 18446744073709551616) (hm : z / 128 * 72624976668147840 % 18446744073709551616 / 72057594037927936 % 256 = m) :
    Calls Tryz.prog 189 #[.int .u64 z] W fun e w' => e = .returned (.int .u8 m) ∧ W = w' := by
  have h0 : (0 : Int) ≤ z := by omega
  have h1 : (z : Int) ≤ 18446744073709551615 := by omega
  go_enter Tryz.func189, Tryz.ntmps189
  go_wp2
  go_ret
  refine ⟨?_, rfl⟩
  have e : IntKind.u64.wrap ((z : Int) / 128 * 72624976668147840) / 72057594037927936 % 256 = (m : Int) := by
    rw [show (z : Int) / 128 * 72624976668147840 = ((z / 128 * 72624976668147840 : Nat) : Int) by simp, u64_mod, ← hm]
    simp
  simp only [e]
  rfl
theorem Match_ok {l : List Nat} (h : Bytes8 l) (b : Nat) (W : World) (hb : b < 256) : Calls Tryz.prog 175 #[.int .u64 (word8 l), .int .u8 b] W fun e w' => e = .returned (.int .u8 (mask (l.map (· == b)))) ∧ W = w' := by
  have hl := h.lt
  have hs := match_small h b hb
  have em := match_word h b hb
  have hr : 72340172838076673 * b < 18446744073709551616 := by omega
  have hb0 : Bytes8 (l.map (fun c => if c = b then 128 else 0)) := h.map (fun c _ => by split <;> omega)
  have hg := gather_mask (p := l.map (· == b)) (by simp [h.1])
  have hc : l.map (fun c => if c = b then 128 else 0) = (l.map (· == b)).map (fun b => if b then 128 else 0) := by rw [List.map_map]; apply List.map_congr_left; intro c _; simp
  rw [← hc] at hg
  have hz := hb0.lt
  generalize word8 l = w at *
  generalize mask (l.map (· == b)) = m at *
  generalize word8 (l.map (fun c => if c = b then 128 else 0)) = z at *
  generalize hrb : 72340172838076673 * b = r at *
  have hx : w ^^^ r < 18446744073709551616 := Nat.xor_lt_two_pow (n := 64) hl hr
  have e1 := bits_xor64 w r hl hr
  generalize w ^^^ r = x at *
  have e2 : bits .and .u64 (x : Int) 9187201950435737471 = ((x &&& 9187201950435737471 : Nat) : Int) := bits_and64 x 9187201950435737471 hx (by omega)
  generalize x &&& 9187201950435737471 = y at *
  have ew : IntKind.u64.wrap ((y : Int) + 9187201950435737471) = ((y + 9187201950435737471 : Nat) : Int) := u64_wrap _ hs
  generalize y + 9187201950435737471 = u at *
  have e3 := bits_or64 u x hs hx
  have ho : u ||| x < 18446744073709551616 := Nat.or_lt_two_pow (n := 64) hs hx
  generalize u ||| x = v at *
  have e4 : bits .or .u64 (v : Int) 9187201950435737471 = ((v ||| 9187201950435737471 : Nat) : Int) := bits_or64 v 9187201950435737471 ho (by omega)
  have hv : v ||| 9187201950435737471 < 18446744073709551616 := Nat.or_lt_two_pow (n := 64) ho (by omega)
  generalize v ||| 9187201950435737471 = t at *
  have e5 : bits .xor .u64 (if IntKind.u64.signed = true then (-1 : Int) else IntKind.u64.max) (t : Int) = (z : Int) := by
    rw [not_u64, bits_xor64 _ _ (by omega) hv, em]
  go_enter Tryz.func175, Tryz.ntmps175
  go_wp2_with (first | (go_at_call 157; refine Calls.mono (Repeat_ok b r _ hb hrb) ?_; rintro e w' ⟨rfl, rfl⟩) | (go_at_call 189; go_must (refine Calls.mono (gather_ok z m _ hz hg) ?_); rintro e w' ⟨rfl, rfl⟩))
  go_ret
  exact ⟨rfl, rfl⟩
theorem High_ok {l : List Nat} (h : Bytes8 l) (W : World) : Calls Tryz.prog 188 #[.int .u64 (word8 l)] W fun e w' => e = .returned (.int .u8 (mask (l.map (fun c => decide (128 ≤ c))))) ∧ W = w' := by
  have hl := h.lt
  have hw := high_word h
  have hz : Bytes8 (l.map (fun c => if decide (128 ≤ c) then 128 else 0)) := h.map (fun c _ => by split <;> omega)
  have hg := gather_mask (p := l.map (fun c => decide (128 ≤ c))) (by simp [h.1])
  rw [← word8_map_bool (fun c => decide (128 ≤ c))] at hg
  have hz := hz.lt
  have e1 : bits .andNot .u64 (word8 l : Int) 9187201950435737471 = _ := bits_andNot64 (word8 l) 9187201950435737471 9259542123273814144 hl (by omega) rfl
  rw [hw] at e1
  generalize word8 l = w at *
  generalize mask (l.map (fun c => decide (128 ≤ c))) = m at *
  generalize word8 (l.map (fun c => if decide (128 ≤ c) then 128 else 0)) = z at *
  go_enter Tryz.func188, Tryz.ntmps188
  go_wp2_with (go_at_call 189; go_must (refine Calls.mono (gather_ok z m _ hz hg) ?_); rintro e w' ⟨rfl, rfl⟩)
  go_ret
  exact ⟨rfl, rfl⟩
theorem tz_table (s : ByteArray) (hs : s.size = 256) (h : ∀ k (hk : k < 256), wrap64 ((s[k]'(by omega)).toNat : Int) = lane1 k) (m : Nat) (hm : m < 256) (hms : m < s.size) : wrap64 ((s[m]'hms).toNat : Int) = lane1 m := h m hm
theorem Tz8_ok (m : Nat) (W : World) (hm : m < 256) : Calls Tryz.prog 184 #[.int .u8 m] W fun e w' => e = .returned (.int .i64 (lane1 m)) ∧ W = w' := by
  have h0 : (0 : Int) ≤ m := by omega
  have h1 : (m : Int) ≤ 255 := by omega
  have h2 : (m : Int) < 256 := by omega
  go_enter Tryz.func184, Tryz.ntmps184
  go_wp2
  go_ret
  exact ⟨congrArg (fun x => Ending.returned (.int .i64 x)) (tz_table _ (by decide) (by decide +kernel) m hm _), rfl⟩
theorem First_ok (m : Nat) (W : World) (hm : m < 256) : Calls Tryz.prog 163 #[.int .u8 m] W fun e w' => e = .returned (.int .i64 (lane1 m)) ∧ W = w' := by
  go_enter Tryz.func163, Tryz.ntmps163
  go_wp2_with (go_at_call 184; go_must (refine Calls.mono (Tz8_ok m _ hm) ?_); rintro e w' ⟨rfl, rfl⟩)
  go_ret
  exact ⟨rfl, rfl⟩
theorem pow_lane (j : Nat) (hj : j < 8) (b : Nat) (hb : b < 256) : b * 2 ^ (8 * j) < 18446744073709551616 := by
  have : 2 ^ (8 * j) ≤ 2 ^ 56 := Nat.pow_le_pow_right (by decide) (by omega)
  have : b * 2 ^ (8 * j) ≤ 255 * 2 ^ 56 := Nat.mul_le_mul (by omega) this
  omega
theorem With_ok {l : List Nat} (h : Bytes8 l) (j b : Nat) (W : World) (hj : j < 8) (hb : b < 256) : Calls Tryz.prog 174 #[.int .u64 (word8 l), .int .i64 j, .int .u8 b] W fun e w' => e = .returned (.tuple #[.int .u64 (word8 (l.set j b)), .int .i64 0]) ∧ w' = W.drew := by
  have hl := h.lt
  have hw := with_word h j b hj hb
  have h0 : (0 : Int) ≤ j := by omega
  have h1 : (j : Int) < 8 := by omega
  have h2 : ¬ ((8 : Int) ≤ j) := by omega
  have hb0 : (0 : Int) ≤ b := by omega
  have hb1 : (b : Int) ≤ 255 := by omega
  have k0 : (0 : Int) ≤ 8 * (j : Int) := by omega
  have k1 : 8 * (j : Int) ≤ 64 := by omega
  have k2 : wrap64 (8 * (j : Int)) = 8 * (j : Int) := IntWalk.wrap64_in _ (by omega)
  have s0 := pow_lane j hj 255 (by omega)
  have s1 := pow_lane j hj b hb
  have e1 : IntKind.u64.wrap (255 * 2 ^ (8 * j)) = ((255 * 2 ^ (8 * j) : Nat) : Int) := by rw [← u64_wrap _ s0]; simp
  have e2 : IntKind.u64.wrap ((b : Int) * 2 ^ (8 * j)) = ((b * 2 ^ (8 * j) : Nat) : Int) := by rw [← u64_wrap _ s1]; simp
  generalize b * 2 ^ (8 * j) = t at *
  generalize 255 * 2 ^ (8 * j) = s at *
  generalize word8 (l.set j b) = z at *
  generalize word8 l = w at *
  have e3 := bits_andNot64 w s _ hl s0 rfl
  have hx : w &&& (18446744073709551615 - s) < 18446744073709551616 := Nat.lt_of_le_of_lt Nat.and_le_left hl
  generalize w &&& (18446744073709551615 - s) = x at *
  have e4 := bits_or64 x t hx s1
  rw [hw] at e4
  go_enter Tryz.func174, Tryz.ntmps174
  go_wp2
  go_region
  go_wp2
  go_ret2
  exact ⟨rfl, rfl⟩

/-! ### control -/
/-- The lanes of a group: tags, empty ones and deleted ones. -/
def Group (l : List Nat) : Prop := l.length = 8 ∧ ∀ c ∈ l, c < 128 ∨ c = 128 ∨ c = 254
theorem Group.bytes {l : List Nat} (h : Group l) : Bytes8 l := ⟨h.1, fun c hc => by have := h.2 c hc; omega⟩
theorem Blank_ok (W : World) : Calls Tryz.prog 125 #[] W fun e w' => e = .returned (.int .u64 (word8 [128, 128, 128, 128, 128, 128, 128, 128] : Nat)) ∧ W = w' := by
  have hq := Repeat_ok 128 (word8 [128, 128, 128, 128, 128, 128, 128, 128]) W (by omega) (by rfl)
  generalize word8 [128, 128, 128, 128, 128, 128, 128, 128] = z at *
  go_enter Tryz.func125, Tryz.ntmps125
  go_wp2_with (go_at_call 157; go_must (refine Calls.mono hq ?_); rintro e w' ⟨rfl, rfl⟩)
  go_ret
  exact ⟨rfl, rfl⟩
theorem CMatch_ok {l : List Nat} (h : Bytes8 l) (b : Nat) (W : World) (hb : b < 128) : Calls Tryz.prog 171 #[.int .u64 (word8 l), .int .u8 b] W fun e w' => e = .returned (.int .u8 (mask (l.map (· == b)))) ∧ W = w' := by
  have h1 : ¬ ((127 : Int) < b) := by omega
  go_enter Tryz.func171, Tryz.ntmps171
  go_wp2_with (go_at_call 175; go_must (refine Calls.mono (Match_ok h b _ (by omega)) ?_); rintro e w' ⟨rfl, rfl⟩)
  go_ret
  exact ⟨rfl, rfl⟩
theorem Empties_ok {l : List Nat} (h : Bytes8 l) (W : World) : Calls Tryz.prog 137 #[.int .u64 (word8 l)] W fun e w' => e = .returned (.int .u8 (mask (l.map (· == 128)))) ∧ W = w' := by
  go_enter Tryz.func137, Tryz.ntmps137
  go_wp2_with (go_at_call 175; go_must (refine Calls.mono (Match_ok h 128 _ (by omega)) ?_); rintro e w' ⟨rfl, rfl⟩)
  go_ret
  exact ⟨rfl, rfl⟩
theorem Free_ok {l : List Nat} (h : Group l) (W : World) : Calls Tryz.prog 164 #[.int .u64 (word8 l)] W fun e w' => e = .returned (.int .u8 (mask (l.map (fun c => decide (128 ≤ c))))) ∧ W = w' := by
  have e1 := bits_or8 (mask (l.map (· == 128))) (mask (l.map (· == 254))) (mask_lt (by simp [h.1])) (mask_lt (by simp [h.1]))
  rw [mask_or] at e1
  have e2 : l.map (fun c => c == 128 || c == 254) = l.map (fun c => decide (128 ≤ c)) := List.map_congr_left (fun c hc => by have := h.2 c hc; rw [Bool.eq_iff_iff]; simp; omega)
  rw [e2] at e1
  go_enter Tryz.func164, Tryz.ntmps164
  go_wp2_with (first | (go_at_call 137; go_must (refine Calls.mono (Empties_ok h.bytes _) ?_); rintro e w' ⟨rfl, rfl⟩) | (go_at_call 175; go_must (refine Calls.mono (Match_ok h.bytes 254 _ (by omega)) ?_); rintro e w' ⟨rfl, rfl⟩))
  go_ret
  exact ⟨rfl, rfl⟩
theorem Full_ok {l : List Nat} (h : Bytes8 l) (W : World) : Calls Tryz.prog 173 #[.int .u64 (word8 l)] W fun e w' => e = .returned (.int .u8 (mask (l.map (fun c => decide (c < 128))))) ∧ W = w' := by
  have hm : mask (l.map (fun c => decide (128 ≤ c))) < 256 := mask_lt (by simp [h.1])
  have e0 := mask_not (p := l.map (fun c => decide (128 ≤ c))) (by simp [h.1])
  rw [List.map_map, show (not ∘ fun c => decide (128 ≤ c)) = (fun c : Nat => decide (c < 128)) by funext c; simp only [Function.comp]; rw [Bool.eq_iff_iff]; simp] at e0
  have e1 : bits .xor .u8 (if IntKind.u8.signed = true then (-1 : Int) else IntKind.u8.max) (mask (l.map (fun c => decide (128 ≤ c))) : Int) = (mask (l.map (fun c => decide (c < 128))) : Int) := by rw [not_u8, bits_xor8 _ _ (by omega) hm, e0]
  have hq := High_ok h W
  generalize mask (l.map (fun c => decide (128 ≤ c))) = m at *
  generalize mask (l.map (fun c => decide (c < 128))) = z at *
  go_enter Tryz.func173, Tryz.ntmps173
  go_wp2_with (go_at_call 188; go_must (refine Calls.mono hq ?_); rintro e w' ⟨rfl, rfl⟩)
  go_ret
  exact ⟨rfl, rfl⟩
theorem Valid_ok {l : List Nat} (h : Group l) (W : World) : Calls Tryz.prog 187 #[.int .u64 (word8 l)] W fun e w' => e = .returned (.bool true) ∧ W = w' := by
  have h1 := Free_ok h W
  have h2 := Full_ok h.bytes W
  have e1 := bits_or8 (mask (l.map (fun c => decide (128 ≤ c)))) (mask (l.map (fun c => decide (c < 128)))) (mask_lt (by simp [h.1])) (mask_lt (by simp [h.1]))
  rw [mask_or] at e1
  have e2 : mask (l.map (fun c => decide (128 ≤ c) || decide (c < 128))) = 255 := by
    have := mask_full (p := l.map (fun c => decide (128 ≤ c) || decide (c < 128))) (by simp [h.1])
    rw [show (l.map (fun c => decide (128 ≤ c) || decide (c < 128))).all id = true by simp [List.all_map]; intro c _; omega] at this
    exact of_decide_eq_true this
  rw [e2] at e1
  generalize mask (l.map (fun c => decide (128 ≤ c))) = m at *
  generalize mask (l.map (fun c => decide (c < 128))) = z at *
  go_enter Tryz.func187, Tryz.ntmps187
  go_wp2_with (first | (go_at_call 164; go_must (refine Calls.mono h1 ?_); rintro e w' ⟨rfl, rfl⟩) | (go_at_call 173; go_must (refine Calls.mono h2 ?_); rintro e w' ⟨rfl, rfl⟩))
  go_ret
  exact ⟨rfl, rfl⟩
theorem CCheck_ok {l : List Nat} (h : Group l) (j : Nat) (W : World) (hj : j < 8) : Calls Tryz.prog 172 #[.int .u64 (word8 l), .int .i64 j] W fun e w' => e = .returned (.int .i64 0) ∧ W = w' := by
  have hq := Valid_ok h W
  have h0 : (0 : Int) ≤ j := by omega
  have h1 : (j : Int) < 8 := by omega
  have h2 : ¬ ((8 : Int) ≤ j) := by omega
  generalize word8 l = w at *
  go_enter Tryz.func172, Tryz.ntmps172
  go_wp2_with (go_at_call 187; go_must (refine Calls.mono hq ?_); rintro e w' ⟨rfl, rfl⟩)
  go_ret
  exact ⟨rfl, rfl⟩
theorem Set_ok {l : List Nat} (h : Group l) (j b : Nat) (W : World) (hj : j < 8) (hb : b < 128) : Calls Tryz.prog 165 #[.int .u64 (word8 l), .int .i64 j, .int .u8 b] W fun e w' => e = .returned (.tuple #[.int .u64 (word8 (l.set j b)), .int .i64 0]) ∧ w' = W.drew := by
  have hq := CCheck_ok h j W hj
  have hw := With_ok h.bytes j b W hj (by omega)
  have h1 : ¬ ((127 : Int) < b) := by omega
  generalize word8 (l.set j b) = z at *
  generalize word8 l = w at *
  go_enter Tryz.func165, Tryz.ntmps165
  go_wp2_with (first | (go_at_call 172; go_must (refine Calls.mono hq ?_); rintro e w' ⟨rfl, rfl⟩) | (go_at_call 174; go_must (refine Calls.mono hw ?_); rintro e w' ⟨rfl, rfl⟩))
  go_ret2
  exact ⟨rfl, rfl⟩
/-- What Erase puts into a lane. -/
def erased (l : List Nat) : Nat := if l.any (· == 128) then 128 else 254
theorem Erase_ok {l : List Nat} (h : Group l) (j c : Nat) (W : World) (hj : l[j]? = some c) (hc : c < 128) : Calls Tryz.prog 136 #[.int .u64 (word8 l), .int .i64 j] W fun e w' => e = .returned (.tuple #[.int .u64 (word8 (l.set j (erased l))), .int .i64 0]) ∧ w' = W.drew := by
  have hj8 : j < 8 := by have := (List.getElem?_eq_some_iff.1 hj).1; have := h.1; omega
  have hq := CCheck_ok h j W hj8
  have hw := With_ok h.bytes j (erased l) W hj8 (by unfold erased; split <;> omega)
  have he := Empties_ok h.bytes W
  have hf := Full_ok h.bytes W
  have hz := mask_zero (p := l.map (· == 128)) (by simp [h.1])
  have hlt := mask_lt (p := l.map (fun c => decide (c < 128))) (by simp [h.1])
  have hb := mask_bit (p := l.map (fun c => decide (c < 128))) (by simp [h.1]) j hj8
  rw [show (l.map (fun c => decide (c < 128))).getD j false = true by simp [List.getD_eq_getElem?_getD, hj, hc]] at hb
  have hd : mask (l.map (fun c => decide (c < 128))) / 2 ^ j < 256 := Nat.lt_of_le_of_lt (Nat.div_le_self _ _) hlt
  have e1 : bits .and .u8 ((mask (l.map (fun c => decide (c < 128))) : Int) / 2 ^ j) 1 = 1 := by
    have := bits_and8 _ 1 hd (by omega)
    rw [hb] at this
    simpa using this
  have k0 : (0 : Int) ≤ j := by omega
  have k1 : (j : Int) ≤ 8 := by omega
  generalize mask (l.map (fun c => decide (c < 128))) = f at *
  rw [show (l.map (· == 128)).any id = l.any (· == 128) by simp [List.any_map]] at hz
  generalize word8 (l.set j (erased l)) = z at *
  generalize word8 l = w at *
  unfold erased at hw
  cases ha : l.any (· == 128) with
  | true =>
    rw [ha] at hz hw
    have hz : mask (l.map (· == 128)) ≠ 0 := by simpa using hz
    generalize mask (l.map (· == 128)) = m at *
    have hz2 : ((m : Int) == 0) = false := by simp [hz]
    go_enter Tryz.func136, Tryz.ntmps136
    go_wp2_with (first | (go_at_call 172; go_must (refine Calls.mono hq ?_); rintro e w' ⟨rfl, rfl⟩) | (go_at_call 137; go_must (refine Calls.mono he ?_); rintro e w' ⟨rfl, rfl⟩) | (go_at_call 173; go_must (refine Calls.mono hf ?_); rintro e w' ⟨rfl, rfl⟩) | (go_at_call 174; go_must (refine Calls.mono hw ?_); rintro e w' ⟨rfl, rfl⟩))
    go_ret2
    exact ⟨rfl, rfl⟩
  | false =>
    rw [ha] at hz hw
    have hz : mask (l.map (· == 128)) = 0 := by simpa using hz
    rw [hz] at he
    go_enter Tryz.func136, Tryz.ntmps136
    go_wp2_with (first | (go_at_call 172; go_must (refine Calls.mono hq ?_); rintro e w' ⟨rfl, rfl⟩) | (go_at_call 137; go_must (refine Calls.mono he ?_); rintro e w' ⟨rfl, rfl⟩) | (go_at_call 173; go_must (refine Calls.mono hf ?_); rintro e w' ⟨rfl, rfl⟩) | (go_at_call 174; go_must (refine Calls.mono hw ?_); rintro e w' ⟨rfl, rfl⟩))
    go_ret2
    exact ⟨rfl, rfl⟩
end Go.Proofs.YtpafcocciggfpaaGreat
