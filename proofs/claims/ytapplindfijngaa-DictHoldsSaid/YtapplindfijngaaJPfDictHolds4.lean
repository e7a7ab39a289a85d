/- Lemmas and contracts of functions, strung together out of 5 texts. No condition. -/
import Derived.Test.YtapplindfijngaaJPfDictHolds3
import Derived.Test.YtapplindfijngaaProg
import Derived.Handy
import Derived.Test.YtapplindfijngaaJPfDictHolds2
/- word and control: each function on the lanes of its word. -/
namespace Go.Proofs.Ytapplindfijngaa
open Go.RowKit
set_option maxRecDepth 100000

theorem u64_mod (n : Nat) : IntKind.u64.wrap (n : Int) = ((n % 18446744073709551616 : Nat) : Int) := by
  simp [IntKind.wrap, IntKind.signed, IntKind.bits]
theorem Repeat_ok (b r : Nat) (W : World) (hb : b < 256) (hr : 72340172838076673 * b = r) : Calls Try.prog 65 #[.int .u8 b] W fun e w' => e = .returned (.int .u64 r) ∧ W = w' := by
  subst hr
  have h0 : (0 : Int) ≤ b := by omega
  have h1 : (b : Int) ≤ 255 := by omega
  go_enter Try.func65, Try.ntmps65
  go_wp2
  go_ret
  exact ⟨by simp, rfl⟩
theorem gather_ok (z m : Nat) (W : World) (hz : z < 18446744073709551616) (hm : z / 128 * 72624976668147840 % 18446744073709551616 / 72057594037927936 % 256 = m) :
    Calls Try.prog 90 #[.int .u64 z] W fun e w' => e = .returned (.int .u8 m) ∧ W = w' := by
  have h0 : (0 : Int) ≤ z := by omega
  have h1 : (z : Int) ≤ 18446744073709551615 := by omega
  go_enter Try.func90, Try.ntmps90
  go_wp2
  go_ret
  refine ⟨?_, rfl⟩
  have e : IntKind.u64.wrap ((z : Int) / 128 * 72624976668147840) / 72057594037927936 % 256 = (m : Int) := by
    rw [show (z : Int) / 128 * 72624976668147840 = ((z / 128 * 72624976668147840 : Nat) : Int) by simp, u64_mod, ← hm]
    simp
  simp only [e]
  rfl
theorem Match_ok {l : List Nat} (h : Bytes8 l) (b : Nat) (W : World) (hb : b < 256) : Calls Try.prog 80 #[.int .u64 (word8 l), .int .u8 b] W fun e w' => e = .returned (.int .u8 (mask (l.map (· == b)))) ∧ W = w' := by
  have hl := h.lt
  have hs := match_small h b hb
  have em := match_word h b hb
  have hr : 72340172838076673 * b < 18446744073709551616 := by omega
  have hb0 : Bytes8 (l.map (fun c => if c = b then 128 else 0)) := h.map (fun c _ => by split <;> omega)
  have hg := gather_mask (p := l.map (· == b)) (by simp [h.1])
  have hc : l.map (fun c => if c = b then 128 else 0) = (l.map (· == b)).map (fun b => if b then 128 else 0) := by rw [List.map_map]; apply List.map_congr_left; intro c _; simp
  rw [← hc] at hg
  have hz := hb0.lt
  generalize word8 l = w at *
  generalize mask (l.map (· == b)) = m at *
  generalize word8 (l.map (fun c => if c = b then 128 else 0)) = z at *
  generalize hrb : 72340172838076673 * b = r at *
  have hx : w ^^^ r < 18446744073709551616 := Nat.xor_lt_two_pow (n := 64) hl hr
  have e1 := bits_xor64 w r hl hr
  generalize w ^^^ r = x at *
  have e2 : bits .and .u64 (x : Int) 9187201950435737471 = ((x &&& 9187201950435737471 : Nat) : Int) := bits_and64 x 9187201950435737471 hx (by omega)
  generalize x &&& 9187201950435737471 = y at *
  have ew : IntKind.u64.wrap ((y : Int) + 9187201950435737471) = ((y + 9187201950435737471 : Nat) : Int) := u64_wrap _ hs
  generalize y + 9187201950435737471 = u at *
  have e3 := bits_or64 u x hs hx
  have ho : u ||| x < 18446744073709551616 := Nat.or_lt_two_pow (n := 64) hs hx
  generalize u ||| x = v at *
  have e4 : bits .or .u64 (v : Int) 9187201950435737471 = ((v ||| 9187201950435737471 : Nat) : Int) := bits_or64 v 9187201950435737471 ho (by omega)
  have hv : v ||| 9187201950435737471 < 18446744073709551616 := Nat.or_lt_two_pow (n := 64) ho (by omega)
  generalize v ||| 9187201950435737471 = t at *
  have e5 : bits .xor .u64 (if IntKind.u64.signed = true then (-1 : Int) else IntKind.u64.max) (t : Int) = (z : Int) := by
    rw [not_u64, bits_xor64 _ _ (by omega) hv, em]
  go_enter Try.func80, Try.ntmps80
  go_wp2_with (first | (go_at_call 65; refine Calls.mono (Repeat_ok b r _ hb hrb) ?_; rintro e w' ⟨rfl, rfl⟩) | (go_at_call 90; go_must (refine Calls.mono (gather_ok z m _ hz hg) ?_); rintro e w' ⟨rfl, rfl⟩))
  go_ret
  exact ⟨rfl, rfl⟩
theorem High_ok {l : List Nat} (h : Bytes8 l) (W : World) : Calls Try.prog 89 #[.int .u64 (word8 l)] W fun e w' => e = .returned (.int .u8 (mask (l.map (fun c => decide (128 ≤ c))))) ∧ W = w' := by
  have hl := h.lt
  have hw := high_word h
  have hz : Bytes8 (l.map (fun c => if decide (128 ≤ c) then 128 else 0)) := h.map (fun c _ => by split <;> omega)
  have hg := gather_mask (p := l.map (fun c => decide (128 ≤ c))) (by simp [h.1])
  rw [← word8_map_bool (fun c => decide (128 ≤ c))] at hg
  have hz := hz.lt
  have e1 : bits .andNot .u64 (word8 l : Int) 9187201950435737471 = _ := bits_andNot64 (word8 l) 9187201950435737471 9259542123273814144 hl (by omega) rfl
  rw [hw] at e1
  generalize word8 l = w at *
  generalize mask (l.map (fun c => decide (128 ≤ c))) = m at *
  generalize word8 (l.map (fun c => if decide (128 ≤ c) then 128 else 0)) = z at *
  go_enter Try.func89, Try.ntmps89
  go_wp2_with (go_at_call 90; go_must (refine Calls.mono (gather_ok z m _ hz hg) ?_); rintro e w' ⟨rfl, rfl⟩)
  go_ret
  exact ⟨rfl, rfl⟩
theorem tz_table (s : ByteArray) (hs : s.size = 256) (h : ∀ k (hk : k < 256), wrap64 ((s[k]'(by omega)).toNat : Int) = lane1 k) (m : Nat) (hm : m < 256) (hms : m < s.size) : wrap64 ((s[m]'hms).toNat : Int) = lane1 m := h m hm
theorem Tz8_ok (m : Nat) (W : World) (hm : m < 256) : Calls Try.prog 86 #[.int .u8 m] W fun e w' => e = .returned (.int .i64 (lane1 m)) ∧ W = w' := by
  have h0 : (0 : Int) ≤ m := by omega
  have h1 : (m : Int) ≤ 255 := by omega
  have h2 : (m : Int) < 256 := by omega
  go_enter Try.func86, Try.ntmps86
  go_wp2
  go_ret
  exact ⟨congrArg (fun x => Ending.returned (.int .i64 x)) (tz_table _ (by decide) (by decide +kernel) m hm _), rfl⟩
theorem First_ok (m : Nat) (W : World) (hm : m < 256) : Calls Try.prog 71 #[.int .u8 m] W fun e w' => e = .returned (.int .i64 (lane1 m)) ∧ W = w' := by
  go_enter Try.func71, Try.ntmps71
  go_wp2_with (go_at_call 86; go_must (refine Calls.mono (Tz8_ok m _ hm) ?_); rintro e w' ⟨rfl, rfl⟩)
  go_ret
  exact ⟨rfl, rfl⟩
theorem pow_lane (j : Nat) (hj : j < 8) (b : Nat) (hb : b < 256) : b * 2 ^ (8 * j) < 18446744073709551616 := by
  have : 2 ^ (8 * j) ≤ 2 ^ 56 := Nat.pow_le_pow_right (by decide) (by omega)
  have : b * 2 ^ (8 * j) ≤ 255 * 2 ^ 56 := Nat.mul_le_mul (by omega) this
  omega
theorem With_ok {l : List Nat} (h : Bytes8 l) (j b : Nat) (W : World) (hj : j < 8) (hb : b < 256) : Calls Try.prog 79 #[.int .u64 (word8 l), .int .i64 j, .int .u8 b] W fun e w' => e = .returned (.tuple #[.int .u64 (word8 (l.set j b)), .int .i64 0]) ∧ w' = W.drew := by
  have hl := h.lt
  have hw := with_word h j b hj hb
  have h0 : (0 : Int) ≤ j := by omega
  have h1 : (j : Int) < 8 := by omega
  have h2 : ¬ ((8 : Int) ≤ j) := by omega
  have hb0 : (0 : Int) ≤ b := by omega
  have hb1 : (b : Int) ≤ 255 := by omega
  have k0 : (0 : Int) ≤ 8 * (j : Int) := by omega
  have k1 : 8 * (j : Int) ≤ 64 := by omega
  have k2 : wrap64 (8 * (j : Int)) = 8 * (j : Int) := IntWalk.wrap64_in _ (by omega)
  have s0 := pow_lane j hj 255 (by omega)
  have s1 := pow_lane j hj b hb
  have e1 : IntKind.u64.wrap (255 * 2 ^ (8 * j)) = ((255 * 2 ^ (8 * j) : Nat) : Int) := by rw [← u64_wrap _ s0]; simp
  have e2 : IntKind.u64.wrap ((b : Int) * 2 ^ (8 * j)) = ((b * 2 ^ (8 * j) : Nat) : Int) := by rw [← u64_wrap _ s1]; simp
  generalize b * 2 ^ (8 * j) = t at *
  generalize 255 * 2 ^ (8 * j) = s at *
  generalize word8 (l.set j b) = z at *
  generalize word8 l = w at *
  have e3 := bits_andNot64 w s _ hl s0 rfl
  have hx : w &&& (18446744073709551615 - s) < 18446744073709551616 := Nat.lt_of_le_of_lt Nat.and_le_left hl
  generalize w &&& (18446744073709551615 - s) = x at *
  have e4 := bits_or64 x t hx s1
  rw [hw] at e4
  go_enter Try.func79, Try.ntmps79
  go_wp2
  go_region
  go_wp2
  go_ret2
  exact ⟨rfl, rfl⟩

/-! ### control -/
/-- The lanes of a group: tags, empty ones and deleted ones. -/
def Group (l : List Nat) : Prop := l.length = 8 ∧ ∀ c ∈ l, c < 128 ∨ c = 128 ∨ c = 254
theorem Group.bytes {l : List Nat} (h : Group l) : Bytes8 l := ⟨h.1, fun c hc => by have := h.2 c hc; omega⟩
theorem Blank_ok (W : World) : Calls Try.prog 45 #[] W fun e w' => e = .returned (.int .u64 (word8 [128, 128, 128, 128, 128, 128, 128, 128] : Nat)) ∧ W = w' := by
  have hq := Repeat_ok 128 (word8 [128, 128, 128, 128, 128, 128, 128, 128]) W (by omega) (by rfl)
  generalize word8 [128, 128, 128, 128, 128, 128, 128, 128] = z at *
  go_enter Try.func45, Try.ntmps45
  go_wp2_with (go_at_call 65; go_must (refine Calls.mono hq ?_); rintro e w' ⟨rfl, rfl⟩)
  go_ret
  exact ⟨rfl, rfl⟩
theorem CMatch_ok {l : List Nat} (h : Bytes8 l) (b : Nat) (W : World) (hb : b < 128) : Calls Try.prog 76 #[.int .u64 (word8 l), .int .u8 b] W fun e w' => e = .returned (.int .u8 (mask (l.map (· == b)))) ∧ W = w' := by
  have h1 : ¬ ((127 : Int) < b) := by omega
  go_enter Try.func76, Try.ntmps76
  go_wp2_with (go_at_call 80; go_must (refine Calls.mono (Match_ok h b _ (by omega)) ?_); rintro e w' ⟨rfl, rfl⟩)
  go_ret
  exact ⟨rfl, rfl⟩
theorem Empties_ok {l : List Nat} (h : Bytes8 l) (W : World) : Calls Try.prog 59 #[.int .u64 (word8 l)] W fun e w' => e = .returned (.int .u8 (mask (l.map (· == 128)))) ∧ W = w' := by
  go_enter Try.func59, Try.ntmps59
  go_wp2_with (go_at_call 80; go_must (refine Calls.mono (Match_ok h 128 _ (by omega)) ?_); rintro e w' ⟨rfl, rfl⟩)
  go_ret
  exact ⟨rfl, rfl⟩
theorem Free_ok {l : List Nat} (h : Group l) (W : World) : Calls Try.prog 72 #[.int .u64 (word8 l)] W fun e w' => e = .returned (.int .u8 (mask (l.map (fun c => decide (128 ≤ c))))) ∧ W = w' := by
  have e1 := bits_or8 (mask (l.map (· == 128))) (mask (l.map (· == 254))) (mask_lt (by simp [h.1])) (mask_lt (by simp [h.1]))
  rw [mask_or] at e1
  have e2 : l.map (fun c => c == 128 || c == 254) = l.map (fun c => decide (128 ≤ c)) := List.map_congr_left (fun c hc => by have := h.2 c hc; rw [Bool.eq_iff_iff]; simp; omega)
  rw [e2] at e1
  go_enter Try.func72, Try.ntmps72
  go_wp2_with (first | (go_at_call 59; go_must (refine Calls.mono (Empties_ok h.bytes _) ?_); rintro e w' ⟨rfl, rfl⟩) | (go_at_call 80; go_must (refine Calls.mono (Match_ok h.bytes 254 _ (by omega)) ?_); rintro e w' ⟨rfl, rfl⟩))
  go_ret
  exact ⟨rfl, rfl⟩
theorem Full_ok {l : List Nat} (h : Bytes8 l) (W : World) : Calls Try.prog 78 #[.int .u64 (word8 l)] W fun e w' => e = .returned (.int .u8 (mask (l.map (fun c => decide (c < 128))))) ∧ W = w' := by
  have hm : mask (l.map (fun c => decide (128 ≤ c))) < 256 := mask_lt (by simp [h.1])
  have e0 := mask_not (p := l.map (fun c => decide (128 ≤ c))) (by simp [h.1])
  rw [List.map_map, show (not ∘ fun c => decide (128 ≤ c)) = (fun c : Nat => decide (c < 128)) by funext c; simp only [Function.comp]; rw [Bool.eq_iff_iff]; simp] at e0
  have e1 : bits .xor .u8 (if IntKind.u8.signed = true then (-1 : Int) else IntKind.u8.max) (mask (l.map (fun c => decide (128 ≤ c))) : Int) = (mask (l.map (fun c => decide (c < 128))) : Int) := by rw [not_u8, bits_xor8 _ _ (by omega) hm, e0]
  have hq := High_ok h W
  generalize mask (l.map (fun c => decide (128 ≤ c))) = m at *
  generalize mask (l.map (fun c => decide (c < 128))) = z at *
  go_enter Try.func78, Try.ntmps78
  go_wp2_with (go_at_call 89; go_must (refine Calls.mono hq ?_); rintro e w' ⟨rfl, rfl⟩)
  go_ret
  exact ⟨rfl, rfl⟩
theorem Valid_ok {l : List Nat} (h : Group l) (W : World) : Calls Try.prog 88 #[.int .u64 (word8 l)] W fun e w' => e = .returned (.bool true) ∧ W = w' := by
  have h1 := Free_ok h W
  have h2 := Full_ok h.bytes W
  have e1 := bits_or8 (mask (l.map (fun c => decide (128 ≤ c)))) (mask (l.map (fun c => decide (c < 128)))) (mask_lt (by simp [h.1])) (mask_lt (by simp [h.1]))
  rw [mask_or] at e1
  have e2 : mask (l.map (fun c => decide (128 ≤ c) || decide (c < 128))) = 255 := by
    have := mask_full (p := l.map (fun c => decide (128 ≤ c) || decide (c < 128))) (by simp [h.1])
    rw [show (l.map (fun c => decide (128 ≤ c) || decide (c < 128))).all id = true by simp [List.all_map]; intro c _; omega] at this
    exact of_decide_eq_true this
  rw [e2] at e1
  generalize mask (l.map (fun c => decide (128 ≤ c))) = m at *
  generalize mask (l.map (fun c => decide (c < 128))) = z at *
  go_enter Try.func88, Try.ntmps88
  go_wp2_with (first | (go_at_call 72; go_must (refine Calls.mono h1 ?_); rintro e w' ⟨rfl, rfl⟩) | (go_at_call 78; go_must (refine Calls.mono h2 ?_); rintro e w' ⟨rfl, rfl⟩))
  go_ret
  exact ⟨rfl, rfl⟩
theorem CCheck_ok {l : List Nat} (h : Group l) (j : Nat) (W : World) (hj : j < 8) : Calls Try.prog 77 #[.int .u64 (word8 l), .int .i64 j] W fun e w' => e = .returned (.int .i64 0) ∧ W = w' := by
  have hq := Valid_ok h W
  have h0 : (0 : Int) ≤ j := by omega
  have h1 : (j : Int) < 8 := by omega
  have h2 : ¬ ((8 : Int) ≤ j) := by omega
  generalize word8 l = w at *
  go_enter Try.func77, Try.ntmps77
  go_wp2_with (go_at_call 88; go_must (refine Calls.mono hq ?_); rintro e w' ⟨rfl, rfl⟩)
  go_ret
  exact ⟨rfl, rfl⟩
theorem Set_ok {l : List Nat} (h : Group l) (j b : Nat) (W : World) (hj : j < 8) (hb : b < 128) : Calls Try.prog 73 #[.int .u64 (word8 l), .int .i64 j, .int .u8 b] W fun e w' => e = .returned (.tuple #[.int .u64 (word8 (l.set j b)), .int .i64 0]) ∧ w' = W.drew := by
  have hq := CCheck_ok h j W hj
  have hw := With_ok h.bytes j b W hj (by omega)
  have h1 : ¬ ((127 : Int) < b) := by omega
  generalize word8 (l.set j b) = z at *
  generalize word8 l = w at *
  go_enter Try.func73, Try.ntmps73
  go_wp2_with (first | (go_at_call 77; go_must (refine Calls.mono hq ?_); rintro e w' ⟨rfl, rfl⟩) | (go_at_call 79; go_must (refine Calls.mono hw ?_); rintro e w' ⟨rfl, rfl⟩))
  go_ret2
  exact ⟨rfl, rfl⟩
/-- What Erase puts into a lane. -/
def erased (l : List Nat) : Nat := if l.any (· == 128) then 128 else 254
theorem Erase_ok {l : List Nat} (h : Group l) (j c : Nat) (W : World) (hj : l[j]? = some c) (hc : c < 128) : Calls Try.prog 58 #[.int .u64 (word8 l), .int .i64 j] W fun e w' => e = .returned (.tuple #[.int .u64 (word8 (l.set j (erased l))), .int .i64 0]) ∧ w' = W.drew := by
  have hj8 : j < 8 := by have := (List.getElem?_eq_some_iff.1 hj).1; have := h.1; omega
  have hq := CCheck_ok h j W hj8
  have hw := With_ok h.bytes j (erased l) W hj8 (by unfold erased; split <;> omega)
  have he := Empties_ok h.bytes W
  have hf := Full_ok h.bytes W
  have hz := mask_zero (p := l.map (· == 128)) (by simp [h.1])
  have hlt := mask_lt (p := l.map (fun c => decide (c < 128))) (by simp [h.1])
  have hb := mask_bit (p := l.map (fun c => decide (c < 128))) (by simp [h.1]) j hj8
  rw [show (l.map (fun c => decide (c < 128))).getD j false = true by simp [List.getD_eq_getElem?_getD, hj, hc]] at hb
  have hd : mask (l.map (fun c => decide (c < 128))) / 2 ^ j < 256 := Nat.lt_of_le_of_lt (Nat.div_le_self _ _) hlt
  have e1 : bits .and .u8 ((mask (l.map (fun c => decide (c < 128))) : Int) / 2 ^ j) 1 = 1 := by
    have := bits_and8 _ 1 hd (by omega)
    rw [hb] at this
    simpa using this
  have k0 : (0 : Int) ≤ j := by omega
  have k1 : (j : Int) ≤ 8 := by omega
  generalize mask (l.map (fun c => decide (c < 128))) = f at *
  rw [show (l.map (· == 128)).any id = l.any (· == 128) by simp [List.any_map]] at hz
  generalize word8 (l.set j (erased l)) = z at *
  generalize word8 l = w at *
  unfold erased at hw
  cases ha : l.any (· == 128) with
  | true =>
    rw [ha] at hz hw
    have hz : mask (l.map (· == 128)) ≠ 0 := by simpa using hz
    generalize mask (l.map (· == 128)) = m at *
    have hz2 : ((m : Int) == 0) = false := by simp [hz]
    go_enter Try.func58, Try.ntmps58
    go_wp2_with (first | (go_at_call 77; go_must (refine Calls.mono hq ?_); rintro e w' ⟨rfl, rfl⟩) | (go_at_call 59; go_must (refine Calls.mono he ?_); rintro e w' ⟨rfl, rfl⟩) | (go_at_call 78; go_must (refine Calls.mono hf ?_); rintro e w' ⟨rfl, rfl⟩) | (go_at_call 79; go_must (refine Calls.mono hw ?_); rintro e w' ⟨rfl, rfl⟩))
    go_ret2
    exact ⟨rfl, rfl⟩
  | false =>
    rw [ha] at hz hw
    have hz : mask (l.map (· == 128)) = 0 := by simpa using hz
    rw [hz] at he
    go_enter Try.func58, Try.ntmps58
    go_wp2_with (first | (go_at_call 77; go_must (refine Calls.mono hq ?_); rintro e w' ⟨rfl, rfl⟩) | (go_at_call 59; go_must (refine Calls.mono he ?_); rintro e w' ⟨rfl, rfl⟩) | (go_at_call 78; go_must (refine Calls.mono hf ?_); rintro e w' ⟨rfl, rfl⟩) | (go_at_call 79; go_must (refine Calls.mono hw ?_); rintro e w' ⟨rfl, rfl⟩))
    go_ret2
    exact ⟨rfl, rfl⟩
end Go.Proofs.Ytapplindfijngaa

/- wp_range (XRange) with the round in one piece: no relation between the assignments and the body is asked. -/
namespace Go.Proofs.Ytapplindfijngaa
open Go.RowKit Go.Shelf
variable {P : Program}

theorem Quiet.trans {N : Nat} {A B C : World} (h : Quiet N A B) (k : Quiet N B C) : Quiet N A C := by
  refine Mod.trans' h k (fun _ _ h => h) (fun i hi hs => ?_)
  obtain ⟨hN, o, ho, hc⟩ := hs
  refine ⟨hN, ?_⟩
  have hA : A.heap[i]? = some (A.heap[i]'hi) := Array.getElem?_eq_getElem hi
  cases hx : (A.heap[i]'hi).isCells with
  | false => exact ⟨_, hA, hx⟩
  | true =>
    have := Mod.heap h (k := i) (o := A.heap[i]'hi) (fun hs => by
      obtain ⟨_, o', ho', hc'⟩ := hs
      rw [hA] at ho'; cases ho'; rw [hx] at hc'; cases hc') hA
    rw [this] at ho; cases ho; rw [hx] at hc; cases hc
theorem Quiet.refl (N : Nat) (A : World) : Quiet N A A := Quiet.of_pure (Mod.refl _ A)

theorem wp_range2 {α : Type} {g : Operand} {ps : Array Tmp} {assign body : Code} {Q : Exit → Act → World → Prop} {a : Act} {w : World}
    {gf : Nat} {lb : Array Value} (hg : a.eval g = .func (.func gf) #[] lb) (eg : ∀ args w, (callFunc gf args).run P w = .ok (.enter gf args) w)
    {encs : α → Array Value} {It : Nat → Prop} {G : List α → α → World → Prop} {S : List α → Prop} (hit : IterOk P gf lb encs It G S w) (hItlt : ∀ k, It k → k < w.heap.size)
    (hps : ∀ x, (encs x).size = ps.size)
    (I : List α → World → Prop) (Ix : Code → List α → World → Prop) (hI : ∀ pre A B, I pre A → Quiet w.heap.size A B → I pre B) (hIx : ∀ c pre A B, Ix c pre A → Quiet w.heap.size A B → Ix c pre B) (h0 : I [] w)
    (hround : ∀ (l : Nat) (pre : List α) (x : α) (W : World) (K : Act → World → Prop), I pre W → G pre x W →
      (∀ a' W', Pure W W' → (∀ (l' : Nat) (W2 : World), w.heap.size ≤ l' → (∃ r, W2.heap[l']? = some (.loop r)) → Quiet w.heap.size W' W2 → body.wpIn (Fence.wide.inRound l') 0 P (roundEnd w.heap.size It I Ix (pre ++ [x]) W2) a' W2) → K a' W') →
      assign.wpIn (Fence.wide.inRound l) 0 P (Exit.then K (fun _ _ _ => False)) { tmps := (ps.zip (encs x)).foldl (fun t (p, v) => t.setIfInBounds p v) a.tmps, defers := [] } W)
    (hdone : ∀ (D : Nat) (xs : List α) (W : World), w.heap.size ≤ D → S xs → I xs W → W.heap[D]? = some (.deferred (some [])) → Q .normal { a with defers := { target := .collected D, args := #[] } :: a.defers } W)
    (hstop : ∀ (D : Nat) (c : Code) (pre : List α) (W : World), w.heap.size ≤ D → Ix c pre W → W.heap[D]? = some (.deferred (some [])) → c.wpIn Fence.wide 0 P Q { a with defers := { target := .collected D, args := #[] } :: a.defers } W) :
    (Code.rangeFunc g ps assign body).wpIn Fence.wide 0 P Q a w :=
  wp_range hg eg hit hItlt hps I Ix hI hIx h0
    (fun pre x a' W' => ∀ (l' : Nat) (W2 : World), w.heap.size ≤ l' → (∃ r, W2.heap[l']? = some (.loop r)) → Quiet w.heap.size W' W2 → body.wpIn (Fence.wide.inRound l') 0 P (roundEnd w.heap.size It I Ix (pre ++ [x]) W2) a' W2)
    (fun _ _ _ _ _ h hq l' W2 hl hr hq2 => h l' W2 hl hr (hq.trans hq2)) hround (fun l _ _ _ W hl hr h => h l W hl hr (Quiet.refl _ _)) hdone hstop
end Go.Proofs.Ytapplindfijngaa

/- probe: valid numbers of groups, the sequence, its iterator; hash.Part and Tag. -/
namespace Go.Proofs.Ytapplindfijngaa
open Go.RowKit Go.Shelf
set_option maxRecDepth 100000
attribute [local go_sem] Oper.semAt_some

/-- An allowed number of groups. -/
def Pow (g : Nat) : Prop := ∃ k ≤ 20, g = 2 ^ k
theorem Pow.pos {g : Nat} (h : Pow g) : 0 < g := by obtain ⟨k, _, rfl⟩ := h; exact Nat.pow_pos (by decide)
theorem Pow.le {g : Nat} (h : Pow g) : g ≤ 1048576 := by obtain ⟨k, hk, rfl⟩ := h; exact Nat.pow_le_pow_right (n := 2) (by decide) hk
/-- The group that comes at an index of a probe sequence. -/
def atM (part g i : Nat) : Nat := (part + i * (i + 1) / 2) % g
def probes (part g : Nat) : List Nat := (List.range g).map (atM part g)

theorem Part_ok (s : Nat) (W : World) (hs : s < 18446744073709551616) : Calls Try.prog 70 #[.int .u64 s] W fun e w' => e = .returned (.int .u64 (s / 128 : Nat)) ∧ W = w' := by
  have h0 : (0 : Int) ≤ s := by omega
  have h1 : (s : Int) ≤ 18446744073709551615 := by omega
  go_enter Try.func70, Try.ntmps70
  go_wp2
  go_ret
  exact ⟨by simp, rfl⟩
theorem and_127 (s : Nat) : s &&& 127 = s % 128 := Nat.and_two_pow_sub_one_eq_mod s 7
theorem Tag_ok (s : Nat) (W : World) (hs : s < 18446744073709551616) : Calls Try.prog 74 #[.int .u64 s] W fun e w' => e = .returned (.int .u8 (s % 128 : Nat)) ∧ W = w' := by
  have h0 : (0 : Int) ≤ s := by omega
  have h1 : (s : Int) ≤ 18446744073709551615 := by omega
  have e1 : bits .and .u64 (s : Int) 127 = _ := bits_and64 s 127 hs (by omega)
  rw [and_127] at e1
  have e2 : ((s % 128 : Nat) : Int) % 256 = ((s % 128 : Nat) : Int) := by omega
  generalize s % 128 = t at *
  go_enter Try.func74, Try.ntmps74
  go_wp2
  go_ret
  exact ⟨by simp [e1, e2], rfl⟩

theorem bits_and63 (a b : Nat) (ha : a < 9223372036854775808) (hb : b < 9223372036854775808) : bits .and .i64 (a : Int) (b : Int) = ((a &&& b : Nat) : Int) := by
  have h : a &&& b < 2 ^ 63 := Nat.and_lt_two_pow _ hb
  show IntKind.i64.wrap (((BitVec.ofInt 64 (a : Int) &&& BitVec.ofInt 64 (b : Int)).toNat : Nat) : Int) = _
  rw [ofInt_nat, ofInt_nat]
  rw [BitVec.toNat_and, BitVec.toNat_ofNat, BitVec.toNat_ofNat, Nat.mod_eq_of_lt (by omega), Nat.mod_eq_of_lt (by omega)]
  generalize a &&& b = c at *
  simp [IntKind.wrap, IntKind.signed, IntKind.bits]
  omega
theorem pow_and : ∀ k ≤ 20, 2 ^ k &&& (2 ^ k - 1) = 0 := by decide +kernel
theorem PValid_ok (g : Nat) (W : World) (hg : Pow g) : Calls Try.prog 44 #[.int .i64 g] W fun e w' => e = .returned (.bool true) ∧ W = w' := by
  have h0 : (0 : Int) < g := by have := hg.pos; omega
  have h1 : (g : Int) ≤ 1048576 := by have := hg.le; omega
  have e1 : bits .and .i64 (g : Int) ((g : Int) - 1) = 0 := by
    have := bits_and63 g (g - 1) (by omega) (by omega)
    rw [show ((g - 1 : Nat) : Int) = (g : Int) - 1 by omega] at this
    rw [this]
    obtain ⟨k, hk, rfl⟩ := hg
    rw [pow_and k hk]
    rfl
  go_enter Try.func44, Try.ntmps44
  go_wp2
  all_goals go_ret
  all_goals exact ⟨rfl, rfl⟩
theorem at_walk (part g i p d q z : Nat) (W : World) (hi : i < 1048576) (hg0 : 1 ≤ g) (hg : g ≤ 1048576) (e1 : wrap64 ((i : Int) * ((i : Int) + 1)) = (p : Int)) (e2 : (p : Int).tdiv 2 = (d : Int)) (e3 : wrap64 (d : Int) = d) (e4 : IntKind.u64.wrap (d : Int) = d)
    (e5 : IntKind.u64.wrap ((part : Int) + d) = (q : Int)) (e6 : bits .and .u64 (q : Int) ((g : Int) - 1) = (z : Int)) (e7 : wrap64 (z : Int) = z) :
    Calls Try.prog 85 #[.int .u64 part, .int .i64 g, .int .i64 i] W fun e w' => e = .returned (.int .i64 z) ∧ W = w' := by
  have h1 : (1 : Int) ≤ g := by omega
  have h2 : (g : Int) ≤ 1048576 := by omega
  have h3 : (i : Int) < 1048576 := by omega
  go_enter Try.func85, Try.ntmps85
  go_wp2
  go_ret
  refine ⟨?_, rfl⟩
  show Ending.returned (.int .i64 (wrap64 (z : Int))) = _
  rw [e7]
theorem at_prod (i : Nat) (hi : i < 1048576) : i * (i + 1) < 1099512676352 := by
  have : i * (i + 1) ≤ 1048575 * 1048576 := Nat.mul_le_mul (by omega) (by omega)
  omega
theorem atM_and (part g i : Nat) (hg : Pow g) : (part + i * (i + 1) / 2) &&& (g - 1) = atM part g i := by
  unfold atM
  obtain ⟨k, hk, rfl⟩ := hg
  rw [Nat.and_two_pow_sub_one_eq_mod]
theorem at_ok (part g i : Nat) (W : World) (hg : Pow g) (hp : part < 144115188075855872) (hi : i < g) : Calls Try.prog 85 #[.int .u64 part, .int .i64 g, .int .i64 i] W fun e w' => e = .returned (.int .i64 (atM part g i)) ∧ W = w' := by
  have hg1 := hg.pos
  have hg2 := hg.le
  have hm := at_prod i (by omega)
  have hd : i * (i + 1) / 2 < 1099512676352 := by omega
  have hlt : atM part g i < g := Nat.mod_lt _ hg1
  refine at_walk part g i (i * (i + 1)) (i * (i + 1) / 2) (part + i * (i + 1) / 2) (atM part g i) W (by omega) hg1 hg2 ?_ ?_ (w64_nat _ (by omega)) (u64_wrap _ (by omega)) ?_ ?_ (w64_nat _ (by omega))
  · have := w64_nat (i * (i + 1)) (by omega)
    rwa [Int.natCast_mul, Int.natCast_add] at this
  · rw [Int.tdiv_eq_ediv_of_nonneg (Int.natCast_nonneg _)]; exact (Int.natCast_ediv _ 2).symm
  · have := u64_wrap (part + i * (i + 1) / 2) (by omega)
    rwa [Int.natCast_add] at this
  · have e6 := bits_and64 (part + i * (i + 1) / 2) (g - 1) (by omega) (by omega)
    rwa [show ((g - 1 : Nat) : Int) = (g : Int) - 1 by omega, atM_and part g i hg] at e6
theorem check_ok (g i : Nat) (W : World) (hg : Pow g) (hi : i < g) : Calls Try.prog 83 #[.int .i64 g, .int .i64 i] W fun e w' => e = .returned (.int .i64 0) ∧ W = w' := by
  have hq := PValid_ok g W hg
  have h0 : (0 : Int) ≤ i := by omega
  have h1 : (i : Int) < g := by omega
  have h2 : ¬ ((g : Int) ≤ i) := by omega
  go_enter Try.func83, Try.ntmps83
  go_wp2_with (go_at_call 44; go_must (refine Calls.mono hq ?_); rintro e w' ⟨rfl, rfl⟩)
  go_ret
  exact ⟨rfl, rfl⟩

/-! ### iterators over numbers -/
abbrev encN (i : Nat) : Array Value := #[.int .i64 i]
/-- What is promised of an element: it is the next one. -/
def nextOf (xs : List Nat) (pre : List Nat) (x : Nat) (_ : World) : Prop := ∃ post, xs = pre ++ x :: post

structure ProbeAt (w : World) (B1 B2 B3 part g : Nat) : Prop where
  many : w.heap[B1]? = some (.cells #[.int .i64 g] 3 (0, 0))
  part : w.heap[B2]? = some (.cells #[.int .u64 part] 22 (0, 0))
  grps : w.heap[B3]? = some (.cells #[.int .i64 g] 3 (0, 0))
def probeBlocks (B1 B2 B3 k : Nat) : Prop := k = B1 ∨ k = B2 ∨ k = B3
theorem ProbeAt.keeps {w w' : World} {B1 B2 B3 part g : Nat} (h : ProbeAt w B1 B2 B3 part g) (hk : KeepsIt (probeBlocks B1 B2 B3) w w') : ProbeAt w' B1 B2 B3 part g :=
  ⟨(hk.2 B1 (.inl rfl) (lt_of_block h.many)).trans h.many, (hk.2 B2 (.inr (.inl rfl)) (lt_of_block h.part)).trans h.part, (hk.2 B3 (.inr (.inr rfl)) (lt_of_block h.grps)).trans h.grps⟩

theorem drop_cons2 {α : Type} {L : List α} {n : Nat} {a : α} (h : L[n]? = some a) : L.drop n = a :: L.drop (n + 1) := by
  obtain ⟨hlt, rfl⟩ := List.getElem?_eq_some_iff.1 h
  exact List.drop_eq_getElem_cons hlt
theorem take_next {α : Type} {L : List α} {n : Nat} {a : α} (h : L[n]? = some a) : L.take (n + 1) = L.take n ++ [a] := by
  obtain ⟨hlt, rfl⟩ := List.getElem?_eq_some_iff.1 h
  rw [List.take_succ_eq_append_getElem hlt]
def probeInv (J : List Nat → World → Prop) (B1 B2 B3 part g : Nat) (k : Value) (wr : World) : Prop :=
  ∃ n, n ≤ g ∧ k = .int .i64 n ∧ J ((probes part g).take n) wr ∧ ProbeAt wr B1 B2 B3 part g
theorem probes_length (part g : Nat) : (probes part g).length = g := by simp [probes]
theorem probes_at (part g i : Nat) (h : i < g) : (probes part g)[i]? = some (atM part g i) := by simp [probes, h]
set_option maxHeartbeats 1000000 in
theorem Probe_iter {w : World} {B1 B2 B3 part g : Nat} (h : ProbeAt w B1 B2 B3 part g) (hg : Pow g) (hp : part < 144115188075855872) :
    IterOk Try.prog 84 #[.pointer (some ⟨B1, 0, none⟩), .pointer (some ⟨B2, 0, none⟩), .pointer (some ⟨B3, 0, none⟩)] encN (probeBlocks B1 B2 B3) (nextOf (probes part g)) (fun xs => xs = probes part g) w := by
  intro l J Jx W hW hJ hJx hY h0
  have hA := h.keeps (KeepsIt.of_pure hW)
  have hB := cell_of_row W B1 0 _ _ _ hA.many
  simp at hB
  have HA := Lib.hid hA
  have HY := Lib.hid hY
  have HJ := Lib.hid hJ
  have hgl := hg.le
  have HG := Lib.hid hg
  clear hA hY hJ hJx h hW hg
  refine callsIn_of_wp Try.func84 rfl trivial ?_ rfl
  simp only [Try.ntmps84, List.size_toArray, List.length_cons, List.length_nil, Nat.reduceAdd, Nat.reduceSub, Array.replicate_succ, Array.replicate_zero, List.push_toArray, List.append_toArray, List.nil_append, List.cons_append]
  gi_wp2
  gi_loopw [5, 7] (fun i k wr => probeInv J B1 B2 B3 part g k wr)
    (fun _ k _ => g - (intOf k).toNat)
  case atStart => exact ⟨0, Nat.zero_le _, rfl, h0, HA.out⟩
  case round =>
    obtain ⟨n, hn, rfl, hJs, hI⟩ := hrel
    by_cases hlt : n < g
    · have hn0 : (0 : Int) ≤ (n : Int) := by omega
      have hn1 : (n : Int) < (g : Int) := by omega
      have hn2 : n ≤ 1048576 := by omega
      have c2 := cell_of_row wr B2 0 _ _ _ hI.part
      have c3 := cell_of_row wr B3 0 _ _ _ hI.grps
      simp at c2 c3
      have he := probes_at part g n hlt
      have hdr := drop_cons2 he
      have htk : (probes part g).take (n + 1) = (probes part g).take n ++ [atM part g n] := take_next he
      obtain ⟨fn, tmps, assign, body, hy, hR⟩ := HY.out ((probes part g).take n) (atM part g n) wr hJs ⟨(probes part g).drop (n + 1), by rw [← hdr, List.take_append_drop]⟩
      dsimp only [encN] at hy
      have hRR := Lib.hid hR
      have HI := Lib.hid hI
      have HAT := Lib.hid (at_ok part g n wr HG.out hp hlt)
      have HT := Lib.hid htk
      clear hR hI hJs he hdr htk
      gi_wp2_with (gi_at_call 85; refine (callsIn_wide.2 HAT.out).mono ?_; rintro e w1 ⟨rfl, rfl⟩)
      refine hRR.out.mono ?_
      rintro e W' (⟨rfl, hJ', hk⟩ | ⟨rfl, hJx'⟩)
      · have HJ' := Lib.hid hJ'
        have HK := Lib.hid hk
        clear hJ' hk
        gi_wp2
        go_roundw
        case rel =>
          unfold probeInv
          exact ⟨n + 1, by omega, by go_num, by rw [HT.out]; exact HJ'.out, HI.out.keeps HK.out⟩
        case measure => simp [intOf]; omega
      · gi_wp2
        refine bodyPost_ret (results_none rfl _ _ _) rfl ?_
        exact ⟨⟨_, rfl⟩, .inr ⟨_, hJx'⟩⟩
    · have hend : n = g := by omega
      have hge : (g : Int) ≤ (n : Int) := by omega
      have HJS := Lib.hid hJs
      have HE := Lib.hid hend
      clear hJs hI hend
      gi_wp2
      go_end0
      refine ⟨⟨_, rfl⟩, .inl ⟨probes part g, rfl, ?_⟩⟩
      have := HJS.out
      rwa [HE.out, List.take_of_length_le (by rw [probes_length]; exact Nat.le_refl _)] at this
end Go.Proofs.Ytapplindfijngaa

/- growth.within, check, limit, Insert. -/
namespace Go.Proofs.Ytapplindfijngaa
open Go.RowKit Go.Shelf
set_option maxRecDepth 100000

def intsV (l : List Int) : List Value := l.map (Value.int .i64)
theorem within_ok {w : World} {a : Option Addr} {c : Nat} {l : List Int} {most : Int} (h : ReadAt w (.slice a l.length c) 1 (intsV l)) (hl : ∀ z ∈ l, 0 ≤ z ∧ z ≤ most) (hn : l.length ≤ 8) :
    Calls Try.prog 81 #[.int .i64 most, .slice a l.length c] w fun e w' => e = .returned (.int .i64 0) ∧ w = w' := by
  have HR := Lib.hid h; have HL := Lib.hid hl
  clear h hl
  obtain ⟨n, hn'⟩ : ∃ n, l.length = n := ⟨_, rfl⟩
  rw [hn'] at HR hn ⊢
  have HN := Lib.hid hn'
  clear hn'
  have wn : IntKind.i64.wrap (n : Int) = n := IntWalk.i64_in _ (by omega)
  go_enter Try.func81, Try.ntmps81
  go_upto_region 2 with fail
  go_loopw [9] (fun v9 wr => ∃ i, v9 = .int .i64 (i : Nat) ∧ i ≤ n ∧ wr = w) (fun v9 _ => n - (intOf v9).toNat)
  case atStart => exact ⟨0, rfl, Nat.zero_le _, rfl⟩
  case round =>
    obtain ⟨i, rfl, hi, rfl⟩ := hrel
    by_cases hlt : i < n
    · have hlt' : (i : Int) < (n : Int) := by omega
      obtain ⟨z, hz⟩ : ∃ z, l[i]? = some z := ⟨_, List.getElem?_eq_getElem (by have := HN.out; omega)⟩
      obtain ⟨h1, h2⟩ := HL.out z (List.mem_of_getElem? hz)
      obtain ⟨a', n', c', e, _, _, h0, hc⟩ := HR.out
      cases e
      obtain ⟨ad, rfl⟩ : ∃ ad, a = some ad := by
        cases a with
        | none => have := h0 rfl; omega
        | some ad => exact ⟨ad, rfl⟩
      have c0 := hc ad rfl i (.int .i64 z) (by unfold intsV; rw [List.getElem?_map, hz]; rfl)
      clear hc h0 hz
      have wi : IntKind.i64.wrap ((i : Int) + 1) = (i : Int) + 1 := IntWalk.i64_in _ (by omega)
      have d1 : decide (z < 0) = false := by simp; omega
      have d2 : decide (most < z) = false := by simp; omega
      go_wp2
      go_roundw
      case rel => exact ⟨i + 1, by go_num, hlt, trivial⟩
      case measure => simp [intOf]; omega
    · have hlt' : (n : Int) ≤ (i : Int) := by omega
      go_wp2
      go_ret
      exact ⟨rfl, rfl⟩
theorem gcheck_ok {g live tombs : Nat} (hg : Pow g) (h : live + tombs ≤ 8 * g) (w : World) : Calls Try.prog 60 #[.int .i64 g, .int .i64 live, .int .i64 tombs] w fun e w' => e = .returned (.int .i64 0) ∧ Pure w w' := by
  have hg1 := hg.le
  have HV := Lib.hid (fun W => PValid_ok g W hg)
  have w8 : IntKind.i64.wrap ((g : Int) * 8) = (g : Int) * 8 := IntWalk.i64_in _ (by omega)
  have wl : IntKind.i64.wrap ((live : Int) + (tombs : Int)) = (live : Int) + (tombs : Int) := IntWalk.i64_in _ (by omega)
  have h1 := heap_new (w := w) (o := .cells #[.int .i64 live, .int .i64 tombs] 3 (0, 0)) rfl
  have hp1 : Pure w (w.alloc (.cells #[.int .i64 live, .int .i64 tombs] 3)) := (Mod.refl _ w).alloc _
  have HW1 := Lib.hid (within_ok (a := some ⟨w.heap.size, 0, none⟩) (c := 2) (l := [(live : Int), (tombs : Int)]) (most := (g : Int) * 8) (ReadAt.of_block 2 2 1 h1 (by rfl) (by simp [intsV, Value.oneCell'])) (by simp; omega) (by simp))
  have HP1 := Lib.hid hp1
  clear h1 hp1 hg
  simp only [List.length_cons, List.length_nil, Nat.zero_add, Nat.reduceAdd] at HW1
  go_enter Try.func60, Try.ntmps60
  go_upto_region 5 with (first
    | (go_at_call 44; refine Calls.mono (HV.out _) ?_; rintro e w' ⟨rfl, rfl⟩)
    | (go_at_call 81; refine Calls.mono HW1.out ?_; rintro e w' ⟨rfl, rfl⟩))
  generalize w.alloc (.cells #[.int .i64 live, .int .i64 tombs] 3) = w1 at *
  have h2 := heap_new (w := w1) (o := .cells #[.int .i64 ((live : Int) + (tombs : Int))] 3 (0, 0)) rfl
  have HW2 := Lib.hid (within_ok (a := some ⟨w1.heap.size, 0, none⟩) (c := 1) (l := [(live : Int) + (tombs : Int)]) (most := (g : Int) * 8) (ReadAt.of_block 1 1 1 h2 (by rfl) (by simp [intsV, Value.oneCell'])) (by simp; omega) (by simp))
  clear h2 HW1
  simp only [List.length_cons, List.length_nil, Nat.zero_add, Nat.reduceAdd] at HW2
  go_wp2_with (go_at_call 81; refine Calls.mono HW2.out ?_; rintro e w' ⟨rfl, rfl⟩)
  go_ret
  exact ⟨rfl, HP1.out.alloc _⟩
theorem limit_ok {g : Nat} (hg : Pow g) (w : World) : Calls Try.prog 68 #[.int .i64 g] w fun e w' => e = .returned (.int .i64 (7 * (g : Int))) ∧ w = w' := by
  have hg1 := hg.le
  have w7 : IntKind.i64.wrap (7 * (g : Int)) = 7 * (g : Int) := IntWalk.i64_in _ (by omega)
  clear hg
  go_enter Try.func68, Try.ntmps68
  go_wp2
  go_ret
  exact ⟨rfl, rfl⟩
theorem gfin {w X Y : World} {b6 : Nat} {u0 u1 v0 v1 : Value} {T : TypeId} (h6 : X.heap[b6]? = some (.cells #[u0, u1] T (0, 0))) (hp : Pure w X) (hb : w.heap.size ≤ b6) (hY : (X.setCell ⟨b6, 0, none⟩ v0).setCell ⟨b6, 1, none⟩ v1 = Y) : Pure w Y ∧ Y.cell? ⟨b6, 0, none⟩ = some v0 ∧ Y.cell? ⟨b6, 1, none⟩ = some v1 := by
  have m2 := heap_set12 (v0 := v0) (v1 := v1) h6
  have hmm : Mod (fun i => i = b6) X ((X.setCell ⟨b6, 0, none⟩ v0).setCell ⟨b6, 1, none⟩ v1) := Mod.set2 b6 0 1 _ _
  rw [hY] at m2 hmm
  exact ⟨hp.then hmm (fun i hi e => by omega), cell_of_row _ b6 0 _ _ _ m2, cell_of_row _ b6 1 _ _ _ m2⟩
/-- What is to be done before a slot number is put in: how many groups, and whether it is made again. -/
def planI (g live tombs : Nat) : Option (Nat × Bool) :=
  if live + tombs < 7 * g then some (g, false) else if 2 * live ≤ 7 * g then some (g, true) else if g < 1048576 then some (2 * g, true) else if live < 7 * g then some (g, true) else none
def planV (o : Option (Nat × Bool)) : Value := match o with
  | some x => .tuple #[.agg #[.int .i64 (x.1 : Nat), .bool x.2], .int .i64 0]
  | none => .tuple #[.agg #[.int .i64 0, .bool false], .int .i64 7]
set_option maxHeartbeats 1000000 in
theorem gInsert_ok {g live tombs : Nat} (hg : Pow g) (h : live + tombs ≤ 8 * g) (w : World) : Calls Try.prog 48 #[.int .i64 g, .int .i64 live, .int .i64 tombs] w fun e w' => e = .returned (planV (planI g live tombs)) ∧ Pure w w' := by
  have hg1 := hg.le
  have HC := Lib.hid (fun W => gcheck_ok hg h W)
  have HLm := Lib.hid (fun W => limit_ok hg W)
  have wl : IntKind.i64.wrap ((live : Int) + (tombs : Int)) = (live : Int) + (tombs : Int) := IntWalk.i64_in _ (by omega)
  have w2 : IntKind.i64.wrap (2 * (live : Int)) = 2 * (live : Int) := IntWalk.i64_in _ (by omega)
  have wg : IntKind.i64.wrap (2 * (g : Int)) = 2 * (g : Int) := IntWalk.i64_in _ (by omega)
  obtain ⟨r, hr⟩ : ∃ r, planI g live tombs = r := ⟨_, rfl⟩
  rw [hr]
  unfold planI at hr
  have HRr := Lib.hid hr
  clear hr hg
  go_enter Try.func48, Try.ntmps48
  go_upto_region 5 with (first
    | (go_at_call 60; refine Calls.mono (HC.out _) ?_; rintro e w1 ⟨rfl, hp1⟩)
    | (go_at_call 68; refine Calls.mono (HLm.out _) ?_; rintro e w' ⟨rfl, rfl⟩))
  have hp0 : Pure w (w.alloc (.cells #[.int .i64 0, .bool false] 68)) := (Mod.refl _ w).alloc _
  have h6 := hp1.heap (fun h => h) (heap_new (w := w) (o := .cells #[.int .i64 0, .bool false] 68 (0, 0)) rfl)
  have HP := Lib.hid (hp0.trans hp1)
  have hle := hp0.size
  clear hp0 hp1 HC HLm
  obtain ⟨b6, hb6⟩ : ∃ b6, w.heap.size = b6 := ⟨_, rfl⟩
  rw [hb6] at h6 ⊢
  have HB6 := Lib.hid hb6
  have hlt6 := lt_of_block h6
  have H6 := Lib.hid h6
  clear hb6 hle
  obtain ⟨rb, hrb⟩ : ∃ rb, decide (7 * (g : Int) ≤ (live : Int) + (tombs : Int)) = rb := ⟨_, rfl⟩
  have h10 := heap_new (w := w1) (o := .cells #[.int .i64 g, .bool rb] 68 (0, 0)) rfl
  have hp10 : Pure w1 (w1.alloc (.cells #[.int .i64 g, .bool rb] 68)) := (Mod.refl _ w1).alloc _
  have h6b := hp10.heap (fun h => h) h6
  have HP2 := Lib.hid (HP.out.trans hp10)
  have hne : w1.heap.size ≠ b6 := by omega
  clear hp10 H6 h6
  have HRB := Lib.hid hrb
  have hsz : w.heap.size ≤ w1.heap.size := Mod.size HP.out
  clear HP
  go_cut [9, 10, 6, 0, 1] (fun v9 v10 v6 v0 v1 wx => v9 = .int .i64 (7 * (g : Int)) ∧ v10 = .pointer (some ⟨w1.heap.size, 0, none⟩) ∧ v6 = .pointer (some ⟨b6, 0, none⟩) ∧ v0 = .int .i64 g ∧ v1 = .int .i64 live ∧ wx = w1.alloc (.cells #[.int .i64 g, .bool rb] 68))
  case first =>
    cases rb with
    | true =>
      have := of_decide_eq_true hrb
      go_wp2
      go_meet
      exact ⟨rfl, rfl, rfl, rfl, rfl, rfl⟩
    | false =>
      have := of_decide_eq_false hrb
      go_wp2
      go_meet
      exact ⟨rfl, rfl, rfl, rfl, rfl, rfl⟩
  case rest =>
    obtain ⟨rfl, rfl, rfl, rfl, rfl, hwc⟩ := hcut
    rw [← hwc] at h10 h6b HP2
    clear hwc hrb
    generalize w1.heap.size = b10 at *
    have hb6 : w.heap.size ≤ b6 := by have := HB6.out; omega
    have h10_0 := cell_of_row _ _ 0 _ _ _ h10; have h10_1 := cell_of_row _ _ 1 _ _ _ h10; have h10_f := (fun j => frozen_of_row _ _ j _ _ h10); have h10_l := lt_of_block h10; simp at h10_0 h10_1; have H_h10 := Lib.hid h10; clear h10
    have h6b_0 := cell_of_row _ _ 0 _ _ _ h6b; have h6b_1 := cell_of_row _ _ 1 _ _ _ h6b; have h6b_f := (fun j => frozen_of_row _ _ j _ _ h6b); have h6b_l := lt_of_block h6b; simp at h6b_0 h6b_1; have H_h6b := Lib.hid h6b; clear h6b
    have hr := HRr.out
    have hrb := HRB.out
    clear HRr HRB
    by_cases c1 : live + tombs < 7 * g
    · rw [if_pos c1] at hr
      have e1 : rb = false := by rw [← hrb]; exact decide_eq_false (by omega)
      subst hr e1
      clear hrb
      go_wp2
      obtain ⟨f1, x0, x1⟩ := gfin (v0 := .int .i64 g) (v1 := .bool false) H_h6b.out HP2.out hb6 rfl
      obtain ⟨Y, hY⟩ : ∃ Y, (wc.setCell ⟨b6, 0, none⟩ (.int .i64 g)).setCell ⟨b6, 1, none⟩ (.bool false) = Y := ⟨_, rfl⟩
      rw [hY] at f1 x0 x1 ⊢
      exact bodyPost_ret (v := .tuple #[.agg #[.int .i64 g, .bool false], .int .i64 0]) (by simp [results, Try.results48, go_sem, x0, x1]) rfl ⟨rfl, f1⟩
    · rw [if_neg c1] at hr
      have e1 : rb = true := by rw [← hrb]; exact decide_eq_true (by omega)
      subst e1
      clear hrb
      by_cases c2 : 2 * live ≤ 7 * g
      · rw [if_pos c2] at hr
        subst hr
        have c2' : 2 * (live : Int) ≤ 7 * (g : Int) := by omega
        go_wp2
        obtain ⟨f1, x0, x1⟩ := gfin (v0 := .int .i64 g) (v1 := .bool true) H_h6b.out HP2.out hb6 rfl
        obtain ⟨Y, hY⟩ : ∃ Y, (wc.setCell ⟨b6, 0, none⟩ (.int .i64 g)).setCell ⟨b6, 1, none⟩ (.bool true) = Y := ⟨_, rfl⟩
        rw [hY] at f1 x0 x1 ⊢
        exact bodyPost_ret (v := .tuple #[.agg #[.int .i64 g, .bool true], .int .i64 0]) (by simp [results, Try.results48, go_sem, x0, x1]) rfl ⟨rfl, f1⟩
      · rw [if_neg c2] at hr
        have d2 : decide (2 * (live : Int) ≤ 7 * (g : Int)) = false := decide_eq_false (by omega)
        by_cases c3 : g < 1048576
        · rw [if_pos c3] at hr
          subst hr
          have d3 : decide ((g : Int) < 1048576) = true := decide_eq_true (by omega)
          clear c1 c2 c3
          go_wp2
          have h6x := (Mod.set1 (w := wc) b10 0 (.int .i64 (2 * (g : Int)))).heap (fun e => hne e.symm) H_h6b.out
          have hpx : Pure w (wc.setCell ⟨b10, 0, none⟩ (.int .i64 (2 * (g : Int)))) := HP2.out.then (Mod.set1 b10 0 _) (fun i hi e => by omega)
          obtain ⟨f1, x0, x1⟩ := gfin (v0 := .int .i64 (2 * (g : Int))) (v1 := .bool true) h6x hpx hb6 rfl
          obtain ⟨Y, hY⟩ : ∃ Y, ((wc.setCell ⟨b10, 0, none⟩ (.int .i64 (2 * (g : Int)))).setCell ⟨b6, 0, none⟩ (.int .i64 (2 * (g : Int)))).setCell ⟨b6, 1, none⟩ (.bool true) = Y := ⟨_, rfl⟩
          rw [hY] at f1 x0 x1 ⊢
          exact bodyPost_ret (v := .tuple #[.agg #[.int .i64 (2 * (g : Int)), .bool true], .int .i64 0]) (by simp [results, Try.results48, go_sem, x0, x1]) rfl ⟨rfl, f1⟩
        · rw [if_neg c3] at hr
          have d3 : decide ((g : Int) < 1048576) = false := decide_eq_false (by omega)
          by_cases c4 : live < 7 * g
          · rw [if_pos c4] at hr
            subst hr
            have d4 : decide ((live : Int) < 7 * (g : Int)) = true := decide_eq_true (by omega)
            clear c1 c2 c3 c4
            go_wp2
            obtain ⟨f1, x0, x1⟩ := gfin (v0 := .int .i64 g) (v1 := .bool true) H_h6b.out HP2.out hb6 rfl
            obtain ⟨Y, hY⟩ : ∃ Y, (wc.setCell ⟨b6, 0, none⟩ (.int .i64 g)).setCell ⟨b6, 1, none⟩ (.bool true) = Y := ⟨_, rfl⟩
            rw [hY] at f1 x0 x1 ⊢
            exact bodyPost_ret (v := .tuple #[.agg #[.int .i64 g, .bool true], .int .i64 0]) (by simp [results, Try.results48, go_sem, x0, x1]) rfl ⟨rfl, f1⟩
          · rw [if_neg c4] at hr
            subst hr
            have d4 : decide ((live : Int) < 7 * (g : Int)) = false := decide_eq_false (by omega)
            clear c1 c2 c3 c4
            go_wp2
            obtain ⟨f1, x0, x1⟩ := gfin (v0 := .int .i64 0) (v1 := .bool false) H_h6b.out HP2.out hb6 rfl
            obtain ⟨Y, hY⟩ : ∃ Y, (wc.setCell ⟨b6, 0, none⟩ (.int .i64 0)).setCell ⟨b6, 1, none⟩ (.bool false) = Y := ⟨_, rfl⟩
            rw [hY] at f1 x0 x1 ⊢
            exact bodyPost_ret (v := .tuple #[.agg #[.int .i64 0, .bool false], .int .i64 7]) (by simp [results, Try.results48, go_sem, x0, x1]) rfl ⟨rfl, f1⟩
end Go.Proofs.Ytapplindfijngaa

/- hash.fold, Mix, Sum. -/
namespace Go.Proofs.Ytapplindfijngaa
open Go.RowKit Go.Shelf
set_option maxRecDepth 100000

/-- One byte more. -/
def foldS (h : Nat) (b : UInt8) : Nat := (h ^^^ b.toNat) * 1099511628211 % 18446744073709551616
def foldM (h : Nat) (l : List UInt8) : Nat := l.foldl foldS h
theorem foldl_step {α β : Type} (f : β → α → β) (h : β) (l : List α) {i : Nat} {b : α} (hb : l[i]? = some b) : (l.take (i + 1)).foldl f h = f ((l.take i).foldl f h) b := by
  rw [List.take_add_one, hb, List.foldl_append]
  rfl
theorem foldM_step (h : Nat) (l : List UInt8) {i : Nat} {b : UInt8} (hb : l[i]? = some b) : foldM h (l.take (i + 1)) = foldS (foldM h (l.take i)) b := by
  unfold foldM
  exact foldl_step foldS h l hb
theorem foldS_lt (h : Nat) (b : UInt8) : foldS h b < 18446744073709551616 := Nat.mod_lt _ (by decide)
theorem foldM_lt {h : Nat} (hh : h < 18446744073709551616) : ∀ l : List UInt8, foldM h l < 18446744073709551616
  | [] => hh
  | b :: l => foldM_lt (foldS_lt h b) l
def mix5 (w : Nat) : Nat := 5 * (w ^^^ (w / 536870912)) % 18446744073709551616
def mixM (w : Nat) : Nat := mix5 w ^^^ (mix5 w / 4294967296)
theorem mix5_lt (w : Nat) : mix5 w < 18446744073709551616 := Nat.mod_lt _ (by decide)
def sumS (seed : Nat) (same : Bool) (key : ByteArray) : Nat := mixM (foldM seed (if same then [] else key.data.toList))
set_option maxHeartbeats 1000000 in
theorem fold_ok (h : Nat) (hh : h < 18446744073709551616) (key : ByteArray) (hk : key.size ≤ 140737488355328) (w : World) : Calls Try.prog 56 #[.int .u64 h, .string key] w fun e w' => e = .returned (.int .u64 (foldM h key.data.toList : Nat)) ∧ w = w' := by
  obtain ⟨n, hn⟩ : ∃ n, key.size = n := ⟨_, rfl⟩
  have HN := Lib.hid hn
  have hn2 : n ≤ 140737488355328 := by omega
  obtain ⟨res, hres⟩ : ∃ res, foldM h key.data.toList = res := ⟨_, rfl⟩
  rw [hres]
  clear hk
  have wn : IntKind.i64.wrap (n : Int) = n := IntWalk.i64_in _ (by omega)
  go_enter Try.func56, Try.ntmps56
  go_upto_region 2 with fail
  go_loopw [0, 8] (fun v0 v8 wr => ∃ i, v0 = .int .u64 (foldM h (key.data.toList.take i) : Nat) ∧ v8 = .int .i64 (i : Nat) ∧ i ≤ n ∧ wr = w) (fun _ v8 _ => n - (intOf v8).toNat)
  case atStart => exact ⟨0, by rw [List.take_zero, foldM, List.foldl_nil], rfl, Nat.zero_le _, rfl⟩
  case round =>
    obtain ⟨i, rfl, rfl, hi, rfl⟩ := hrel
    have hlen : key.data.toList.length = n := by rw [← hn]; rfl
    by_cases hlt : i < n
    · have hlt' : (i : Int) < (n : Int) := by omega
      obtain ⟨b, hb⟩ : ∃ b, key.data.toList[i]? = some b := ⟨_, List.getElem?_eq_getElem (by omega)⟩
      have htk := foldM_step h key.data.toList hb
      have hq := foldM_lt hh (key.data.toList.take i)
      have hq2 := foldS_lt (foldM h (key.data.toList.take i)) b
      have HTK := Lib.hid htk
      clear htk
      generalize foldM h (key.data.toList.take i) = q at *
      have wi : IntKind.i64.wrap ((i : Int) + 1) = (i : Int) + 1 := IntWalk.i64_in _ (by omega)
      have hki : i < key.size := by omega
      have hkb : (key[i]'hki).toNat = b.toNat := by
        have := List.getElem?_eq_some_iff.1 hb
        obtain ⟨h1, h2⟩ := this
        rw [← h2]
        exact congrArg UInt8.toNat rfl
      have hb256 : b.toNat < 256 := UInt8.toNat_lt b
      have e1 : IntKind.u64.wrap (b.toNat : Int) = (b.toNat : Int) := u64_wrap _ (by omega)
      have e2 : bits .xor .u64 (q : Int) (b.toNat : Int) = ((q ^^^ b.toNat : Nat) : Int) := bits_xor64 _ _ hq (by omega)
      have e3 : IntKind.u64.wrap (((q ^^^ b.toNat : Nat) : Int) * 1099511628211) = ((foldS q b : Nat) : Int) := by
        unfold foldS
        rw [← u64_mod]
        simp
      generalize foldS q b = r at *
      generalize q ^^^ b.toNat = xx at *
      clear hb
      generalize b.toNat = kb at *
      clear hh hq hq2
      go_upto_region 5 with fail
      go_wp2
      go_roundw
      case rel => exact ⟨i + 1, by rw [HTK.out], by go_num, hlt, trivial⟩
      case measure => simp [intOf]; omega
    · have hlt' : (n : Int) ≤ (i : Int) := by omega
      have htk : key.data.toList.take i = key.data.toList := List.take_of_length_le (by omega)
      rw [htk, hres]
      go_wp2
      go_ret
      exact ⟨rfl, rfl⟩
theorem Mix_ok (n : Nat) (hn : n < 18446744073709551616) (w : World) : Calls Try.prog 55 #[.int .u64 n] w fun e w' => e = .returned (.int .u64 (mixM n : Nat)) ∧ w = w' := by
  have h29 : n / 536870912 < 18446744073709551616 := Nat.lt_of_le_of_lt (Nat.div_le_self _ _) hn
  have e1 : bits .xor .u64 (n : Int) ((n : Int) / 536870912) = ((n ^^^ (n / 536870912) : Nat) : Int) := bits_xor64 _ _ hn h29
  have e2 : IntKind.u64.wrap (5 * ((n ^^^ (n / 536870912) : Nat) : Int)) = ((mix5 n : Nat) : Int) := by
    unfold mix5
    rw [← u64_mod]
    simp
  have h5 := mix5_lt n
  have h32 : mix5 n / 4294967296 < 18446744073709551616 := Nat.lt_of_le_of_lt (Nat.div_le_self _ _) h5
  have e3 : bits .xor .u64 ((mix5 n : Nat) : Int) (((mix5 n : Nat) : Int) / 4294967296) = ((mixM n : Nat) : Int) := bits_xor64 _ _ h5 h32
  generalize mixM n = r at *
  generalize mix5 n = q at *
  generalize n ^^^ (n / 536870912) = z at *
  have n0 : (0 : Int) ≤ n := by omega
  have q0 : (0 : Int) ≤ q := by omega
  go_enter Try.func55, Try.ntmps55
  go_wp2
  go_ret
  exact ⟨by simp [*], rfl⟩
end Go.Proofs.Ytapplindfijngaa
