/- The model's bit operations on plain numbers; sets of lanes. -/
import Derived.Test.YtpafcocciggfpaaGreatLane
namespace Go.Proofs.YtpafcocciggfpaaGreat
open Go.RowKit
set_option maxRecDepth 100000

theorem u64_wrap (n : Nat) (h : n < 18446744073709551616) : IntKind.u64.wrap (n : Int) = n := by
  simp [IntKind.wrap, IntKind.signed, IntKind.bits]; omega
theorem u8_wrap (n : Nat) (h : n < 256) : IntKind.u8.wrap (n : Int) = n := by
  simp [IntKind.wrap, IntKind.signed, IntKind.bits]; omega
theorem ofInt_nat (k : Nat) (n : Nat) : BitVec.ofInt k (n : Int) = BitVec.ofNat k n := by
  apply BitVec.eq_of_toNat_eq
  simp [BitVec.toNat_ofInt]
theorem bits_xor64 (a b : Nat) (ha : a < 18446744073709551616) (hb : b < 18446744073709551616) : bits .xor .u64 (a : Int) (b : Int) = ((a ^^^ b : Nat) : Int) := by
  have h : a ^^^ b < 2 ^ 64 := Nat.xor_lt_two_pow ha hb
  show IntKind.u64.wrap (((BitVec.ofInt 64 (a : Int) ^^^ BitVec.ofInt 64 (b : Int)).toNat : Nat) : Int) = _
  rw [ofInt_nat, ofInt_nat]
  rw [BitVec.toNat_xor, BitVec.toNat_ofNat, BitVec.toNat_ofNat, Nat.mod_eq_of_lt (by omega), Nat.mod_eq_of_lt (by omega)]
  exact u64_wrap _ (by omega)
theorem bits_and64 (a b : Nat) (ha : a < 18446744073709551616) (hb : b < 18446744073709551616) : bits .and .u64 (a : Int) (b : Int) = ((a &&& b : Nat) : Int) := by
  have h : a &&& b < 2 ^ 64 := Nat.and_lt_two_pow _ hb
  show IntKind.u64.wrap (((BitVec.ofInt 64 (a : Int) &&& BitVec.ofInt 64 (b : Int)).toNat : Nat) : Int) = _
  rw [ofInt_nat, ofInt_nat]
  rw [BitVec.toNat_and, BitVec.toNat_ofNat, BitVec.toNat_ofNat, Nat.mod_eq_of_lt (by omega), Nat.mod_eq_of_lt (by omega)]
  exact u64_wrap _ (by omega)
theorem bits_or64 (a b : Nat) (ha : a < 18446744073709551616) (hb : b < 18446744073709551616) : bits .or .u64 (a : Int) (b : Int) = ((a ||| b : Nat) : Int) := by
  have h : a ||| b < 2 ^ 64 := Nat.or_lt_two_pow ha hb
  show IntKind.u64.wrap (((BitVec.ofInt 64 (a : Int) ||| BitVec.ofInt 64 (b : Int)).toNat : Nat) : Int) = _
  rw [ofInt_nat, ofInt_nat]
  rw [BitVec.toNat_or, BitVec.toNat_ofNat, BitVec.toNat_ofNat, Nat.mod_eq_of_lt (by omega), Nat.mod_eq_of_lt (by omega)]
  exact u64_wrap _ (by omega)
theorem bits_or8 (a b : Nat) (ha : a < 256) (hb : b < 256) : bits .or .u8 (a : Int) (b : Int) = ((a ||| b : Nat) : Int) := by
  have h : a ||| b < 2 ^ 8 := Nat.or_lt_two_pow ha hb
  show IntKind.u8.wrap (((BitVec.ofInt 8 (a : Int) ||| BitVec.ofInt 8 (b : Int)).toNat : Nat) : Int) = _
  rw [ofInt_nat, ofInt_nat]
  rw [BitVec.toNat_or, BitVec.toNat_ofNat, BitVec.toNat_ofNat, Nat.mod_eq_of_lt (by omega), Nat.mod_eq_of_lt (by omega)]
  exact u8_wrap _ (by omega)
theorem bits_and8 (a b : Nat) (ha : a < 256) (hb : b < 256) : bits .and .u8 (a : Int) (b : Int) = ((a &&& b : Nat) : Int) := by
  have h : a &&& b < 2 ^ 8 := Nat.and_lt_two_pow _ hb
  show IntKind.u8.wrap (((BitVec.ofInt 8 (a : Int) &&& BitVec.ofInt 8 (b : Int)).toNat : Nat) : Int) = _
  rw [ofInt_nat, ofInt_nat]
  rw [BitVec.toNat_and, BitVec.toNat_ofNat, BitVec.toNat_ofNat, Nat.mod_eq_of_lt (by omega), Nat.mod_eq_of_lt (by omega)]
  exact u8_wrap _ (by omega)
theorem bits_xor8 (a b : Nat) (ha : a < 256) (hb : b < 256) : bits .xor .u8 (a : Int) (b : Int) = ((a ^^^ b : Nat) : Int) := by
  have h : a ^^^ b < 2 ^ 8 := Nat.xor_lt_two_pow ha hb
  show IntKind.u8.wrap (((BitVec.ofInt 8 (a : Int) ^^^ BitVec.ofInt 8 (b : Int)).toNat : Nat) : Int) = _
  rw [ofInt_nat, ofInt_nat]
  rw [BitVec.toNat_xor, BitVec.toNat_ofNat, BitVec.toNat_ofNat, Nat.mod_eq_of_lt (by omega), Nat.mod_eq_of_lt (by omega)]
  exact u8_wrap _ (by omega)
theorem bits_andNot64 (a b c : Nat) (ha : a < 18446744073709551616) (hb : b < 18446744073709551616) (hc : c = 18446744073709551615 - b) : bits .andNot .u64 (a : Int) (b : Int) = ((a &&& c : Nat) : Int) := by
  subst hc
  have h : a &&& (18446744073709551615 - b) < 2 ^ 64 := Nat.lt_of_le_of_lt Nat.and_le_left ha
  show IntKind.u64.wrap (((BitVec.ofInt 64 (a : Int) &&& ~~~ BitVec.ofInt 64 (b : Int)).toNat : Nat) : Int) = _
  rw [ofInt_nat, ofInt_nat]
  rw [BitVec.toNat_and, BitVec.toNat_not, BitVec.toNat_ofNat, BitVec.toNat_ofNat, Nat.mod_eq_of_lt (a := a) (by omega), Nat.mod_eq_of_lt (a := b) (by omega)]
  exact u64_wrap _ (by simpa using h)
theorem not_u64 : (if IntKind.u64.signed = true then (-1 : Int) else IntKind.u64.max) = ((18446744073709551615 : Nat) : Int) := by decide
theorem not_u8 : (if IntKind.u8.signed = true then (-1 : Int) else IntKind.u8.max) = ((255 : Nat) : Int) := by decide

/-! ### sets of lanes -/
theorem mask_lt {p : List Bool} (h : p.length = 8) : mask p < 256 := by
  obtain ⟨a, b, c, d, e, f, g, i, rfl⟩ := eight_of h
  have : ∀ a b c d e f g i : Bool, mask [a, b, c, d, e, f, g, i] < 256 := by decide +kernel
  exact this ..
theorem mask_not {p : List Bool} (h : p.length = 8) : 255 ^^^ mask p = mask (p.map not) := by
  obtain ⟨a, b, c, d, e, f, g, i, rfl⟩ := eight_of h
  have : ∀ a b c d e f g i : Bool, 255 ^^^ mask [a, b, c, d, e, f, g, i] = mask ([a, b, c, d, e, f, g, i].map not) := by decide +kernel
  exact this ..
theorem mask_zero {p : List Bool} (h : p.length = 8) : decide (mask p = 0) = !p.any id := by
  obtain ⟨a, b, c, d, e, f, g, i, rfl⟩ := eight_of h
  have : ∀ a b c d e f g i : Bool, decide (mask [a, b, c, d, e, f, g, i] = 0) = !([a, b, c, d, e, f, g, i].any id) := by decide +kernel
  exact this ..
theorem mask_full {p : List Bool} (h : p.length = 8) : decide (mask p = 255) = p.all id := by
  obtain ⟨a, b, c, d, e, f, g, i, rfl⟩ := eight_of h
  have : ∀ a b c d e f g i : Bool, decide (mask [a, b, c, d, e, f, g, i] = 255) = ([a, b, c, d, e, f, g, i].all id) := by decide +kernel
  exact this ..
theorem mask_bit {p : List Bool} (h : p.length = 8) (j : Nat) (hj : j < 8) : mask p / 2 ^ j &&& 1 = (p.getD j false).toNat := by
  obtain ⟨a, b, c, d, e, f, g, i, rfl⟩ := eight_of h
  have : ∀ a b c d e f g i : Bool, ∀ j < 8, mask [a, b, c, d, e, f, g, i] / 2 ^ j &&& 1 = ([a, b, c, d, e, f, g, i].getD j false).toNat := by decide +kernel
  exact this _ _ _ _ _ _ _ _ j hj
theorem mask_or : ∀ (l : List Nat) (s t : Nat → Bool), mask (l.map s) ||| mask (l.map t) = mask (l.map (fun c => s c || t c))
  | [], _, _ => by simp [mask]
  | c :: l, s, t => by
    simp only [List.map_cons, mask]
    rw [← mask_or l s t]
    apply Nat.eq_of_testBit_eq
    intro i
    have hb : ∀ b : Bool, b.toNat < 2 ^ 1 := fun b => by cases b <;> decide
    have e : ∀ (x : Nat) (b : Bool), 2 * x + b.toNat = 2 ^ 1 * x + b.toNat := fun _ _ => rfl
    rw [Nat.testBit_or, e, e, e, Nat.testBit_two_pow_mul_add _ (hb _), Nat.testBit_two_pow_mul_add _ (hb _), Nat.testBit_two_pow_mul_add _ (hb _)]
    split
    · have : i = 0 := by omega
      subst this
      cases s c <;> cases t c <;> rfl
    · rw [Nat.testBit_or]

/-- The lanes of a set, in order. -/
def lanesOf (m : Nat) : List Nat := (List.range 8).filter m.testBit
/-- The first lane of a set, or 8. -/
def lane1 (m : Nat) : Nat := (lanesOf m).headD 8
theorem lanes_mask {p : List Bool} (h : p.length = 8) : lanesOf (mask p) = (List.range 8).filter (fun i => p.getD i false) := by
  obtain ⟨a, b, c, d, e, f, g, i, rfl⟩ := eight_of h
  have : ∀ a b c d e f g i : Bool, lanesOf (mask [a, b, c, d, e, f, g, i]) = (List.range 8).filter (fun j => [a, b, c, d, e, f, g, i].getD j false) := by decide +kernel
  exact this ..
theorem lanes_step : ∀ m < 256, m ≠ 0 → lanesOf m = lane1 m :: lanesOf (m &&& (m - 1)) ∧ lane1 m < 8 ∧ m &&& (m - 1) < m := by decide +kernel
theorem first_le : ∀ m < 256, lane1 m ≤ 8 := by decide +kernel
theorem lanes_zero : lanesOf 0 = [] := by decide
theorem first_mask {p : List Bool} (h : p.length = 8) : lane1 (mask p) = p.findIdx id := by
  obtain ⟨a, b, c, d, e, f, g, i, rfl⟩ := eight_of h
  have : ∀ a b c d e f g i : Bool, lane1 (mask [a, b, c, d, e, f, g, i]) = [a, b, c, d, e, f, g, i].findIdx id := by decide +kernel
  exact this ..

/-! ### one lane -/
theorem word8_range {l : List Nat} (h : l.length = 8) : word8 l = word8 ((List.range 8).map (fun i => l.getD i 0)) := by
  obtain ⟨a, b, c, d, e, f, g, i, rfl⟩ := eight_of h
  rfl
theorem keep_word : ∀ j < 8, 18446744073709551615 - 255 * 2 ^ (8 * j) = word8 ((List.range 8).map (fun i => if i = j then 0 else 255)) := by decide +kernel
theorem put_word (b : Nat) : ∀ j < 8, b * 2 ^ (8 * j) = word8 ((List.range 8).map (fun i => if i = j then b else 0)) := by
  intro j hj
  have : j = 0 ∨ j = 1 ∨ j = 2 ∨ j = 3 ∨ j = 4 ∨ j = 5 ∨ j = 6 ∨ j = 7 := by omega
  rcases this with rfl | rfl | rfl | rfl | rfl | rfl | rfl | rfl <;> simp [List.range_succ, word8] <;> omega
theorem with_word {l : List Nat} (h : Bytes8 l) (j b : Nat) (hj : j < 8) (hb : b < 256) : (word8 l &&& (18446744073709551615 - 255 * 2 ^ (8 * j))) ||| b * 2 ^ (8 * j) = word8 (l.set j b) := by
  have hg : ∀ i, l.getD i 0 < 256 := fun i => by
    rw [List.getD_eq_getElem?_getD]
    cases hi : l[i]? with
    | none => simp
    | some c => exact h.2 c (List.mem_of_getElem? hi)
  rw [keep_word j hj, put_word b j hj, word8_range h.1, word8_and _ _ _ (fun i _ => hg i) (fun i _ => by split <;> omega),
    word8_or _ _ _ (fun i _ => Nat.lt_of_le_of_lt Nat.and_le_left (hg i)) (fun i _ => by split <;> omega), word8_range (l := l.set j b) (by simp [h.1])]
  congr 1
  apply List.map_congr_left
  intro i hi
  have hi : i < 8 := by simpa using hi
  have h255 : ∀ c < 256, c &&& 255 = c := by decide +kernel
  simp only [List.getD_eq_getElem?_getD, List.getElem?_set]
  by_cases e : i = j
  · subst e; simp [h.1, hj]
  · rw [if_neg e, if_neg e, if_neg (fun x => e x.symm), Nat.or_zero, h255 _ (by have := hg i; rwa [List.getD_eq_getElem?_getD] at this)]
theorem word8_lane : ∀ (l : List Nat) (_ : ∀ c ∈ l, c < 256) (j : Nat), word8 l / 2 ^ (8 * j) % 256 = l.getD j 0
  | [], _, j => by simp [word8]
  | c :: l, h, 0 => by have := h c (by simp); simp [word8]; omega
  | c :: l, h, j + 1 => by
    have := h c (by simp)
    have e : 2 ^ (8 * (j + 1)) = 256 * 2 ^ (8 * j) := by rw [Nat.mul_add, Nat.pow_add]; omega
    rw [e, ← Nat.div_div_eq_div_mul]
    have e2 : word8 (c :: l) / 256 = word8 l := by simp only [word8]; omega
    rw [e2, word8_lane l (fun c hc => h c (by simp [hc])) j]
    rfl
end Go.Proofs.YtpafcocciggfpaaGreat
