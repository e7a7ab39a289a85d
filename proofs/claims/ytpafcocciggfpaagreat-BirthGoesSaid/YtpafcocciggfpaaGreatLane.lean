/- Words of eight lanes, lane by lane, in plain numbers. No program. -/
import Derived.Test.YtpafcocciggfpaaGreatBase
namespace Go.Proofs.YtpafcocciggfpaaGreat
open Go.RowKit
set_option maxRecDepth 100000

/-- The word with these lanes, the lowest first. -/
def word8 : List Nat → Nat
  | [] => 0
  | b :: l => 256 * word8 l + b
/-- The set of the lanes for which the list says true. -/
def mask : List Bool → Nat
  | [] => 0
  | b :: l => 2 * mask l + b.toNat

def Bytes8 (l : List Nat) : Prop := l.length = 8 ∧ ∀ c ∈ l, c < 256

theorem op_split (f : Nat → Nat → Nat) (g : Bool → Bool → Bool) (hf : ∀ a b i, (f a b).testBit i = g (a.testBit i) (b.testBit i)) (hlt : ∀ a b, a < 2 ^ 8 → b < 2 ^ 8 → f a b < 2 ^ 8) (a b x y : Nat) (ha : a < 256) (hb : b < 256) :
    f (256 * x + a) (256 * y + b) = 256 * f x y + f a b := by
  apply Nat.eq_of_testBit_eq
  intro i
  have e : (256 : Nat) = 2 ^ 8 := rfl
  rw [hf, e, Nat.testBit_two_pow_mul_add x ha i, Nat.testBit_two_pow_mul_add y hb i, Nat.testBit_two_pow_mul_add (f x y) (hlt a b ha hb) i]
  split <;> rw [hf]
theorem word8_op (f : Nat → Nat → Nat) (g : Bool → Bool → Bool) (h00 : f 0 0 = 0) (hf : ∀ a b i, (f a b).testBit i = g (a.testBit i) (b.testBit i)) (hlt : ∀ a b, a < 2 ^ 8 → b < 2 ^ 8 → f a b < 2 ^ 8) (s t : Nat → Nat) :
    ∀ l : List Nat, (∀ c ∈ l, s c < 256) → (∀ c ∈ l, t c < 256) → f (word8 (l.map s)) (word8 (l.map t)) = word8 (l.map (fun c => f (s c) (t c)))
  | [], _, _ => h00
  | c :: l, hs, ht => by
    simp only [List.map_cons, word8]
    rw [op_split f g hf hlt _ _ _ _ (hs c (by simp)) (ht c (by simp)), word8_op f g h00 hf hlt s t l (fun c h => hs c (by simp [h])) (fun c h => ht c (by simp [h]))]
theorem word8_xor (s t : Nat → Nat) (l : List Nat) (hs : ∀ c ∈ l, s c < 256) (ht : ∀ c ∈ l, t c < 256) : word8 (l.map s) ^^^ word8 (l.map t) = word8 (l.map (fun c => s c ^^^ t c)) :=
  word8_op (· ^^^ ·) Bool.xor rfl Nat.testBit_xor (fun _ _ => Nat.xor_lt_two_pow) s t l hs ht
theorem word8_and (s t : Nat → Nat) (l : List Nat) (hs : ∀ c ∈ l, s c < 256) (ht : ∀ c ∈ l, t c < 256) : word8 (l.map s) &&& word8 (l.map t) = word8 (l.map (fun c => s c &&& t c)) :=
  word8_op (· &&& ·) and rfl Nat.testBit_and (fun a b ha _ => Nat.lt_of_le_of_lt Nat.and_le_left ha) s t l hs ht
theorem word8_or (s t : Nat → Nat) (l : List Nat) (hs : ∀ c ∈ l, s c < 256) (ht : ∀ c ∈ l, t c < 256) : word8 (l.map s) ||| word8 (l.map t) = word8 (l.map (fun c => s c ||| t c)) :=
  word8_op (· ||| ·) or rfl Nat.testBit_or (fun _ _ => Nat.or_lt_two_pow) s t l hs ht
theorem word8_add (s t : Nat → Nat) : ∀ l : List Nat, word8 (l.map s) + word8 (l.map t) = word8 (l.map (fun c => s c + t c))
  | [] => rfl
  | c :: l => by simp only [List.map_cons, word8]; rw [← word8_add s t l]; omega
theorem word8_lt : ∀ l : List Nat, (∀ c ∈ l, c < 256) → word8 l < 256 ^ l.length
  | [], _ => by simp [word8]
  | c :: l, h => by
    have h1 := word8_lt l (fun c hc => h c (by simp [hc]))
    have h2 := h c (by simp)
    simp only [word8, List.length_cons, Nat.pow_succ]
    omega
theorem Bytes8.lt {l : List Nat} (h : Bytes8 l) : word8 l < 18446744073709551616 := by have := word8_lt l h.2; rw [h.1] at this; simpa using this
theorem Bytes8.map {l : List Nat} (h : Bytes8 l) {s : Nat → Nat} (hs : ∀ c, c < 256 → s c < 256) : Bytes8 (l.map s) := ⟨by simp [h.1], fun c hc => by obtain ⟨a, ha, rfl⟩ := List.mem_map.1 hc; exact hs a (h.2 a ha)⟩
theorem word8_const (k : Nat) {l : List Nat} (h : l.length = 8) : word8 (l.map (fun _ => k)) = 72340172838076673 * k := by
  have : l.map (fun _ => k) = [k, k, k, k, k, k, k, k] := by
    rw [show (fun _ : Nat => k) = Function.const Nat k from rfl, List.map_const, h]; rfl
  rw [this]; simp only [word8]; omega
theorem Bytes8.eight {l : List Nat} (h : Bytes8 l) : ∃ a b c d e f g i, l = [a, b, c, d, e, f, g, i] := by
  obtain ⟨hl, _⟩ := h
  match l, hl with
  | [a, b, c, d, e, f, g, i], _ => exact ⟨a, b, c, d, e, f, g, i, rfl⟩
theorem eight_of {α : Type} {l : List α} (hl : l.length = 8) : ∃ a b c d e f g i, l = [a, b, c, d, e, f, g, i] := by
  match l, hl with
  | [a, b, c, d, e, f, g, i], _ => exact ⟨a, b, c, d, e, f, g, i, rfl⟩

/-! ### the two bit tricks -/
theorem trick_zero : ∀ x < 256, 255 ^^^ ((((x &&& 127) + 127) ||| x) ||| 127) = if x = 0 then 128 else 0 := by decide +kernel
theorem xor_zero {a b : Nat} (h : a ^^^ b = 0) : a = b := by
  apply Nat.eq_of_testBit_eq
  intro i
  have : (a ^^^ b).testBit i = false := by rw [h]; simp
  rw [Nat.testBit_xor] at this
  cases ha : a.testBit i <;> cases hb : b.testBit i <;> simp [ha, hb] at this <;> rfl
/-- What Match hands to gather. -/
theorem match_word {l : List Nat} (h : Bytes8 l) (b : Nat) (hb : b < 256) :
    18446744073709551615 ^^^ (((((word8 l ^^^ (72340172838076673 * b)) &&& 9187201950435737471) + 9187201950435737471) ||| (word8 l ^^^ (72340172838076673 * b))) ||| 9187201950435737471) =
      word8 (l.map (fun c => if c = b then 128 else 0)) := by
  have hx : ∀ c ∈ l, c ^^^ b < 256 := fun c hc => Nat.xor_lt_two_pow (n := 8) (h.2 c hc) hb
  have ha : ∀ c ∈ l, (c ^^^ b) &&& 127 < 128 := fun c hc => by have : (c ^^^ b) &&& 127 ≤ 127 := Nat.and_le_right; omega
  have h1 : word8 l ^^^ (72340172838076673 * b) = word8 (l.map (fun c => c ^^^ b)) := by
    have := word8_xor id (fun _ => b) l (by simpa using h.2) (fun _ _ => hb)
    rwa [word8_const b h.1, List.map_id] at this
  have k127 : (9187201950435737471 : Nat) = word8 (l.map (fun _ => 127)) := by rw [word8_const 127 h.1]
  have k255 : (18446744073709551615 : Nat) = word8 (l.map (fun _ => 255)) := by rw [word8_const 255 h.1]
  rw [h1, k127, k255, word8_and _ _ _ hx (fun _ _ => by omega), word8_add, word8_or _ _ _ (fun c hc => by have := ha c hc; omega) hx,
    word8_or _ _ _ (fun c hc => Nat.or_lt_two_pow (n := 8) (by have := ha c hc; omega) (hx c hc)) (fun _ _ => by omega),
    word8_xor _ _ _ (fun _ _ => by omega) (fun c hc => Nat.or_lt_two_pow (n := 8) (Nat.or_lt_two_pow (n := 8) (by have := ha c hc; omega) (hx c hc)) (by omega))]
  congr 1
  apply List.map_congr_left
  intro c hc
  rw [trick_zero _ (hx c hc)]
  by_cases e : c = b
  · subst e; simp
  · rw [if_neg e, if_neg (fun h => e (xor_zero h))]
theorem match_small {l : List Nat} (h : Bytes8 l) (b : Nat) (hb : b < 256) :
    (((word8 l ^^^ (72340172838076673 * b)) &&& 9187201950435737471) + 9187201950435737471) < 18446744073709551616 := by
  have : (word8 l ^^^ (72340172838076673 * b)) &&& 9187201950435737471 ≤ 9187201950435737471 := Nat.and_le_right
  omega
theorem word8_map_bool {l : List Nat} (p : Nat → Bool) : l.map (fun c => if p c then 128 else 0) = (l.map p).map (fun b => if b then 128 else 0) := by
  rw [List.map_map]; rfl
theorem gather_all : ∀ a b c d e f g i : Bool, (word8 ([a, b, c, d, e, f, g, i].map (fun b => if b then 128 else 0)) / 128 * 72624976668147840 % 18446744073709551616) / 72057594037927936 % 256 = mask [a, b, c, d, e, f, g, i] := by decide +kernel
theorem gather_mask {p : List Bool} (h : p.length = 8) : (word8 (p.map (fun b => if b then 128 else 0)) / 128 * 72624976668147840 % 18446744073709551616) / 72057594037927936 % 256 = mask p := by
  obtain ⟨a, b, c, d, e, f, g, i, rfl⟩ := eight_of h
  exact gather_all a b c d e f g i
theorem high_word {l : List Nat} (h : Bytes8 l) : word8 l &&& 9259542123273814144 = word8 (l.map (fun c => if decide (128 ≤ c) then 128 else 0)) := by
  have k : (9259542123273814144 : Nat) = word8 (l.map (fun _ => 128)) := by rw [word8_const 128 h.1]
  have := word8_and id (fun _ => 128) l (by simpa using h.2) (fun _ _ => by omega)
  rw [List.map_id] at this
  rw [k, this]
  congr 1
  apply List.map_congr_left
  intro c hc
  have : ∀ c < 256, c &&& 128 = if decide (128 ≤ c) then 128 else 0 := by decide +kernel
  exact this c (h.2 c hc)
end Go.Proofs.YtpafcocciggfpaaGreat
