/- slices.BinarySearch of uint32, Moves.To, From, Len and the law's to, from, lens. Conditions: an owned row of rising numbers. -/
import Derived.Test.YtbjiebhbmpafpaaCompact
namespace Go.Proofs.Ytbjiebhbmpafpaa
open Go.RowKit Go.Shelf
set_option maxRecDepth 100000

/-! ### cmp.Less, slices.BinarySearch -/
theorem isNaN_cmp (a : Nat) (w : World) : Calls Try.prog 147 #[.int .u32 a] w fun e w' => e = .returned (.bool false) ∧ w = w' := by
  go_enter Try.func147, Try.ntmps147
  go_wp2
  go_ret
  exact ⟨by simp, rfl⟩
theorem isNaN_slices (a : Nat) (w : World) : Calls Try.prog 136 #[.int .u32 a] w fun e w' => e = .returned (.bool false) ∧ w = w' := by
  go_enter Try.func136, Try.ntmps136
  go_wp2
  go_ret
  exact ⟨by simp, rfl⟩
theorem less_u32 (a b : Nat) (w : World) : Calls Try.prog 135 #[.int .u32 a, .int .u32 b] w fun e w' => e = .returned (.bool (decide (a < b))) ∧ w = w' := by
  go_enter Try.func135, Try.ntmps135
  go_wp2_with (first
    | (go_at_call 147; refine Calls.mono (isNaN_cmp _ _) ?_; rintro e w1 ⟨rfl, rfl⟩)
    | go_in)
  go_ret
  exact ⟨by simp, rfl⟩

/-- Strictly rising numbers below 2^32, not too many. -/
structure Rising (xs : List Nat) : Prop where
  up : xs.Pairwise (· < ·)
  lt : ∀ x ∈ xs, x ≤ 4294967295
  len : xs.length ≤ 4194304
def u32s (xs : List Nat) : List Value := xs.map (fun x : Nat => (.int .u32 x : Value))
/-- How many are below o. -/
def below (xs : List Nat) (o : Nat) : Nat := xs.countP (decide <| · < o)

theorem below_of {xs : List Nat} (h : xs.Pairwise (· < ·)) {o i : Nat} (hi : i ≤ xs.length) (h1 : ∀ k x, k < i → xs[k]? = some x → x < o) (h2 : ∀ k x, i ≤ k → xs[k]? = some x → o ≤ x) : below xs o = i := by
  unfold below
  rw [← List.take_append_drop i xs, List.countP_append]
  have e1 : (xs.take i).countP (decide <| · < o) = i := by
    rw [List.countP_eq_length.2, List.length_take]
    · omega
    · intro x hx
      obtain ⟨k, hk, rfl⟩ := List.mem_iff_getElem.1 hx
      simp at hk
      simpa using h1 k _ (by omega) (by simp [List.getElem?_eq_getElem (show k < xs.length by omega)])
  have e2 : (xs.drop i).countP (decide <| · < o) = 0 := by
    rw [List.countP_eq_zero]
    intro x hx
    obtain ⟨k, hk, rfl⟩ := List.mem_iff_getElem.1 hx
    simp at hk
    have := h2 (i + k) _ (by omega) (List.getElem?_eq_getElem (by omega))
    simp
    omega
  omega
theorem rising_lt {xs : List Nat} (h : xs.Pairwise (· < ·)) {i j x y : Nat} (hij : i < j) (hx : xs[i]? = some x) (hy : xs[j]? = some y) : x < y := by
  obtain ⟨h1, rfl⟩ := List.getElem?_eq_some_iff.1 hx
  obtain ⟨h2, rfl⟩ := List.getElem?_eq_some_iff.1 hy
  exact List.pairwise_iff_getElem.1 h _ _ h1 h2 hij
theorem rising_mem {xs : List Nat} {o i : Nat} (hi : i ≤ xs.length) (h1 : ∀ k x, k < i → xs[k]? = some x → x < o) (h2 : ∀ k x, i ≤ k → xs[k]? = some x → o ≤ x) (h : xs.Pairwise (· < ·)) : o ∈ xs ↔ xs[i]? = some o := by
  refine ⟨fun hm => ?_, fun e => List.mem_of_getElem? e⟩
  obtain ⟨k, hk, rfl⟩ := List.mem_iff_getElem.1 hm
  have e := List.getElem?_eq_getElem hk
  by_cases hki : k < i
  · have := h1 k _ hki e; omega
  · by_cases hik : i < k
    · have hi2 : i < xs.length := by omega
      have := rising_lt h hik (List.getElem?_eq_getElem hi2) e
      have := h2 i _ (Nat.le_refl _) (List.getElem?_eq_getElem hi2)
      omega
    · obtain rfl : i = k := by omega
      exact e

def SearchInv (w : World) (xs : List Nat) (o : Nat) (i j : Value) (wr : World) : Prop :=
  ∃ a b : Nat, a ≤ b ∧ b ≤ xs.length ∧ i = .int .i64 a ∧ j = .int .i64 b ∧ wr = w ∧ (∀ k x, k < a → xs[k]? = some x → x < o) ∧ (∀ k x, b ≤ k → xs[k]? = some x → o ≤ x)

set_option maxHeartbeats 1000000 in
theorem search_u32 {w : World} {a : Option Addr} {c : Nat} {xs : List Nat} (h : w.ownsRow 0 43 1 (.slice a xs.length c) xs.length (u32s xs)) (hr : Rising xs) (o : Nat) :
    Calls Try.prog 114 #[.slice a xs.length c, .int .u32 o] w fun e w' => e = .returned (.tuple #[.int .i64 (below xs o), .bool (decide (o ∈ xs))]) ∧ w = w' := by
  have H := Lib.hid h
  have HR := Lib.hid hr
  have hl := hr.len
  clear h hr
  go_enter Try.func114, Try.ntmps114
  go_wp2
  go_loopw [7, 8] (fun i j wr => SearchInv w xs o i j wr) (fun i j _ => (intOf j).toNat - (intOf i).toNat)
  case atStart => exact ⟨0, xs.length, Nat.zero_le _, Nat.le_refl _, rfl, rfl, rfl, fun _ _ h => absurd h (Nat.not_lt_zero _), fun k x h e => by rw [List.getElem?_eq_none h] at e; cases e⟩
  case round =>
    obtain ⟨i, j, hij, hjl, rfl, rfl, rfl, h1, h2⟩ := hrel
    have H1 := Lib.hid h1
    have H2 := Lib.hid h2
    clear h1 h2
    by_cases hlt : i < j
    · have hi1 : (i : Int) < (j : Int) := by omega
      obtain ⟨g, c', hsv, _, hg, hc, hf, _⟩ := owns_at H.out (by omega)
      cases hsv
      obtain ⟨h, hhd⟩ : ∃ h, h = (i + j) / 2 := ⟨_, rfl⟩
      have hh : ((i : Int) + (j : Int)) / 2 = (h : Int) := by omega
      have hhi : i ≤ h := by omega
      have hhj : h < j := by omega
      have hhl : h < xs.length := by omega
      have he := List.getElem?_eq_getElem hhl
      generalize xs[h] = x at he
      have hcell : wr.cell? ⟨g, h, none⟩ = some (.int .u32 x) := hc h _ (by simp [u32s, he])
      have HE := Lib.hid he
      clear hc he hhd
      by_cases hx : x < o
      · go_wp2_with (first
          | (go_at_call 135; refine Calls.mono (less_u32 _ _ _) ?_; rintro e w1 ⟨rfl, rfl⟩)
          | go_in)
        go_roundw
        case rel =>
          unfold SearchInv
          exact ⟨h + 1, j, by omega, by omega, by go_num, rfl, rfl, fun k y hk hy => by
            by_cases e : k = h
            · subst e; rw [HE.out] at hy; cases hy; exact hx
            · have := rising_lt HR.out.up (show k < h by omega) hy HE.out; omega, H2.out⟩
        case measure => simp [intOf]; omega
      · go_wp2_with (first
          | (go_at_call 135; refine Calls.mono (less_u32 _ _ _) ?_; rintro e w1 ⟨rfl, rfl⟩)
          | go_in)
        go_roundw
        case rel =>
          unfold SearchInv
          exact ⟨i, h, by omega, by omega, rfl, rfl, rfl, H1.out, fun k y hk hy => by
            by_cases e : k = h
            · subst e; rw [HE.out] at hy; cases hy; omega
            · have := rising_lt HR.out.up (show h < k by omega) HE.out hy; omega⟩
        case measure => simp [intOf]; omega
    · obtain rfl : i = j := by omega
      have hi1 : (i : Int) ≤ (i : Int) := by omega
      have hb := below_of HR.out.up hjl H1.out H2.out
      have hm := rising_mem hjl H1.out H2.out HR.out.up
      have HB := Lib.hid hb
      by_cases hil : i < xs.length
      · obtain ⟨g, c', hsv, _, hg, hc, hf, _⟩ := owns_at H.out (by omega)
        cases hsv
        have he := List.getElem?_eq_getElem hil
        generalize xs[i] = x at he
        have hcell : wr.cell? ⟨g, i, none⟩ = some (.int .u32 x) := hc i _ (by simp [u32s, he])
        rw [he] at hm
        have hm2 : decide (o ∈ xs) = decide (x = o) := by simp [hm]
        have HM2 := Lib.hid hm2
        clear hm hm2 hb hc he
        by_cases hxo : x = o
        · subst hxo
          go_wp2_with (first
            | (go_at_call 136; refine Calls.mono (isNaN_slices _ _) ?_; rintro e w1 ⟨rfl, rfl⟩)
            | go_in)
          go_ret2
          exact ⟨by rw [HB.out, HM2.out]; simp, rfl⟩
        · have hxo' : ¬ ((x : Int) = (o : Int)) := by omega
          go_wp2_with (first
            | (go_at_call 136; refine Calls.mono (isNaN_slices _ _) ?_; rintro e w1 ⟨rfl, rfl⟩)
            | go_in)
          go_ret2
          exact ⟨by rw [HB.out, HM2.out]; simp [hxo]; omega, rfl⟩
      · have hm2 : decide (o ∈ xs) = false := by rw [List.getElem?_eq_none (by omega)] at hm; simp [hm]
        have HM2 := Lib.hid hm2
        have hil2 : (xs.length : Int) ≤ (i : Int) := by omega
        clear hm hm2 hb
        go_wp2
        go_ret2
        exact ⟨by rw [HB.out, HM2.out]; simp, rfl⟩

/-! ### Moves -/
abbrev U32Row (w : World) (a : Option Addr) (c : Nat) (xs : List Nat) : Prop := w.ownsRow 0 43 1 (.slice a xs.length c) xs.length (u32s xs)
def toM (xs : List Nat) (o : Nat) : Nat × Nat := if o ∈ xs then (below xs o, 0) else (0, 9)
def fromM (xs : List Nat) (s : Nat) : Nat × Nat := if s < xs.length then (xs.getD s 0, 0) else (0, 9)
theorem below_le (xs : List Nat) (o : Nat) : below xs o ≤ xs.length := List.countP_le_length

theorem Moves_To {w : World} {a : Option Addr} {c : Nat} {xs : List Nat} (h : U32Row w a c xs) (hr : Rising xs) (n : Int) (o : Nat) :
    Calls Try.prog 71 #[.agg #[.slice a xs.length c, .int .i64 n], .int .u32 o] w fun e w' => e = .returned (.tuple #[.int .u32 (toM xs o).1, .int .i64 (toM xs o).2]) ∧ Pure w w' := by
  have hp : Pure w (w.alloc (.cells #[.slice a xs.length c, .int .i64 n] 34)) := (Mod.refl _ w).alloc _
  have H := Lib.hid (owns_mod h hp (fun _ _ h => h))
  have HP := Lib.hid hp
  have hb : below xs o ≤ 4294967295 := by have := below_le xs o; have := hr.len; omega
  have hb0 : (0 : Int) ≤ (below xs o : Int) := by omega
  have hb1 : (below xs o : Int) ≤ 4294967295 := by omega
  clear h hp
  unfold toM
  by_cases hm : o ∈ xs
  · rw [if_pos hm]
    have hd : decide (o ∈ xs) = true := by simp [hm]
    go_enter Try.func71, Try.ntmps71
    go_wp2_with (first
      | (go_at_call 114; refine Calls.mono (search_u32 H.out hr o) ?_; rintro e w1 ⟨rfl, rfl⟩)
      | go_in)
    go_ret2
    exact ⟨by simp, HP.out⟩
  · rw [if_neg hm]
    have hd : decide (o ∈ xs) = false := by simp [hm]
    go_enter Try.func71, Try.ntmps71
    go_wp2_with (first
      | (go_at_call 114; refine Calls.mono (search_u32 H.out hr o) ?_; rintro e w1 ⟨rfl, rfl⟩)
      | go_in)
    go_ret2
    exact ⟨by simp, HP.out⟩

theorem Moves_From {w : World} {a : Option Addr} {c : Nat} {xs : List Nat} (h : U32Row w a c xs) (hl : xs.length ≤ 4194304) (n : Int) (o : Nat) (ho : o ≤ 4294967295) :
    Calls Try.prog 72 #[.agg #[.slice a xs.length c, .int .i64 n], .int .u32 o] w fun e w' => e = .returned (.tuple #[.int .u32 (fromM xs o).1, .int .i64 (fromM xs o).2]) ∧ Pure w w' := by
  have hp : Pure w (w.alloc (.cells #[.slice a xs.length c, .int .i64 n] 34)) := (Mod.refl _ w).alloc _
  have HP := Lib.hid hp
  unfold fromM
  by_cases hm : o < xs.length
  · rw [if_pos hm]
    have ho1 : (o : Int) < (xs.length : Int) := by omega
    have ho2 : (o : Int) ≤ 4294967295 := by omega
    obtain ⟨g, c', hsv, _, hg, hc, hf, _⟩ := owns_at h (by omega)
    cases hsv
    have he : xs[o]? = some (xs.getD o 0) := by simp [List.getD, List.getElem?_eq_getElem hm]
    have hcell : w.cell? ⟨g, o, none⟩ = some (.int .u32 (xs.getD o 0)) := hc o _ (by simp only [u32s, List.getElem?_map, he, Option.map_some])
    clear h hp he hc
    generalize xs.getD o 0 = x at hcell ⊢
    go_enter Try.func72, Try.ntmps72
    go_wp2
    go_ret2
    exact ⟨by simp, HP.out⟩
  · rw [if_neg hm]
    have ho1 : (xs.length : Int) ≤ (o : Int) := by omega
    have ho2 : (o : Int) ≤ 4294967295 := by omega
    clear h hp
    go_enter Try.func72, Try.ntmps72
    go_wp2
    go_ret2
    exact ⟨by simp, HP.out⟩

theorem Moves_Len {w : World} {a : Option Addr} {c : Nat} (k : Nat) (n : Int) :
    Calls Try.prog 73 #[.agg #[.slice a k c, .int .i64 n]] w fun e w' => e = .returned (.tuple #[.int .i64 k, .int .i64 n]) ∧ Pure w w' := by
  go_enter Try.func73, Try.ntmps73
  go_wp2
  go_region
  go_wp2
  go_ret2
  exact ⟨by simp, ((Mod.refl _ w).alloc _).drew⟩

theorem law_to {w : World} {a : Option Addr} {c : Nat} {xs : List Nat} (h : U32Row w a c xs) (hr : Rising xs) (n : Int) (o want no : Nat) (ho : o ≤ 4294967295) :
    Calls Try.prog 30 #[.agg #[.slice a xs.length c, .int .i64 n], .int .u32 o, .int .u32 want, .int .i64 no] w fun e w' => e = .returned (.bool (decide (toM xs o = (want, no)))) ∧ Pure w w' := by
  have hp : Pure w (w.alloc (.cells #[.slice a xs.length c, .int .i64 n] 34)) := (Mod.refl _ w).alloc _
  have H := Lib.hid (owns_mod h hp (fun _ _ h => h))
  have HP := Lib.hid hp
  have HT := Lib.hid (Moves_To H.out hr n o)
  clear h hp
  generalize toM xs o = r at HT ⊢
  obtain ⟨r1, r2⟩ := r
  by_cases e1 : r1 = want
  · by_cases e2 : r2 = no
    · subst e1 e2
      go_enter Try.func30, Try.ntmps30
      go_wp2_with (first
        | (go_at_call 71; refine Calls.mono HT.out ?_; rintro e w1 ⟨rfl, hq⟩; have HQ := Lib.hid hq; clear hq)
        | go_in)
      go_ret
      exact ⟨by simp, HP.out.trans HQ.out⟩
    · have e2' : ¬ ((r2 : Int) = (no : Int)) := by omega
      subst e1
      go_enter Try.func30, Try.ntmps30
      go_wp2_with (first
        | (go_at_call 71; refine Calls.mono HT.out ?_; rintro e w1 ⟨rfl, hq⟩; have HQ := Lib.hid hq; clear hq)
        | go_in)
      go_ret
      exact ⟨by simp [e2, e2'], HP.out.trans HQ.out⟩
  · have e1' : ¬ ((r1 : Int) = (want : Int)) := by omega
    go_enter Try.func30, Try.ntmps30
    go_wp2_with (first
      | (go_at_call 71; refine Calls.mono HT.out ?_; rintro e w1 ⟨rfl, hq⟩; have HQ := Lib.hid hq; clear hq)
      | go_in)
    go_ret
    exact ⟨by simp [e1, e1'], HP.out.trans HQ.out⟩

theorem law_from {w : World} {a : Option Addr} {c : Nat} {xs : List Nat} (h : U32Row w a c xs) (hl : xs.length ≤ 4194304) (n : Int) (o want no : Nat) (ho : o ≤ 4294967295) :
    Calls Try.prog 31 #[.agg #[.slice a xs.length c, .int .i64 n], .int .u32 o, .int .u32 want, .int .i64 no] w fun e w' => e = .returned (.bool (decide (fromM xs o = (want, no)))) ∧ Pure w w' := by
  have hp : Pure w (w.alloc (.cells #[.slice a xs.length c, .int .i64 n] 34)) := (Mod.refl _ w).alloc _
  have H := Lib.hid (owns_mod h hp (fun _ _ h => h))
  have HP := Lib.hid hp
  have HT := Lib.hid (Moves_From H.out hl n o ho)
  clear h hp
  generalize fromM xs o = r at HT ⊢
  obtain ⟨r1, r2⟩ := r
  by_cases e1 : r1 = want
  · by_cases e2 : r2 = no
    · subst e1 e2
      go_enter Try.func31, Try.ntmps31
      go_wp2_with (first
        | (go_at_call 72; refine Calls.mono HT.out ?_; rintro e w1 ⟨rfl, hq⟩; have HQ := Lib.hid hq; clear hq)
        | go_in)
      go_ret
      exact ⟨by simp, HP.out.trans HQ.out⟩
    · have e2' : ¬ ((r2 : Int) = (no : Int)) := by omega
      subst e1
      go_enter Try.func31, Try.ntmps31
      go_wp2_with (first
        | (go_at_call 72; refine Calls.mono HT.out ?_; rintro e w1 ⟨rfl, hq⟩; have HQ := Lib.hid hq; clear hq)
        | go_in)
      go_ret
      exact ⟨by simp [e2, e2'], HP.out.trans HQ.out⟩
  · have e1' : ¬ ((r1 : Int) = (want : Int)) := by omega
    go_enter Try.func31, Try.ntmps31
    go_wp2_with (first
      | (go_at_call 72; refine Calls.mono HT.out ?_; rintro e w1 ⟨rfl, hq⟩; have HQ := Lib.hid hq; clear hq)
      | go_in)
    go_ret
    exact ⟨by simp [e1, e1'], HP.out.trans HQ.out⟩

theorem law_lens {w : World} (a : Option Addr) (c : Nat) (k : Nat) (n x y : Int) :
    Calls Try.prog 32 #[.agg #[.slice a k c, .int .i64 n], .int .i64 x, .int .i64 y] w fun e w' => e = .returned (.bool (decide ((k : Int) = x) && decide (n = y))) ∧ Pure w w' := by
  have hp : Pure w (w.alloc (.cells #[.slice a k c, .int .i64 n] 34)) := (Mod.refl _ w).alloc _
  have HP := Lib.hid hp
  clear hp
  by_cases e1 : (k : Int) = x
  · subst e1
    by_cases e2 : n = y
    · subst e2
      go_enter Try.func32, Try.ntmps32
      go_wp2_with (first
        | (go_at_call 73; refine Calls.mono (Moves_Len _ _) ?_; rintro e w1 ⟨rfl, hq⟩; have HQ := Lib.hid hq; clear hq)
        | go_in)
      go_ret
      exact ⟨by simp, HP.out.trans HQ.out⟩
    · go_enter Try.func32, Try.ntmps32
      go_wp2_with (first
        | (go_at_call 73; refine Calls.mono (Moves_Len _ _) ?_; rintro e w1 ⟨rfl, hq⟩; have HQ := Lib.hid hq; clear hq)
        | go_in)
      go_ret
      exact ⟨by simp [e2], HP.out.trans HQ.out⟩
  · go_enter Try.func32, Try.ntmps32
    go_wp2_with (first
      | (go_at_call 73; refine Calls.mono (Moves_Len _ _) ?_; rintro e w1 ⟨rfl, hq⟩; have HQ := Lib.hid hq; clear hq)
      | go_in)
    go_ret
    exact ⟨by simp [e1], HP.out.trans HQ.out⟩
end Go.Proofs.Ytbjiebhbmpafpaa
