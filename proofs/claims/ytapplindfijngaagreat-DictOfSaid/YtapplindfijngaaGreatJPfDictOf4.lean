/- Lemmas and contracts of functions, strung together out of 5 texts. No condition. -/
import Derived.Test.YtapplindfijngaaGreatJPfDictOf3
/- slices.BinarySearch of uint32, Moves.To, From, Len and the law's to, from, lens. Conditions: an owned row of rising numbers. -/
namespace Go.Proofs.YtapplindfijngaaGreat
open Go.RowKit Go.Shelf
set_option maxRecDepth 100000

/-! ### cmp.Less, slices.BinarySearch -/
theorem isNaN_cmp (a : Nat) (w : World) : Calls Tryz.prog 176 #[.int .u32 a] w fun e w' => e = .returned (.bool false) ∧ w = w' := by
  go_enter Tryz.func176, Tryz.ntmps176
  go_wp2
  go_ret
  exact ⟨by simp, rfl⟩
theorem isNaN_slices (a : Nat) (w : World) : Calls Tryz.prog 173 #[.int .u32 a] w fun e w' => e = .returned (.bool false) ∧ w = w' := by
  go_enter Tryz.func173, Tryz.ntmps173
  go_wp2
  go_ret
  exact ⟨by simp, rfl⟩
theorem less_u32 (a b : Nat) (w : World) : Calls Tryz.prog 172 #[.int .u32 a, .int .u32 b] w fun e w' => e = .returned (.bool (decide (a < b))) ∧ w = w' := by
  go_enter Tryz.func172, Tryz.ntmps172
  go_wp2_with (first
    | (go_at_call 176; refine Calls.mono (isNaN_cmp _ _) ?_; rintro e w1 ⟨rfl, rfl⟩)
    | go_in)
  go_ret
  exact ⟨by simp, rfl⟩

/-- Strictly rising numbers below 2^32, not too many. -/
structure Rising (xs : List Nat) : Prop where
  up : xs.Pairwise (· < ·)
  lt : ∀ x ∈ xs, x ≤ 4294967295
  len : xs.length ≤ 4194304
def u32s (xs : List Nat) : List Value := xs.map (fun x : Nat => (.int .u32 x : Value))
/-- How many are below o. -/
def below (xs : List Nat) (o : Nat) : Nat := xs.countP (decide <| · < o)

theorem below_of {xs : List Nat} (h : xs.Pairwise (· < ·)) {o i : Nat} (hi : i ≤ xs.length) (h1 : ∀ k x, k < i → xs[k]? = some x → x < o) (h2 : ∀ k x, i ≤ k → xs[k]? = some x → o ≤ x) : below xs o = i := by
  unfold below
  rw [← List.take_append_drop i xs, List.countP_append]
  have e1 : (xs.take i).countP (decide <| · < o) = i := by
    rw [List.countP_eq_length.2, List.length_take]
    · omega
    · intro x hx
      obtain ⟨k, hk, rfl⟩ := List.mem_iff_getElem.1 hx
      simp at hk
      simpa using h1 k _ (by omega) (by simp [List.getElem?_eq_getElem (show k < xs.length by omega)])
  have e2 : (xs.drop i).countP (decide <| · < o) = 0 := by
    rw [List.countP_eq_zero]
    intro x hx
    obtain ⟨k, hk, rfl⟩ := List.mem_iff_getElem.1 hx
    simp at hk
    have := h2 (i + k) _ (by omega) (List.getElem?_eq_getElem (by omega))
    simp
    omega
  omega
theorem rising_lt {xs : List Nat} (h : xs.Pairwise (· < ·)) {i j x y : Nat} (hij : i < j) (hx : xs[i]? = some x) (hy : xs[j]? = some y) : x < y := by
  obtain ⟨h1, rfl⟩ := List.getElem?_eq_some_iff.1 hx
  obtain ⟨h2, rfl⟩ := List.getElem?_eq_some_iff.1 hy
  exact List.pairwise_iff_getElem.1 h _ _ h1 h2 hij
theorem rising_mem {xs : List Nat} {o i : Nat} (hi : i ≤ xs.length) (h1 : ∀ k x, k < i → xs[k]? = some x → x < o) (h2 : ∀ k x, i ≤ k → xs[k]? = some x → o ≤ x) (h : xs.Pairwise (· < ·)) : o ∈ xs ↔ xs[i]? = some o := by
  refine ⟨fun hm => ?_, fun e => List.mem_of_getElem? e⟩
  obtain ⟨k, hk, rfl⟩ := List.mem_iff_getElem.1 hm
  have e := List.getElem?_eq_getElem hk
  by_cases hki : k < i
  · have := h1 k _ hki e; omega
  · by_cases hik : i < k
    · have hi2 : i < xs.length := by omega
      have := rising_lt h hik (List.getElem?_eq_getElem hi2) e
      have := h2 i _ (Nat.le_refl _) (List.getElem?_eq_getElem hi2)
      omega
    · obtain rfl : i = k := by omega
      exact e

def SearchInv (w : World) (xs : List Nat) (o : Nat) (i j : Value) (wr : World) : Prop :=
  ∃ a b : Nat, a ≤ b ∧ b ≤ xs.length ∧ i = .int .i64 a ∧ j = .int .i64 b ∧ wr = w ∧ (∀ k x, k < a → xs[k]? = some x → x < o) ∧ (∀ k x, b ≤ k → xs[k]? = some x → o ≤ x)

set_option maxHeartbeats 1000000 in
theorem search_u32 {w : World} {a : Option Addr} {c : Nat} {xs : List Nat} (h : w.ownsRow 0 43 1 (.slice a xs.length c) xs.length (u32s xs)) (hr : Rising xs) (o : Nat) :
    Calls Tryz.prog 161 #[.slice a xs.length c, .int .u32 o] w fun e w' => e = .returned (.tuple #[.int .i64 (below xs o), .bool (decide (o ∈ xs))]) ∧ w = w' := by
  have H := Lib.hid h
  have HR := Lib.hid hr
  have hl := hr.len
  clear h hr
  go_enter Tryz.func161, Tryz.ntmps161
  go_wp2
  go_loopw [7, 8] (fun i j wr => SearchInv w xs o i j wr) (fun i j _ => (intOf j).toNat - (intOf i).toNat)
  case atStart => exact ⟨0, xs.length, Nat.zero_le _, Nat.le_refl _, rfl, rfl, rfl, fun _ _ h => absurd h (Nat.not_lt_zero _), fun k x h e => by rw [List.getElem?_eq_none h] at e; cases e⟩
  case round =>
    obtain ⟨i, j, hij, hjl, rfl, rfl, rfl, h1, h2⟩ := hrel
    have H1 := Lib.hid h1
    have H2 := Lib.hid h2
    clear h1 h2
    by_cases hlt : i < j
    · have hi1 : (i : Int) < (j : Int) := by omega
      obtain ⟨g, c', hsv, _, hg, hc, hf, _⟩ := owns_at H.out (by omega)
      cases hsv
      obtain ⟨h, hhd⟩ : ∃ h, h = (i + j) / 2 := ⟨_, rfl⟩
      have hh : ((i : Int) + (j : Int)) / 2 = (h : Int) := by omega
      have hhi : i ≤ h := by omega
      have hhj : h < j := by omega
      have hhl : h < xs.length := by omega
      have he := List.getElem?_eq_getElem hhl
      generalize xs[h] = x at he
      have hcell : wr.cell? ⟨g, h, none⟩ = some (.int .u32 x) := hc h _ (by simp [u32s, he])
      have HE := Lib.hid he
      clear hc he hhd
      by_cases hx : x < o
      · go_wp2_with (first
          | (go_at_call 172; refine Calls.mono (less_u32 _ _ _) ?_; rintro e w1 ⟨rfl, rfl⟩)
          | go_in)
        go_roundw
        case rel =>
          unfold SearchInv
          exact ⟨h + 1, j, by omega, by omega, by go_num, rfl, rfl, fun k y hk hy => by
            by_cases e : k = h
            · subst e; rw [HE.out] at hy; cases hy; exact hx
            · have := rising_lt HR.out.up (show k < h by omega) hy HE.out; omega, H2.out⟩
        case measure => simp [intOf]; omega
      · go_wp2_with (first
          | (go_at_call 172; refine Calls.mono (less_u32 _ _ _) ?_; rintro e w1 ⟨rfl, rfl⟩)
          | go_in)
        go_roundw
        case rel =>
          unfold SearchInv
          exact ⟨i, h, by omega, by omega, rfl, rfl, rfl, H1.out, fun k y hk hy => by
            by_cases e : k = h
            · subst e; rw [HE.out] at hy; cases hy; omega
            · have := rising_lt HR.out.up (show h < k by omega) HE.out hy; omega⟩
        case measure => simp [intOf]; omega
    · obtain rfl : i = j := by omega
      have hi1 : (i : Int) ≤ (i : Int) := by omega
      have hb := below_of HR.out.up hjl H1.out H2.out
      have hm := rising_mem hjl H1.out H2.out HR.out.up
      have HB := Lib.hid hb
      by_cases hil : i < xs.length
      · obtain ⟨g, c', hsv, _, hg, hc, hf, _⟩ := owns_at H.out (by omega)
        cases hsv
        have he := List.getElem?_eq_getElem hil
        generalize xs[i] = x at he
        have hcell : wr.cell? ⟨g, i, none⟩ = some (.int .u32 x) := hc i _ (by simp [u32s, he])
        rw [he] at hm
        have hm2 : decide (o ∈ xs) = decide (x = o) := by simp [hm]
        have HM2 := Lib.hid hm2
        clear hm hm2 hb hc he
        by_cases hxo : x = o
        · subst hxo
          go_wp2_with (first
            | (go_at_call 173; refine Calls.mono (isNaN_slices _ _) ?_; rintro e w1 ⟨rfl, rfl⟩)
            | go_in)
          go_ret2
          exact ⟨by rw [HB.out, HM2.out]; simp, rfl⟩
        · have hxo' : ¬ ((x : Int) = (o : Int)) := by omega
          go_wp2_with (first
            | (go_at_call 173; refine Calls.mono (isNaN_slices _ _) ?_; rintro e w1 ⟨rfl, rfl⟩)
            | go_in)
          go_ret2
          exact ⟨by rw [HB.out, HM2.out]; simp [hxo]; omega, rfl⟩
      · have hm2 : decide (o ∈ xs) = false := by rw [List.getElem?_eq_none (by omega)] at hm; simp [hm]
        have HM2 := Lib.hid hm2
        have hil2 : (xs.length : Int) ≤ (i : Int) := by omega
        clear hm hm2 hb
        go_wp2
        go_ret2
        exact ⟨by rw [HB.out, HM2.out]; simp, rfl⟩

/-! ### Moves -/
abbrev U32Row (w : World) (a : Option Addr) (c : Nat) (xs : List Nat) : Prop := w.ownsRow 0 43 1 (.slice a xs.length c) xs.length (u32s xs)
def toM (xs : List Nat) (o : Nat) : Nat × Nat := if o ∈ xs then (below xs o, 0) else (0, 9)
def fromM (xs : List Nat) (s : Nat) : Nat × Nat := if s < xs.length then (xs.getD s 0, 0) else (0, 9)
theorem below_le (xs : List Nat) (o : Nat) : below xs o ≤ xs.length := List.countP_le_length

theorem Moves_To {w : World} {a : Option Addr} {c : Nat} {xs : List Nat} (h : U32Row w a c xs) (hr : Rising xs) (n : Int) (o : Nat) :
    Calls Tryz.prog 133 #[.agg #[.slice a xs.length c, .int .i64 n], .int .u32 o] w fun e w' => e = .returned (.tuple #[.int .u32 (toM xs o).1, .int .i64 (toM xs o).2]) ∧ Pure w w' := by
  have hp : Pure w (w.alloc (.cells #[.slice a xs.length c, .int .i64 n] 81)) := (Mod.refl _ w).alloc _
  have H := Lib.hid (owns_mod h hp (fun _ _ h => h))
  have HP := Lib.hid hp
  have hb : below xs o ≤ 4294967295 := by have := below_le xs o; have := hr.len; omega
  have hb0 : (0 : Int) ≤ (below xs o : Int) := by omega
  have hb1 : (below xs o : Int) ≤ 4294967295 := by omega
  clear h hp
  unfold toM
  by_cases hm : o ∈ xs
  · rw [if_pos hm]
    have hd : decide (o ∈ xs) = true := by simp [hm]
    go_enter Tryz.func133, Tryz.ntmps133
    go_wp2_with (first
      | (go_at_call 161; refine Calls.mono (search_u32 H.out hr o) ?_; rintro e w1 ⟨rfl, rfl⟩)
      | go_in)
    go_ret2
    exact ⟨by simp, HP.out⟩
  · rw [if_neg hm]
    have hd : decide (o ∈ xs) = false := by simp [hm]
    go_enter Tryz.func133, Tryz.ntmps133
    go_wp2_with (first
      | (go_at_call 161; refine Calls.mono (search_u32 H.out hr o) ?_; rintro e w1 ⟨rfl, rfl⟩)
      | go_in)
    go_ret2
    exact ⟨by simp, HP.out⟩

theorem Moves_From {w : World} {a : Option Addr} {c : Nat} {xs : List Nat} (h : U32Row w a c xs) (hl : xs.length ≤ 4194304) (n : Int) (o : Nat) (ho : o ≤ 4294967295) :
    Calls Tryz.prog 134 #[.agg #[.slice a xs.length c, .int .i64 n], .int .u32 o] w fun e w' => e = .returned (.tuple #[.int .u32 (fromM xs o).1, .int .i64 (fromM xs o).2]) ∧ Pure w w' := by
  have hp : Pure w (w.alloc (.cells #[.slice a xs.length c, .int .i64 n] 81)) := (Mod.refl _ w).alloc _
  have HP := Lib.hid hp
  unfold fromM
  by_cases hm : o < xs.length
  · rw [if_pos hm]
    have ho1 : (o : Int) < (xs.length : Int) := by omega
    have ho2 : (o : Int) ≤ 4294967295 := by omega
    obtain ⟨g, c', hsv, _, hg, hc, hf, _⟩ := owns_at h (by omega)
    cases hsv
    have he : xs[o]? = some (xs.getD o 0) := by simp [List.getD, List.getElem?_eq_getElem hm]
    have hcell : w.cell? ⟨g, o, none⟩ = some (.int .u32 (xs.getD o 0)) := hc o _ (by simp only [u32s, List.getElem?_map, he, Option.map_some])
    clear h hp he hc
    generalize xs.getD o 0 = x at hcell ⊢
    go_enter Tryz.func134, Tryz.ntmps134
    go_wp2
    go_ret2
    exact ⟨by simp, HP.out⟩
  · rw [if_neg hm]
    have ho1 : (xs.length : Int) ≤ (o : Int) := by omega
    have ho2 : (o : Int) ≤ 4294967295 := by omega
    clear h hp
    go_enter Tryz.func134, Tryz.ntmps134
    go_wp2
    go_ret2
    exact ⟨by simp, HP.out⟩

theorem Moves_Len {w : World} {a : Option Addr} {c : Nat} (k : Nat) (n : Int) :
    Calls Tryz.prog 132 #[.agg #[.slice a k c, .int .i64 n]] w fun e w' => e = .returned (.tuple #[.int .i64 k, .int .i64 n]) ∧ Pure w w' := by
  go_enter Tryz.func132, Tryz.ntmps132
  go_wp2
  go_region
  go_wp2
  go_ret2
  exact ⟨by simp, ((Mod.refl _ w).alloc _).drew⟩

theorem law_to {w : World} {a : Option Addr} {c : Nat} {xs : List Nat} (h : U32Row w a c xs) (hr : Rising xs) (n : Int) (o want no : Nat) (ho : o ≤ 4294967295) :
    Calls Tryz.prog 90 #[.agg #[.slice a xs.length c, .int .i64 n], .int .u32 o, .int .u32 want, .int .i64 no] w fun e w' => e = .returned (.bool (decide (toM xs o = (want, no)))) ∧ Pure w w' := by
  have hp : Pure w (w.alloc (.cells #[.slice a xs.length c, .int .i64 n] 81)) := (Mod.refl _ w).alloc _
  have H := Lib.hid (owns_mod h hp (fun _ _ h => h))
  have HP := Lib.hid hp
  have HT := Lib.hid (Moves_To H.out hr n o)
  clear h hp
  generalize toM xs o = r at HT ⊢
  obtain ⟨r1, r2⟩ := r
  by_cases e1 : r1 = want
  · by_cases e2 : r2 = no
    · subst e1 e2
      go_enter Tryz.func90, Tryz.ntmps90
      go_wp2_with (first
        | (go_at_call 133; refine Calls.mono HT.out ?_; rintro e w1 ⟨rfl, hq⟩; have HQ := Lib.hid hq; clear hq)
        | go_in)
      go_ret
      exact ⟨by simp, HP.out.trans HQ.out⟩
    · have e2' : ¬ ((r2 : Int) = (no : Int)) := by omega
      subst e1
      go_enter Tryz.func90, Tryz.ntmps90
      go_wp2_with (first
        | (go_at_call 133; refine Calls.mono HT.out ?_; rintro e w1 ⟨rfl, hq⟩; have HQ := Lib.hid hq; clear hq)
        | go_in)
      go_ret
      exact ⟨by simp [e2, e2'], HP.out.trans HQ.out⟩
  · have e1' : ¬ ((r1 : Int) = (want : Int)) := by omega
    go_enter Tryz.func90, Tryz.ntmps90
    go_wp2_with (first
      | (go_at_call 133; refine Calls.mono HT.out ?_; rintro e w1 ⟨rfl, hq⟩; have HQ := Lib.hid hq; clear hq)
      | go_in)
    go_ret
    exact ⟨by simp [e1, e1'], HP.out.trans HQ.out⟩

theorem law_from {w : World} {a : Option Addr} {c : Nat} {xs : List Nat} (h : U32Row w a c xs) (hl : xs.length ≤ 4194304) (n : Int) (o want no : Nat) (ho : o ≤ 4294967295) :
    Calls Tryz.prog 91 #[.agg #[.slice a xs.length c, .int .i64 n], .int .u32 o, .int .u32 want, .int .i64 no] w fun e w' => e = .returned (.bool (decide (fromM xs o = (want, no)))) ∧ Pure w w' := by
  have hp : Pure w (w.alloc (.cells #[.slice a xs.length c, .int .i64 n] 81)) := (Mod.refl _ w).alloc _
  have H := Lib.hid (owns_mod h hp (fun _ _ h => h))
  have HP := Lib.hid hp
  have HT := Lib.hid (Moves_From H.out hl n o ho)
  clear h hp
  generalize fromM xs o = r at HT ⊢
  obtain ⟨r1, r2⟩ := r
  by_cases e1 : r1 = want
  · by_cases e2 : r2 = no
    · subst e1 e2
      go_enter Tryz.func91, Tryz.ntmps91
      go_wp2_with (first
        | (go_at_call 134; refine Calls.mono HT.out ?_; rintro e w1 ⟨rfl, hq⟩; have HQ := Lib.hid hq; clear hq)
        | go_in)
      go_ret
      exact ⟨by simp, HP.out.trans HQ.out⟩
    · have e2' : ¬ ((r2 : Int) = (no : Int)) := by omega
      subst e1
      go_enter Tryz.func91, Tryz.ntmps91
      go_wp2_with (first
        | (go_at_call 134; refine Calls.mono HT.out ?_; rintro e w1 ⟨rfl, hq⟩; have HQ := Lib.hid hq; clear hq)
        | go_in)
      go_ret
      exact ⟨by simp [e2, e2'], HP.out.trans HQ.out⟩
  · have e1' : ¬ ((r1 : Int) = (want : Int)) := by omega
    go_enter Tryz.func91, Tryz.ntmps91
    go_wp2_with (first
      | (go_at_call 134; refine Calls.mono HT.out ?_; rintro e w1 ⟨rfl, hq⟩; have HQ := Lib.hid hq; clear hq)
      | go_in)
    go_ret
    exact ⟨by simp [e1, e1'], HP.out.trans HQ.out⟩

theorem law_lens {w : World} (a : Option Addr) (c : Nat) (k : Nat) (n x y : Int) :
    Calls Tryz.prog 89 #[.agg #[.slice a k c, .int .i64 n], .int .i64 x, .int .i64 y] w fun e w' => e = .returned (.bool (decide ((k : Int) = x) && decide (n = y))) ∧ Pure w w' := by
  have hp : Pure w (w.alloc (.cells #[.slice a k c, .int .i64 n] 81)) := (Mod.refl _ w).alloc _
  have HP := Lib.hid hp
  clear hp
  by_cases e1 : (k : Int) = x
  · subst e1
    by_cases e2 : n = y
    · subst e2
      go_enter Tryz.func89, Tryz.ntmps89
      go_wp2_with (first
        | (go_at_call 132; refine Calls.mono (Moves_Len _ _) ?_; rintro e w1 ⟨rfl, hq⟩; have HQ := Lib.hid hq; clear hq)
        | go_in)
      go_ret
      exact ⟨by simp, HP.out.trans HQ.out⟩
    · go_enter Tryz.func89, Tryz.ntmps89
      go_wp2_with (first
        | (go_at_call 132; refine Calls.mono (Moves_Len _ _) ?_; rintro e w1 ⟨rfl, hq⟩; have HQ := Lib.hid hq; clear hq)
        | go_in)
      go_ret
      exact ⟨by simp [e2], HP.out.trans HQ.out⟩
  · go_enter Tryz.func89, Tryz.ntmps89
    go_wp2_with (first
      | (go_at_call 132; refine Calls.mono (Moves_Len _ _) ?_; rintro e w1 ⟨rfl, hq⟩; have HQ := Lib.hid hq; clear hq)
      | go_in)
    go_ret
    exact ⟨by simp [e1], HP.out.trans HQ.out⟩
end Go.Proofs.YtapplindfijngaaGreat

/- Moves.Then: the composed moves, or the error. Conditions: owned rows, slot numbers in bounds. -/
namespace Go.Proofs.YtapplindfijngaaGreat
open Go.RowKit Go.Shelf
set_option maxRecDepth 100000

/-! ### Moves.Then -/
def thenXs (xs ys : List Nat) : List Nat := ys.map (fun y => xs.getD y 0)

theorem Then_arg {w : World} (a : Option Addr) (c k : Nat) (n : Int) (v : Value) (k2 : Int) (hk : ¬ (k2 = (k : Int))) :
    Calls Tryz.prog 92 #[.agg #[.slice a k c, .int .i64 n], .agg #[v, .int .i64 k2]] w fun e w' => e = .returned (.tuple #[.agg #[.slice none 0 0, .int .i64 0], .int .i64 2]) ∧ Pure w w' := by
  go_enter Tryz.func92, Tryz.ntmps92
  go_wp2
  refine bodyPost_ret (v := .tuple #[.agg #[.slice none 0 0, .int .i64 0], .int .i64 2]) (by simp [results, Tryz.results92, go_sem]) rfl ⟨rfl, ?_⟩
  (repeat' (first | (with_reducible exact Mod.refl _ _) | (with_reducible refine Mod.alloc ?_ _) | (with_reducible refine Mod.drew ?_) | (with_reducible refine Mod.drewN ?_ _) | (with_reducible refine Mod.setCell ?_ ?_ _) | (refine Mod.then ?_ (by with_reducible assumption) ?_)))
  (all_goals (intros; first | (exfalso; assumption) | omega | (simp at *; done) | (simp at *; omega)))

structure ThenInv (w : World) (B : Nat) (a a2 : Option Addr) (c c2 : Nat) (xs ys : List Nat) (n : Int) (k : Nat) (wr : World) : Prop where
  le : k ≤ ys.length
  pu : Pure w wr
  r0 : wr.heap[B]? = some (.cells #[.slice a xs.length c, .int .i64 n] 81 (0, 0))
  r2 : wr.heap[B + 1 + 1]? = some (.cells #[.slice none 0 0, .int .i64 0] 81 (0, 0))
  r6 : ∃ a' c', wr.heap[B + 1 + 1 + 1]? = some (.cells #[.slice a' k c', .int .i64 n] 81 (0, 0)) ∧ wr.ownsRow 0 43 1 (.slice a' k c') k (u32s (thenXs xs (ys.take k))) ∧ ∀ g, (Value.slice a' k c').ownBlock = some g → B + 1 + 1 + 1 < g

set_option maxHeartbeats 1000000 in
theorem Then_ok {w : World} {a a2 : Option Addr} {c c2 : Nat} {xs ys : List Nat} (h : U32Row w a c xs) (h2 : U32Row w a2 c2 ys) (n : Int) (hy : ∀ y ∈ ys, y < xs.length) (hl : ys.length ≤ 4194304) (hx : ∀ x ∈ xs, x ≤ 4294967295) (hx2 : xs.length ≤ 4194304) :
    Calls Tryz.prog 92 #[.agg #[.slice a xs.length c, .int .i64 n], .agg #[.slice a2 ys.length c2, .int .i64 xs.length]] w fun e w' =>
      ∃ a' c', e = .returned (.tuple #[.agg #[.slice a' ys.length c', .int .i64 n], .int .i64 0]) ∧ U32Row w' a' c' (thenXs xs ys) ∧ Fresh w (.slice a' ys.length c') ∧ Pure w w' := by
  have H := Lib.hid h
  have H2 := Lib.hid h2
  have HY := Lib.hid hy
  have HX := Lib.hid hx
  clear h h2 hy hx
  go_enter Tryz.func92, Tryz.ntmps92
  go_wp2
  go_loopw [22] (fun i wr => ∃ k : Nat, i = .int .i64 k ∧ ThenInv w w.heap.size a a2 c c2 xs ys n k wr) (fun i _ => ys.length - (intOf i).toNat)
  case atStart =>
    refine ⟨0, rfl, Nat.zero_le _, by (repeat' (first | (with_reducible exact Mod.refl _ _) | (with_reducible refine Mod.alloc ?_ _) | (with_reducible refine Mod.drew ?_) | (with_reducible refine Mod.drewN ?_ _) | (with_reducible refine Mod.setCell ?_ ?_ _) | (refine Mod.then ?_ (by with_reducible assumption) ?_))) <;> (all_goals (intros; first | (exfalso; assumption) | omega | (simp at *; done) | (simp at *; omega))), ?_, ?_, none, 0, ?_, World.ownsRow_nil _ _ _ _, (fun g e => by cases e)⟩
    · exact heap_keep (heap_keep (heap_keep (heap_new rfl)))
    · exact heap_keep (heap_new (by simp))
    · exact heap_new (by simp)
  case round =>
    obtain ⟨k, rfl, hI⟩ := hrel
    obtain ⟨hk, hpu, hr0, hr2, a6, c6, hr6, ho6, hf6⟩ := hI
    have e0 := cell_of_row wr _ 0 _ _ _ hr0; have e01 := cell_of_row wr _ 1 _ _ _ hr0
    have e6 := cell_of_row wr _ 0 _ _ _ hr6; have e61 := cell_of_row wr _ 1 _ _ _ hr6
    have e2 := cell_of_row wr _ 0 _ _ _ hr2; have e21 := cell_of_row wr _ 1 _ _ _ hr2
    have f6 := fun j => frozen_of_row wr _ j _ _ hr6
    have f2 := fun j => frozen_of_row wr _ j _ _ hr2
    simp at e0 e01 e6 e61 e2 e21
    have hl6 := lt_of_block hr6
    have H2W := Lib.hid (owns_mod H2.out hpu (fun _ _ h => h))
    have HW := Lib.hid (owns_mod H.out hpu (fun _ _ h => h))
    have HPU := Lib.hid hpu
    have HR0 := Lib.hid hr0
    have HR2 := Lib.hid hr2
    have HR6 := Lib.hid hr6
    have HO6 := Lib.hid ho6
    have HF6 := Lib.hid hf6
    clear hpu hr0 hr2 hr6 ho6 hf6
    by_cases hlt : k < ys.length
    · have hk1 : (k : Int) < (ys.length : Int) := by omega
      have he := List.getElem?_eq_getElem hlt
      generalize ys[k] = y at he
      have hyx : y < xs.length := HY.out y (List.mem_of_getElem? he)
      obtain ⟨g2, _, hsv, _, hg2, hc2, hfz2, _⟩ := owns_at H2W.out (by omega)
      cases hsv
      obtain ⟨g, _, hsv, _, hg, hc, hfz, _⟩ := owns_at HW.out (by omega)
      cases hsv
      have s2 : wr.cell? ⟨g2, k, none⟩ = some (.int .u32 y) := hc2 k _ (by simp only [u32s, List.getElem?_map, he, Option.map_some])
      have hex : xs[y]? = some (xs.getD y 0) := by simp [List.getD, List.getElem?_eq_getElem hyx]
      have hxx := HX.out _ (List.mem_of_getElem? hex)
      have s1 : wr.cell? ⟨g, y, none⟩ = some (.int .u32 (xs.getD y 0)) := hc y _ (by simp only [u32s, List.getElem?_map, hex, Option.map_some])
      have hth : thenXs xs (ys.take (k + 1)) = thenXs xs (ys.take k) ++ [xs.getD y 0] := by
        unfold thenXs
        rw [List.take_add_one, he, List.map_append]
        rfl
      clear hc hc2 hfz hfz2
      generalize xs.getD y 0 = x at s1 hth hex hxx
      have hy1 : (y : Int) < (xs.length : Int) := by omega
      have HTH := Lib.hid hth
      have HEX := Lib.hid hex
      clear hth hex he
      obtain ⟨i0, hi, iz0, iz1, iz2⟩ := info_parts info_u32
      have nb : Hid (some (w.heap.size + 1 + 1 + 1) ≠ (Value.slice a6 k c6).ownBlock) := fun e => by have := HF6.out _ e.symm; omega
      go_wp2
      go_region_law ((refine step_append_read _ (by rfl) _ _ 34 (by rfl) 43 i0 (.int .u32 0) 1 4 Tryz.underlying34 hi iz0 iz1 iz2 rfl (by decide) (.slice a6 k c6) k _ (by rfl) ((HO6.out.alloc _).drew) _ [.int .u32 x] 1 (by rfl) (ReadAt.of_block 1 1 1 (heap_new (by simp)) (by rfl) (by simp [Value.oneCell'])) (by rfl) (by unfold maxLen; omega) (by omega) ?_; intro a7 c7 w5 hr7 hg7 hb7; have m7 := Mod.heap (Mod.of_grown (S := fun k' => (Value.slice a6 k c6).ownBlock = some k') hg7 (fun k e _ => e)) (fun e => nb.out e.symm) (heap_keep HR6.out); have M7 := Lib.hid m7; have fr7 := (fun j => frozen_of_row w5 _ j _ _ m7); have z7 := cell_of_row w5 _ 0 _ _ _ m7; clear m7))
      all_goals
        have hW6 : Mod (fun k' => (Value.slice a6 k c6).ownBlock = some k' ∨ k' = w.heap.size + 1 + 1 + 1) wr (w5.setCell ⟨w.heap.size + 1 + 1 + 1, 0, none⟩ (.slice a7 (k + 1) c7)) :=
          ((((Mod.refl _ wr).alloc _).drew).then (Mod.of_grown (S := fun k' => (Value.slice a6 k c6).ownBlock = some k' ∨ k' = w.heap.size + 1 + 1 + 1) hg7 (fun k e _ => .inl e)) (fun _ _ h => h)).setCell (fun _ => .inr rfl) _
        have hb8 : ∀ g, (Value.slice a7 (k + 1) c7).ownBlock = some g → w.heap.size + 1 + 1 + 1 < g := by
          intro g hg
          rcases hb7 with e | e <;> rw [e] at hg
          · exact HF6.out g hg
          · simp at hg; omega
        have hn : ∀ g, g ≤ w.heap.size + 1 + 1 → ¬ ((Value.slice a6 k c6).ownBlock = some g ∨ g = w.heap.size + 1 + 1 + 1) := by
          rintro g hg (h | rfl)
          · have := HF6.out g h; omega
          · omega
        clear e0 e01 e6 e61 e2 e21 f6 f2 fr7 z7 s1 s2
        go_wp2
        go_roundw
        case rel =>
          refine ⟨k + 1, by go_num, by omega, HPU.out.then hW6 (fun g hg h => hn g (by omega) h), hW6.heap (hn _ (by omega)) HR0.out, hW6.heap (hn _ (by omega)) HR2.out, a7, c7, heap_setCell_same _ _ 0 _ _ _ M7.out, ?_, hb8⟩
          rw [HTH.out, u32s, List.map_append]
          exact owns_mod hr7 ((Mod.refl (fun k' => k' = w.heap.size + 1 + 1 + 1) w5).setCell (fun _ => rfl) _) (fun g hg => by have := hb8 g hg; omega)
        case measure => simp [intOf]; omega
    · have hend : ys.length = k := by omega
      have hk1 : (ys.length : Int) ≤ (k : Int) := by omega
      have HEND := Lib.hid hend
      clear hend
      go_wp2
      have z0 := heap_setCell_same wr (w.heap.size + 1 + 1) 0 _ _ (.slice a6 k c6) HR2.out
      have z1 := heap_setCell_same _ (w.heap.size + 1 + 1) 1 _ _ (.int .i64 n) z0
      have hWf : Mod (fun k' => k' = w.heap.size + 1 + 1) wr ((wr.setCell ⟨w.heap.size + 1 + 1, 0, none⟩ (.slice a6 k c6)).setCell ⟨w.heap.size + 1 + 1, 1, none⟩ (.int .i64 n)) := ((Mod.refl (fun k' => k' = w.heap.size + 1 + 1) wr).setCell (p := ⟨w.heap.size + 1 + 1, 0, none⟩) (fun _ => rfl) _).setCell (p := ⟨w.heap.size + 1 + 1, 1, none⟩) (fun _ => rfl) _
      have e0' := cell_of_row _ _ 0 _ _ _ z1; have e1' := cell_of_row _ _ 1 _ _ _ z1
      simp at e0' e1'
      have hlen : (thenXs xs ys).length = ys.length := by simp [thenXs]
      refine bodyPost_ret (v := .tuple #[.agg #[.slice a6 ys.length c6, .int .i64 n], .int .i64 0]) (by simp [results, Tryz.results92, go_sem, e0', e1', HEND.out]) rfl ⟨a6, c6, rfl, ?_, fun g hg => ?_, HPU.out.then hWf (fun g hg h => by omega)⟩
      · unfold U32Row
        rw [hlen, HEND.out]
        have := owns_mod HO6.out hWf (fun g hg => by have := HF6.out g hg; omega)
        rw [← HEND.out, List.take_length, HEND.out] at this
        exact this
      · rw [HEND.out] at hg
        have := HF6.out g hg; omega
end Go.Proofs.YtapplindfijngaaGreat

/- law11.keys answers the keys in order. Condition: the log is made (LogRow). -/
namespace Go.Proofs.YtapplindfijngaaGreat
open Go.RowKit Go.Shelf
set_option maxRecDepth 100000
attribute [local go_sem] Oper.semAt_some

/-! ### keys -/
theorem run_equalIn_func {P : Program} (w : World) (d : Nat) (t : TypeId) {ps rs : Array TypeId} {v : Bool} (fn : Fn) (fi ca : Array Value) (h : P.underlying t = some (.func ps rs v)) : (Op.equalIn (d + 1) t (.func fn fi ca) .nilFunc).run P w = .ok false w := by
  simp [Op.equalIn, run_underlying h]
@[go_sem] theorem neq_seq (w : World) (fn : Fn) (fi ca : Array Value) : (binOp .neq 99 (.func fn fi ca) .nilFunc).run Tryz.prog w = .ok (.bool true) w := by
  simp only [binOp]
  simp [Op.equal, Op.maxDepth, run_equalIn_func w 9999 _ fn fi ca Tryz.underlying99]
@[go_sem] theorem eql_seq (w : World) (fn : Fn) (fi ca : Array Value) : (binOp .eql 99 (.func fn fi ca) .nilFunc).run Tryz.prog w = .ok (.bool false) w := by
  simp only [binOp]
  simp [Op.equal, Op.maxDepth, run_equalIn_func w 9999 _ fn fi ca Tryz.underlying99]
def keysOf (L : List (Nat × Ent)) : ByteArray := L.foldl (fun s g => s ++ g.2.key) ⟨#[]⟩
structure KInv (w : World) (b : Nat) (pre : List Given) (W : World) : Prop where
  r : W.heap[b]? = some (.cells #[.string (keysOf (pre.map keyG))] 9 (0, 0))
  pu : Pure w W
  sz : (keysOf (pre.map keyG)).size ≤ 250 * pre.length
theorem KInv.quiet {w : World} {b : Nat} {pre : List Given} {A B : World} (h : KInv w b pre A) {N : Nat} (hN : w.heap.size ≤ N) (hq : Quiet N A B) : KInv w b pre B := ⟨hq.cells h.r, hq.mod h.pu hN, h.sz⟩

def KAx (w : World) (p B : Nat) (It : Nat → Prop) (N : Nat) (pre : List Given) (x : Given) (a' : Act) (W : World) : Prop :=
  ∃ b8 va vn vc, x.2.2 = .slice va vn vc ∧ KInv w w.heap.size pre W ∧ W.heap[b8]? = some (.cells #[.string x.2.1.key, x.2.2, .int .u64 x.2.1.dl, .int .u64 x.2.1.birth] 42 (0, 0)) ∧ N ≤ b8 ∧ N ≤ W.heap.size ∧ x.2.1.key.size ≤ 250 ∧ pre.length ≤ 4194304 ∧
    a' = { tmps := #[.pointer (some ⟨p, 0, none⟩), undef, .string ⟨#[]⟩, .pointer (some ⟨w.heap.size, 0, none⟩), .func (.func 127) #[] #[.pointer (some ⟨B, 0, none⟩)], undef, .pointer (some ⟨b8, 0, none⟩), .pointer (some ⟨p, 0, none⟩),
      .func (.func 127) #[] #[.pointer (some ⟨B, 0, none⟩)], .func (.func 127) #[] #[.pointer (some ⟨B, 0, none⟩)], .bool true, .func (.func 127) #[] #[.pointer (some ⟨B, 0, none⟩)],
      .int .u32 x.1, .agg #[.string x.2.1.key, x.2.2, .int .u64 x.2.1.dl, .int .u64 x.2.1.birth], undef, undef, undef, undef, undef], defers := [] }
theorem KAx.quiet {w : World} {p B : Nat} {It : Nat → Prop} {N : Nat} {pre : List Given} {x : Given} {a' : Act} {A W : World} (h : KAx w p B It N pre x a' A) (hN : w.heap.size ≤ N) (hq : Quiet N A W) : KAx w p B It N pre x a' W := by
  obtain ⟨b8, va, vn, vc, h1, h2, h3, h4, h5, h6⟩ := h
  exact ⟨b8, va, vn, vc, h1, h2.quiet hN hq, hq.cells h3, h4, Nat.le_trans h5 (Mod.size hq), h6⟩

set_option maxHeartbeats 1000000 in
theorem keys_any {w : World} {D : Nat → Prop} {p : Nat} {sv : Value} {M : List (Option Ent × Value)} (h : LogRow w D p sv M) :
    Calls Tryz.prog 88 #[.pointer (some ⟨p, 0, none⟩)] w fun e w' => e = .returned (.string (keysOf (live (M.map Prod.fst)))) ∧ Pure w w' := by
  have HL := Lib.hid h
  clear h
  refine (callsIn_wide (n := 0)).1 (callsIn_of_wp_marks Tryz.func88 rfl trivial ?_ rfl)
  simp only [Tryz.ntmps88, List.size_toArray, List.length_cons, List.length_nil, Nat.reduceAdd, Nat.reduceSub, Array.replicate_succ, Array.replicate_zero, List.push_toArray, List.append_toArray, List.nil_append, List.cons_append]
  gi_wp2_with (first
    | (gi_at_call 76; refine (callsIn_wide.2 (All_any (HL.out.pure (by (repeat' (first | (with_reducible exact Mod.refl _ _) | (with_reducible refine Mod.alloc ?_ _) | (with_reducible refine Mod.drew ?_) | (with_reducible refine Mod.drewN ?_ _) | (with_reducible refine Mod.setCell ?_ ?_ _) | (refine Mod.then ?_ (by with_reducible assumption) ?_))) <;> (all_goals (intros; first | (exfalso; assumption) | omega | (simp at *; done) | (simp at *; omega))))))).mono ?_; rintro e w3 ⟨B, a, c, rfl, hit, hp3, hB, hfr⟩))
  have HI := Lib.hid hit
  have hItlt : ∀ k, iterBlocks B (.slice a M.length c) M k → k < w3.heap.size := by
    rintro k (rfl | h | ⟨e, v, hm, h⟩)
    · exact lt_of_block hit.box
    · exact owns_lt hit.row h
    · exact owns_lt (hit.vals e v hm) h
  have hw3 : w.heap.size < w3.heap.size := by have := hp3.size; simp at this; omega
  have hIq : ¬ iterBlocks B (.slice a M.length c) M w.heap.size := by
    simp at hB
    rintro (h | h | ⟨e, v, hm, h⟩)
    · omega
    · have := hfr _ h; simp at this; omega
    · have := owns_lt (HL.out.vals e v hm) h; omega
  have hI0 : KInv w w.heap.size [] w3 := ⟨hp3.heap (fun h => h) (heap_new rfl), (by have := (Mod.refl (fun _ => False) w).alloc (.cells #[.string ⟨#[]⟩] 9); exact this.trans hp3), Nat.le_refl _⟩
  have HIQ := Lib.hid hIq
  clear hit hp3 hB hfr hIq
  generalize hIt : iterBlocks B (.slice a M.length c) M = It at *
  refine wp_range (gf := 127) (lb := #[.pointer (some ⟨B, 0, none⟩)]) rfl (enters_of Tryz.func127 (by kernel_rfl) rfl) (It := It) (hIt ▸ All_iter HI.out w3.heap.size (Nat.le_refl _)) hItlt (fun _ => rfl)
    (fun pre W => KInv w w.heap.size pre W ∧ w3.heap.size ≤ W.heap.size) (fun _ _ _ => False) ?hI ?hIx ⟨hI0, Nat.le_refl _⟩ (KAx w p B It w3.heap.size) ?hAx ?assign ?body ?done ?stop
  case hI => exact fun pre A B ⟨h, hz⟩ hq => ⟨h.quiet (by omega) hq, Nat.le_trans hz (Mod.size hq)⟩
  case hIx => exact fun _ _ _ _ h _ => h
  case hAx => exact fun _ _ _ _ _ h hq => h.quiet (by omega) hq
  case assign =>
    rintro l pre ⟨i, x, v⟩ W K ⟨hI, hWs⟩ hG hK
    obtain ⟨va, vc, hv, _⟩ := owns_form hG.2.1
    obtain ⟨post, hpost⟩ := hG.1
    have hmem := live_mem (g := (i, x)) (by rw [hpost]; simp [keyG])
    have hkey : x.key.size ≤ 250 := (HL.out.ok.ent x (List.mem_of_getElem? hmem)).k1
    have hpl : pre.length ≤ 4194304 := by have := Nat.le_trans (live_length _) HL.out.ok.len; rw [hpost] at this; simp at this; omega
    dsimp only at hv
    subst hv
    dsimp only [encG]
    clear hpost hmem
    have HCI := Lib.hid hI
    have HK := Lib.hid hK
    clear hI hG hK hI0 HI hItlt
    gi_wp2
    have hP : Pure W (W.alloc (.cells #[.string x.key, .slice va (bytesOf x.val).length vc, .int .u64 x.dl, .int .u64 x.birth] 42)) := (Mod.refl _ W).alloc _
    exact HK.out _ _ hP ⟨W.heap.size, va, _, vc, rfl, HCI.out.quiet (N := w3.heap.size) (by omega) (Quiet.of_pure hP), heap_new rfl, hWs, Nat.le_trans hWs hP.size, hkey, hpl, rfl⟩
  case body =>
    rintro l pre ⟨i, x, v⟩ a' W hl hlr ⟨b8, va, vn, vc, rfl, hI, hb8, hN8, hWs, hkey, hpl, rfl⟩
    have hsz := hI.sz
    dsimp only at hkey
    have e8 := cell_of_row W _ 0 _ _ _ hb8
    have h3 := hI.r
    have e3 := cell_of_row W _ 0 _ _ _ h3
    have f3 := fun j => frozen_of_row W _ j _ _ h3
    simp at e8 e3
    have HCI := Lib.hid hI
    clear hI hI0 HI hItlt
    generalize hks : keysOf (pre.map keyG) = ks at e3 hsz
    have hsum : ¬ (9223372036854775807 < ks.size + x.key.size) := by omega
    have hsum2 : ks.size + x.key.size ≤ 9223372036854775807 := by omega
    have hksn : keysOf ((pre ++ [(i, x, Value.slice va vn vc)]).map keyG) = ks ++ x.key := by
      rw [← hks]
      simp [keysOf, keyG]
    have HKS := Lib.hid hksn
    have HR := Lib.hid h3
    clear h3 hks hksn
    gi_wp2
    have hM : Mod (fun k => k = w.heap.size) W (W.setCell ⟨w.heap.size, 0, none⟩ (.string (ks ++ x.key))) := (Mod.refl (fun k => k = w.heap.size) W).setCell (p := ⟨w.heap.size, 0, none⟩) (fun _ => rfl) _
    refine ⟨KeepsRec.of_mod hM (fun k hk h => by omega), KeepsIt.of_mod hM (fun k hk h => by subst h; exact HIQ.out hk), ⟨?_, HCI.out.pu.then hM (fun k hk h => by omega), ?_⟩, Nat.le_trans hWs hM.size⟩
    · rw [HKS.out]
      simpa using heap_setCell_same W w.heap.size 0 _ _ (.string (ks ++ x.key)) HR.out
    · rw [HKS.out, List.length_append, ByteArray.size_append]
      simp
      omega
  case done =>
    rintro l xs W hl hS ⟨hI, hWs⟩ hK
    have h3 := hI.r
    rw [hS] at h3
    have e3 := cell_of_row W _ 0 _ _ _ h3
    have f3 := fun j => frozen_of_row W _ j _ _ h3
    simp at e3
    have HCI := Lib.hid hI
    have HK := Lib.hid hK
    clear hI hI0 HI hItlt hS hK h3
    gi_wp2
    refine bodyPostM_drained (v := .string (keysOf (live (M.map Prod.fst)))) HK.out (by simp [results, Tryz.results88, go_sem]) ⟨rfl, (Quiet.putObj (N := w3.heap.size) _ hl HK.out rfl).mod HCI.out.pu (by omega)⟩
  case stop => exact fun _ _ _ _ _ h _ => h.elim
end Go.Proofs.YtapplindfijngaaGreat

/- compact.Due and its reference answer dueM. Condition: the numbers are ints. -/
namespace Go.Proofs.YtapplindfijngaaGreat
open Go.RowKit Go.Shelf
set_option maxRecDepth 100000

/-! ### Due -/
def dueM (a b : Int) : Bool := decide (0 ≤ b) && decide (16 < a) && decide (2 * b ≤ a - 17)
theorem Due_any (w : World) (a b : Int) (a0 : -9223372036854775808 ≤ a) (a1 : a ≤ 9223372036854775807) :
    Calls Tryz.prog 93 #[.int .i64 a, .int .i64 b] w fun e w' => e = .returned (.bool (dueM a b)) ∧ w = w' := by
  unfold dueM
  by_cases h1 : 0 ≤ b
  · by_cases h2 : 16 < a
    · have h3 : (a - 16 - 1).tdiv 2 = (a - 17) / 2 := by rw [Int.tdiv_eq_ediv_of_nonneg (by omega)]; omega
      by_cases h4 : 2 * b ≤ a - 17
      · have h5 : b ≤ (a - 17) / 2 := by omega
        go_enter Tryz.func93, Tryz.ntmps93
        go_wp2
        go_ret
        exact ⟨by simp <;> omega, rfl⟩
      · have h5 : (a - 17) / 2 < b := by omega
        go_enter Tryz.func93, Tryz.ntmps93
        go_wp2
        go_ret
        exact ⟨by simp <;> omega, rfl⟩
    · have h2' : a ≤ 16 := by omega
      go_enter Tryz.func93, Tryz.ntmps93
      go_wp2
      go_ret
      exact ⟨by simp <;> omega, rfl⟩
  · have h1' : b < 0 := by omega
    go_enter Tryz.func93, Tryz.ntmps93
    go_wp2
    go_ret
    exact ⟨by simp <;> omega, rfl⟩

end Go.Proofs.YtapplindfijngaaGreat

/- The contracts of the log of layer 9 and of compact.Log on lists of entries. Conditions: the log is made (LogAt), the bounds that each theorem names. -/
namespace Go.Proofs.YtapplindfijngaaGreat
open Go.RowKit Go.Shelf
set_option maxRecDepth 100000

/-- What compact.Log returns: the log of the entries, and their old slot numbers. -/
def packed (L : List (Option Ent)) : List (Option Ent) := (live L).map (fun g => some g.2)
def olds (L : List (Option Ent)) : List Nat := (live L).map Prod.fst
def compactA (w : World) (L : List (Option Ent)) (e : Ending) (w' : World) : Prop :=
  ∃ q a c D, e = .returned (.tuple #[logPtr q, .agg #[.slice a (olds L).length c, .int .i64 L.length], .int .i64 0]) ∧ LogAt w' D q (packed L) ∧ U32Row w' a c (olds L) ∧ Pure w w' ∧ (∀ k, D k → w.heap.size ≤ k) ∧ Fresh w (.slice a (olds L).length c)
theorem olds_length (L : List (Option Ent)) : (olds L).length = (live L).length := by simp [olds]
theorem compactA_ok {w : World} {D : Nat → Prop} {p : Nat} {L : List (Option Ent)} (h : LogAt w D p L) : Calls Tryz.prog 87 #[logPtr p] w (compactA w L) := by
  obtain ⟨sv, M, rfl, h⟩ := h
  refine Calls.mono (compact_Log h) ?_
  rintro e w' ⟨q, a, c, D', sv', M', rfl, h1, h2, h3, h4, h5, h6⟩
  refine ⟨q, a, c, D', by rw [olds_length], ?_, ?_, h4, h5, by rw [olds_length]; exact h6⟩
  · have := h1.toAt
    rw [h2] at this
    exact this
  · unfold U32Row
    rw [olds_length, olds, u32s, List.map_map]
    exact h3
theorem liveFrom_up (L : List (Option Ent)) : ∀ i, ((liveFrom i L).map Prod.fst).Pairwise (· < ·) := by
  induction L with
  | nil => intro i; simp [liveFrom]
  | cons o L ih =>
    intro i
    cases o with
    | none => exact ih (i + 1)
    | some e =>
      simp only [liveFrom, List.map_cons, List.pairwise_cons]
      refine ⟨fun y hy => ?_, ih (i + 1)⟩
      obtain ⟨g, hg, rfl⟩ := List.mem_map.1 hy
      have := (liveFrom_mem hg).1
      omega
theorem olds_rising {L : List (Option Ent)} (h : L.length ≤ 4194304) : Rising (olds L) := by
  refine ⟨liveFrom_up L 0, ?_, by rw [olds_length]; exact Nat.le_trans (live_length L) h⟩
  intro x hx
  obtain ⟨g, hg, rfl⟩ := List.mem_map.1 hx
  have := (List.getElem?_eq_some_iff.1 (live_mem hg)).1
  omega
theorem olds_lt {L : List (Option Ent)} : ∀ x ∈ olds L, x < L.length := by
  intro x hx
  obtain ⟨g, hg, rfl⟩ := List.mem_map.1 hx
  exact (List.getElem?_eq_some_iff.1 (live_mem hg)).1
theorem keysA {w : World} {D : Nat → Prop} {p : Nat} {L : List (Option Ent)} (h : LogAt w D p L) : Calls Tryz.prog 88 #[logPtr p] w fun e w' => e = .returned (.string (keysOf (live L))) ∧ Pure w w' := by
  obtain ⟨sv, M, rfl, h⟩ := h
  exact keys_any h

/-! ### to, from, with numerals -/
theorem toZ {w : World} {a : Option Addr} {c : Nat} {xs : List Nat} (h : U32Row w a c xs) (hr : Rising xs) (k : Nat) (hk : xs.length = k) (n o want no : Int) (r : Bool) (ho : 0 ≤ o ∧ o ≤ 4294967295 ∧ 0 ≤ want ∧ 0 ≤ no) (hd : decide (toM xs o.toNat = (want.toNat, no.toNat)) = r) :
    Calls Tryz.prog 90 #[.agg #[.slice a k c, .int .i64 n], .int .u32 o, .int .u32 want, .int .i64 no] w fun e w' => e = .returned (.bool r) ∧ Pure w w' := by
  subst hk hd
  obtain ⟨o, rfl⟩ := Int.eq_ofNat_of_zero_le ho.1
  obtain ⟨want, rfl⟩ := Int.eq_ofNat_of_zero_le ho.2.2.1
  obtain ⟨no, rfl⟩ := Int.eq_ofNat_of_zero_le ho.2.2.2
  exact law_to h hr n o want no (by omega)
theorem fromZ {w : World} {a : Option Addr} {c : Nat} {xs : List Nat} (h : U32Row w a c xs) (hr : xs.length ≤ 4194304) (k : Nat) (hk : xs.length = k) (n o want no : Int) (r : Bool) (ho : 0 ≤ o ∧ o ≤ 4294967295 ∧ 0 ≤ want ∧ 0 ≤ no) (hd : decide (fromM xs o.toNat = (want.toNat, no.toNat)) = r) :
    Calls Tryz.prog 91 #[.agg #[.slice a k c, .int .i64 n], .int .u32 o, .int .u32 want, .int .i64 no] w fun e w' => e = .returned (.bool r) ∧ Pure w w' := by
  subst hk hd
  obtain ⟨o, rfl⟩ := Int.eq_ofNat_of_zero_le ho.1
  obtain ⟨want, rfl⟩ := Int.eq_ofNat_of_zero_le ho.2.2.1
  obtain ⟨no, rfl⟩ := Int.eq_ofNat_of_zero_le ho.2.2.2
  exact law_from h hr n o want no (by omega)
theorem lensZ {w : World} (a : Option Addr) (c : Nat) (k : Nat) (n x y : Int) (r : Bool) (hr : (decide ((k : Int) = x) && decide (n = y)) = r) :
    Calls Tryz.prog 89 #[.agg #[.slice a k c, .int .i64 n], .int .i64 x, .int .i64 y] w fun e w' => e = .returned (.bool r) ∧ Pure w w' := by
  subst hr
  exact law_lens a c k n x y
theorem dueZ (w : World) (a b : Int) (r : Bool) (h : -9223372036854775808 ≤ a ∧ a ≤ 9223372036854775807) (hr : dueM a b = r) : Calls Tryz.prog 93 #[.int .i64 a, .int .i64 b] w fun e w' => e = .returned (.bool r) ∧ w = w' := by
  subst hr
  exact Due_any w a b h.1 h.2
end Go.Proofs.YtapplindfijngaaGreat
