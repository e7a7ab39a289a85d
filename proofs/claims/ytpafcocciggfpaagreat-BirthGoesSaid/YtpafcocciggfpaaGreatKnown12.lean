/- law12.known answers true. -/
import Derived.Test.YtpafcocciggfpaaGreatLaw12
namespace Go.Proofs.YtpafcocciggfpaaGreat
open Go.RowKit Go.Shelf
set_option maxRecDepth 100000

/-- A dictionary that was made since w, all of it. -/
def DF (w W : World) (d seed : Nat) (same : Bool) (L : List (Option Ent)) : Prop := ∃ D Gs, DictAt W D d seed same L Gs ∧ Pure w W ∧ ∀ k, D k → w.heap.size ≤ k
/-- Counters keep. -/
def CKeep (W W' : World) : Prop := ∀ c n, Ctr W c n → Ctr W' c n
section
variable {w W W' : World} {d seed : Nat} {same : Bool} {L : List (Option Ent)}
theorem DF.pu (h : DF w W d seed same L) : Pure w W := by obtain ⟨D, Gs, h1, h2, h3⟩ := h; exact h2
theorem DF.pure (h : DF w W d seed same L) (hp : Pure W W') : DF w W' d seed same L := by
  obtain ⟨D, Gs, h1, h2, h3⟩ := h
  exact ⟨D, Gs, h1.pure hp, h2.trans hp, h3⟩
theorem DF.ok (h : DF w W d seed same L) : LogOk L := by
  obtain ⟨D, Gs, h1, h2, h3⟩ := h
  exact h1.ok
/-- Behind a change of a counter that was made since. -/
theorem DF.ctr (h : DF w W d seed same L) {c n : Nat} (hc : Ctr W c n) (hcw : w.heap.size ≤ c) (hm : Mod (fun k => k = c) W W') : DF w W' d seed same L := by
  obtain ⟨D, Gs, h1, h2, h3⟩ := h
  refine ⟨D, Gs, h1.frame hm (fun k hk e => ?_) (fun k _ e cs fz e2 => ?_), h2.then hm (fun i hi e => by omega), h3⟩
  · subst e
    rcases h1.types hk hc with e | e | e | e | e <;> cases e
  · subst e; rw [hc] at e2; cases e2
theorem newF (seed : Nat) (same : Bool) (hs : seed < 18446744073709551616) (h : Pure w W) : Calls Tryz.prog 11 #[.agg #[.int .u64 seed, .bool same]] W fun e w' => ∃ d, e = .returned (dPtr d) ∧ DF w w' d seed same [] ∧ Pure W w' := by
  refine Calls.mono (dnew_ok seed same hs W) ?_
  rintro e w' ⟨d, D, rfl, h1, h2, h3⟩
  exact ⟨d, rfl, ⟨D, _, h1, h.trans h2, fun k hk => Nat.le_trans h.size (h3 k hk)⟩, h2⟩
theorem addsF (h : DF w W d seed same L) (key : ByteArray) (b : Int) (hok : (Ent.mk key [] 0 b).Ok) (hL : L.length < 4194304) (hf : findK L key = none) :
    Calls Tryz.prog 55 #[dPtr d, .string key, .int .u64 b] W fun e w' => e = .returned (.bool true) ∧ DF w w' d seed same (L ++ [some ⟨key, [], 0, b⟩]) ∧ CKeep W w' := by
  obtain ⟨D, Gs, h1, h2, h3⟩ := h
  refine Calls.mono (adds12_ok h1 key b hok hL hf) ?_
  rintro e w' ⟨rfl, D', Gs', g1, g2, g3⟩
  refine ⟨rfl, ⟨D', Gs', g1, h2.then g2 (fun i hi e => by have := h3 i e; omega), fun k hk => ?_⟩, fun c n hc => ?_⟩
  · rcases g3 k hk with e | e
    · exact h3 k e
    · exact Nat.le_trans h2.size e
  · refine g2.heap (fun e => ?_) hc
    rcases h1.types e hc with e | e | e | e | e <;> cases e
theorem afterF (h : DF w W d seed same L) (b want no : Int) (hb : 0 ≤ b ∧ b < 18446744073709551616 ∧ 0 ≤ want ∧ 0 ≤ no) (hr : isP (afterV L b.toNat) want.toNat no.toNat = true) :
    Calls Tryz.prog 57 #[dPtr d, .int .u64 b, .int .u32 want, .int .i64 no] W fun e w' => e = .returned (.bool true) ∧ Pure W w' := by
  obtain ⟨D, Gs, h1, h2, h3⟩ := h
  obtain ⟨b, rfl⟩ := Int.eq_ofNat_of_zero_le hb.1
  obtain ⟨want, rfl⟩ := Int.eq_ofNat_of_zero_le hb.2.2.1
  obtain ⟨no, rfl⟩ := Int.eq_ofNat_of_zero_le hb.2.2.2
  have := after12_ok (After_ok (allOf_dict h1) (notZ_dict h1) b (by omega)) want no
  simp only [Int.toNat_natCast] at hr
  rw [hr] at this
  exact this
theorem findsF (h : DF w W d seed same L) (b want no : Int) (hb : 0 ≤ b ∧ 0 ≤ want ∧ 0 ≤ no) (hr : isP (findBV L b.toNat) want.toNat no.toNat = true) :
    Calls Tryz.prog 58 #[dPtr d, .int .u64 b, .int .u32 want, .int .i64 no] W fun e w' => e = .returned (.bool true) ∧ Pure W w' := by
  obtain ⟨D, Gs, h1, h2, h3⟩ := h
  obtain ⟨b, rfl⟩ := Int.eq_ofNat_of_zero_le hb.1
  obtain ⟨want, rfl⟩ := Int.eq_ofNat_of_zero_le hb.2.1
  obtain ⟨no, rfl⟩ := Int.eq_ofNat_of_zero_le hb.2.2
  have := finds12_ok (FindB_ok (allOf_dict h1) (notZ_dict h1) b) want no
  simp only [Int.toNat_natCast] at hr
  rw [hr] at this
  exact this
theorem ranksF (h : DF w W d seed same L) (b want : Int) (hb : 0 ≤ b ∧ 0 ≤ want) (hr : (rankL (live L) b == want.toNat) = true) :
    Calls Tryz.prog 59 #[dPtr d, .int .u64 b, .int .i64 want] W fun e w' => e = .returned (.bool true) ∧ Pure W w' := by
  obtain ⟨D, Gs, h1, h2, h3⟩ := h
  obtain ⟨b, rfl⟩ := Int.eq_ofNat_of_zero_le hb.1
  obtain ⟨want, rfl⟩ := Int.eq_ofNat_of_zero_le hb.2
  have := ranks12_ok (Rank_ok (allOf_dict h1) (notZ_dict h1) b) want
  simp only [Int.toNat_natCast] at hr
  rw [hr] at this
  exact this
theorem sortedK (h : DF w W d seed same L) (r : Bool) (hr : sortedF 0 (live L) = r) : Calls Tryz.prog 56 #[dPtr d] W fun e w' => e = .returned (.bool r) ∧ Pure W w' := by
  obtain ⟨D, Gs, h1, h2, h3⟩ := h
  subst hr
  exact Sorted_ok (allOf_dict h1)
theorem givesZ {c n : Nat} (h : Ctr W c n) (want no : Int) (hn : n < 18446744073709551616 ∧ 0 ≤ want ∧ 0 ≤ no) (hr : isP (nxV n) want.toNat no.toNat = true) (m : Nat) (hm : nxS n = m) :
    Calls Tryz.prog 117 #[cPtr c, .int .u64 want, .int .i64 no] W fun e w' => e = .returned (.bool true) ∧ Ctr w' c m ∧ Mod (fun k => k = c) W w' := by
  obtain ⟨want, rfl⟩ := Int.eq_ofNat_of_zero_le hn.2.1
  obtain ⟨no, rfl⟩ := Int.eq_ofNat_of_zero_le hn.2.2
  have := gives12_ok h hn.1 want no
  simp only [Int.toNat_natCast] at hr
  rw [hr, hm] at this
  exact this
end
def L3 : List (Option Ent) := [some ⟨⟨#[97]⟩, [], 0, 2⟩, some ⟨⟨#[98]⟩, [], 0, 5⟩, some ⟨⟨#[99]⟩, [], 0, 9⟩]
set_option maxHeartbeats 2000000 in
theorem known12_true (w : World) : Calls Tryz.prog 52 #[] w fun e w' => e = .returned (.bool true) ∧ Pure w w' := by
  have HN := Lib.hid (fun W => hnew_ok 1 false W)
  have HW := Lib.hid (Mod.refl (fun _ => False) w)
  go_enter Tryz.func52, Tryz.ntmps52
  go_upto_region 2 with (first
    | (go_at_call 12; refine Calls.mono (HN.out _) ?_; rintro e w1 ⟨rfl, hp1⟩)
    | (go_at_call 11; refine Calls.mono (newF (w := w) 1 false (by decide) hp1) ?_; rintro e w2 ⟨d, rfl, hd, _⟩))
  have HD := Lib.hid hd
  clear hd hp1 HN
  have T1 : True := trivial; have T2 : True := trivial; have T3 : True := trivial
  go_upto_region 4 with (first
    | (go_at_call 55; clear T1; refine Calls.mono (addsF HD.out ⟨#[97]⟩ 2 ⟨by decide, by decide, by decide, by decide⟩ (by decide) (by decide)) ?_; rintro e w3 ⟨rfl, hd3, _⟩; replace HD := Lib.hid hd3; clear hd3)
    | (go_at_call 55; clear T2; refine Calls.mono (addsF HD.out ⟨#[98]⟩ 5 ⟨by decide, by decide, by decide, by decide⟩ (by decide) (by decide)) ?_; rintro e w4 ⟨rfl, hd4, _⟩; replace HD := Lib.hid hd4; clear hd4)
    | (go_at_call 55; clear T3; refine Calls.mono (addsF HD.out ⟨#[99]⟩ 9 ⟨by decide, by decide, by decide, by decide⟩ (by decide) (by decide)) ?_; rintro e w5 ⟨rfl, hd5, _⟩; replace HD := Lib.hid hd5; clear hd5))
  have HD3 : Hid (DF w w5 d 1 false L3) := HD.out
  clear HD
  have T4 : True := trivial; have T5 : True := trivial; have T6 : True := trivial; have T7 : True := trivial; have T8 : True := trivial; have T9 : True := trivial; have T10 : True := trivial; have T11 : True := trivial; have T12 : True := trivial
  go_upto_region 6 with (first
    | (go_at_call 57; clear T4; refine Calls.mono (afterF HD3.out 0 0 0 (by decide) (by decide)) ?_; rintro e w6 ⟨rfl, hp6⟩; replace HD3 := Lib.hid (HD3.out.pure hp6); clear hp6)
    | (go_at_call 57; clear T5; refine Calls.mono (afterF HD3.out 2 1 0 (by decide) (by decide)) ?_; rintro e w7 ⟨rfl, hp6⟩; replace HD3 := Lib.hid (HD3.out.pure hp6); clear hp6)
    | (go_at_call 57; clear T6; refine Calls.mono (afterF HD3.out 8 2 0 (by decide) (by decide)) ?_; rintro e w8 ⟨rfl, hp6⟩; replace HD3 := Lib.hid (HD3.out.pure hp6); clear hp6)
    | (go_at_call 57; clear T7; refine Calls.mono (afterF HD3.out 9 0 14 (by decide) (by decide)) ?_; rintro e w9 ⟨rfl, hp6⟩; replace HD3 := Lib.hid (HD3.out.pure hp6); clear hp6)
    | (go_at_call 58; clear T8; refine Calls.mono (findsF HD3.out 5 1 0 (by decide) (by decide)) ?_; rintro e w10 ⟨rfl, hp6⟩; replace HD3 := Lib.hid (HD3.out.pure hp6); clear hp6)
    | (go_at_call 58; clear T9; refine Calls.mono (findsF HD3.out 4 0 9 (by decide) (by decide)) ?_; rintro e w11 ⟨rfl, hp6⟩; replace HD3 := Lib.hid (HD3.out.pure hp6); clear hp6)
    | (go_at_call 59; clear T10; refine Calls.mono (ranksF HD3.out 5 1 (by decide) (by decide)) ?_; rintro e w12 ⟨rfl, hp6⟩; replace HD3 := Lib.hid (HD3.out.pure hp6); clear hp6)
    | (go_at_call 59; clear T11; refine Calls.mono (ranksF HD3.out 10 3 (by decide) (by decide)) ?_; rintro e w13 ⟨rfl, hp6⟩; replace HD3 := Lib.hid (HD3.out.pure hp6); clear hp6)
    | (go_at_call 56; clear T12; refine Calls.mono (sortedK HD3.out true (by decide)) ?_; rintro e w14 ⟨rfl, hp6⟩; replace HD3 := Lib.hid (HD3.out.pure hp6); clear hp6))
  have T1 : True := trivial; have T2 : True := trivial
  go_upto_region 7 with (first
    | (go_at_call 53; clear T1; refine Calls.mono (CNew_ok 0 _) ?_; rintro e w15 ⟨rfl, hc1, hp1, hl1⟩)
    | (go_at_call 53; clear T2; refine Calls.mono (CNew_ok 18446744073709551614 _) ?_; rintro e w16 ⟨rfl, hc2, hp2, hl2⟩))
  have HC1 := Lib.hid (hc1.pure hp2); have HC2 := Lib.hid hc2
  have hw14 := HD3.out.pu.size
  replace HD3 := Lib.hid ((HD3.out.pure hp1).pure hp2)
  clear hc1 hc2 hp1 hp2
  obtain ⟨c1, e1⟩ : ∃ c, w14.heap.size = c := ⟨_, rfl⟩
  obtain ⟨c2, e2⟩ : ∃ c, w15.heap.size = c := ⟨_, rfl⟩
  rw [e1] at HC1 hl1 hw14 ⊢
  rw [e2] at HC2 hl1 hl2 ⊢
  clear e1 e2 hl2
  have T1 : True := trivial; have T2 : True := trivial; have T3 : True := trivial; have T4 : True := trivial; have T5 : True := trivial; have T6 : True := trivial; have T7 : True := trivial
  go_wp2_with (first
    | (go_at_call 55; clear T1; refine Calls.mono (addsF HD3.out ⟨#[100]⟩ 7 ⟨by decide, by decide, by decide, by decide⟩ (by decide) (by decide)) ?_; rintro e w17 ⟨rfl, hd3, hk⟩; replace HC1 := Lib.hid (hk _ _ HC1.out); replace HC2 := Lib.hid (hk _ _ HC2.out); have HD4 := Lib.hid hd3; clear hd3 hk HD3)
    | (go_at_call 56; clear T2; refine Calls.mono (sortedK HD4.out false (by decide)) ?_; rintro e w18 ⟨rfl, hp6⟩; replace HC1 := Lib.hid (HC1.out.pure hp6); replace HC2 := Lib.hid (HC2.out.pure hp6); replace HD4 := Lib.hid (HD4.out.pure hp6); clear hp6)
    | (go_at_call 117; clear T3; refine Calls.mono (givesZ HC1.out 1 0 (by decide) (by decide) 1 (by decide)) ?_; rintro e w19 ⟨rfl, hc, hm⟩; replace HD4 := Lib.hid (HD4.out.ctr HC1.out hw14 hm); replace HC1 := Lib.hid hc; replace HC2 := Lib.hid (show Ctr _ _ _ from hm.heap (by omega) HC2.out); clear hc hm)
    | (go_at_call 117; clear T4; refine Calls.mono (givesZ HC1.out 2 0 (by decide) (by decide) 2 (by decide)) ?_; rintro e w20 ⟨rfl, hc, hm⟩; replace HD4 := Lib.hid (HD4.out.ctr HC1.out hw14 hm); replace HC1 := Lib.hid hc; replace HC2 := Lib.hid (show Ctr _ _ _ from hm.heap (by omega) HC2.out); clear hc hm)
    | (go_at_call 118; clear T5; refine Calls.mono (CLast_ok HC1.out) ?_; rintro e w21 ⟨rfl, rfl⟩)
    | (go_at_call 117; clear T6; refine Calls.mono (givesZ HC2.out 18446744073709551615 0 (by decide) (by decide) 18446744073709551615 (by decide)) ?_; rintro e w22 ⟨rfl, hc, hm⟩; replace HD4 := Lib.hid (HD4.out.ctr HC2.out (by omega) hm); replace HC2 := Lib.hid hc; clear hc hm)
    | (go_at_call 117; clear T7; refine Calls.mono (givesZ HC2.out 0 7 (by decide) (by decide) 18446744073709551615 (by decide)) ?_; rintro e w23 ⟨rfl, hc, hm⟩; replace HD4 := Lib.hid (HD4.out.ctr HC2.out (by omega) hm); replace HC2 := Lib.hid hc; clear hc hm))
  go_ret
  exact ⟨rfl, HD4.out.pu⟩
end Go.Proofs.YtpafcocciggfpaaGreat
