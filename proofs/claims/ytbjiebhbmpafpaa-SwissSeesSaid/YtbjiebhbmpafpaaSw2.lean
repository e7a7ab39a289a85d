/- swiss: Valid for any number, New and Rehash where they fail, Copy. -/
import Derived.Test.YtbjiebhbmpafpaaR7f
import Derived.Test.YtbjiebhbmpafpaaZero7
namespace Go.Proofs.Ytbjiebhbmpafpaa
open Go.RowKit Go.Shelf
set_option maxRecDepth 100000

theorem and_pred : ∀ g : Nat, 0 < g → g &&& (g - 1) = 0 → ∃ k, g = 2 ^ k
  | g, h0, h => by
    have hd : (g &&& (g - 1)) / 2 = g / 2 &&& (g - 1) / 2 := Nat.and_div_two
    rw [h] at hd
    rcases Nat.mod_two_eq_zero_or_one g with h2 | h2
    · have e1 : (g - 1) / 2 = g / 2 - 1 := by omega
      rw [e1] at hd
      obtain ⟨k, hk⟩ := and_pred (g / 2) (by omega) (by simpa using hd.symm)
      exact ⟨k + 1, by rw [Nat.pow_succ, ← hk]; omega⟩
    · have e1 : (g - 1) / 2 = g / 2 := by omega
      rw [e1, Nat.and_self] at hd
      exact ⟨0, by simp at hd ⊢; omega⟩
  termination_by g => g
theorem PValid_any (z : Int) (W : World) : Calls Try.prog 77 #[.int .i64 z] W fun e w' => e = .returned (.bool (validM z)) ∧ W = w' := by
  by_cases hv : validM z = true
  · obtain ⟨g, hg, rfl⟩ := (validM_iff z).1 hv
    rw [hv]
    exact PValid_ok g W hg
  · have hv' : validM z = false := by simpa using hv
    rw [hv']
    by_cases h1 : z < 1
    · go_enter Try.func77, Try.ntmps77
      go_wp2
      all_goals go_ret
      all_goals exact ⟨rfl, rfl⟩
    · by_cases h2 : 1048576 < z
      · go_enter Try.func77, Try.ntmps77
        go_wp2
        all_goals go_ret
        all_goals exact ⟨rfl, rfl⟩
      · obtain ⟨g, rfl⟩ := Int.eq_ofNat_of_zero_le (by omega : 0 ≤ z)
        have e1 : bits .and .i64 (g : Int) ((g : Int) - 1) = ((g &&& (g - 1) : Nat) : Int) := by
          have := bits_and63 g (g - 1) (by omega) (by omega)
          rw [show ((g - 1 : Nat) : Int) = (g : Int) - 1 by omega] at this
          exact this
        have hne : g &&& (g - 1) ≠ 0 := fun e => by
          obtain ⟨k, hk⟩ := and_pred g (by omega) e
          refine hv (validM_pow ⟨k, ?_, hk⟩)
          rcases Nat.lt_or_ge 20 k with h | h
          · have : 2 ^ 21 ≤ 2 ^ k := Nat.pow_le_pow_right (by decide) h
            omega
          · exact h
        generalize g &&& (g - 1) = q at *
        have hq : ((q : Int) == 0) = false := by simp; omega
        have hq2 : (q : Int) ≠ 0 := by omega
        have hg0 : (0 : Int) < g := by omega
        have hg1 : (g : Int) ≤ 1048576 := by omega
        clear h1 h2
        go_enter Try.func77, Try.ntmps77
        go_wp2
        all_goals go_ret
        all_goals exact ⟨by simp_all, rfl⟩
theorem New_bad (z : Int) (hz : validM z = false) (W : World) : Calls Try.prog 36 #[.int .i64 z] W fun e w' => e = .returned (.tuple #[.pointer none, .int .i64 2]) ∧ W = w' := by
  have HV := Lib.hid (fun W => (hz ▸ PValid_any z W))
  go_enter Try.func36, Try.ntmps36
  go_wp2_with (go_at_call 77; refine Calls.mono (HV.out _) ?_; rintro e w' ⟨rfl, rfl⟩)
  exact bodyPost_ret (v := .tuple #[.pointer none, .int .i64 2]) (by simp [results, Try.results36, go_sem]) rfl ⟨rfl, rfl⟩
theorem Rehash_bad {w : World} {D : Nat → Prop} {p : Nat} {sv : Value} {Gs : List Grp} (h : IxRow w D p sv Gs) (z : Int) (hz : validM z = false) (gf : Nat) (lb : Array Value) :
    Calls Try.prog 42 #[.pointer (some ⟨p, 0, none⟩), .int .i64 z, .func (.func gf) #[] lb] w (fun e w' => e = .returned (.tuple #[.pointer none, .int .i64 2]) ∧ Pure w w') := by
  have hp : Pure w (w.alloc (.cells #[.func (.func gf) #[] lb] 76)) := (Mod.refl _ w).alloc _
  obtain ⟨B, c, rfl, hc, hB, hDB, hBf, hcells⟩ := h.at
  have zp := hp.heap (fun h => h) h.box
  have HZ := Lib.hid (fun (W : World) (hW : W.cell? ⟨p, 0, none⟩ = _) => izero_ok (w := W) (c := c) (a := some ⟨B, 0, none⟩) hW h.ok.pow.pos h.ok.pow.le)
  have HN := Lib.hid (fun W => New_bad z hz W)
  have HP := Lib.hid hp
  clear hcells h hBf hp
  (refine (callsIn_wide (n := 0)).1 (callsIn_of_wp_marks Try.func42 rfl trivial (wpIn_wide.2 ?_) rfl); simp only [Try.ntmps42, List.size_toArray, List.length_cons, List.length_nil, Nat.reduceAdd, Nat.reduceSub, Array.replicate_succ, Array.replicate_zero, List.push_toArray, List.append_toArray, List.nil_append, List.cons_append])
  go_upto_region 1 with fail
  generalize w.alloc (.cells #[.func (.func gf) #[] lb] 76) = W1 at *
  generalize w.heap.size = b at *
  have zp_0 := cell_of_row _ _ 0 _ _ _ zp; have zp_1 := cell_of_row _ _ 1 _ _ _ zp; have zp_2 := cell_of_row _ _ 2 _ _ _ zp; have zp_f := (fun j => frozen_of_row _ _ j _ _ zp); have zp_l := lt_of_block zp; simp at zp_0 zp_1 zp_2; have H_zp := Lib.hid zp; clear zp
  go_wp2_with (first
    | (go_at_call 79; refine Calls.mono (HZ.out _ zp_0) ?_; rintro e w' ⟨rfl, rfl⟩)
    | (go_at_call 36; refine Calls.mono (HN.out _) ?_; rintro e w2 ⟨rfl, rfl⟩))
  exact bodyPostM_plain (.tuple #[.pointer none, .int .i64 2]) (by simp [results, Try.results42, go_sem]) ⟨rfl, HP.out.alloc _⟩
theorem Rehash_full {w : World} {D : Nat → Prop} {p : Nat} {sv : Value} {Gs : List Grp} (h : IxRow w D p sv Gs) (g : Nat) (hg : Pow g) (hu : 8 * g < usedN Gs) (gf : Nat) (lb : Array Value) :
    Calls Try.prog 42 #[.pointer (some ⟨p, 0, none⟩), .int .i64 g, .func (.func gf) #[] lb] w (fun e w' => e = .returned (.tuple #[.pointer none, .int .i64 7]) ∧ Pure w w') := by
  have hp : Pure w (w.alloc (.cells #[.func (.func gf) #[] lb] 76)) := (Mod.refl _ w).alloc _
  have hb5 := heap_new (w := w) (o := (.cells #[.func (.func gf) #[] lb] 76 (0, 0))) rfl
  obtain ⟨B, c, rfl, hc, hB, hDB, hBf, hcells⟩ := h.at
  have zp := hp.heap (fun h => h) h.box
  have HZ := Lib.hid (fun (W : World) (hW : W.cell? ⟨p, 0, none⟩ = _) => izero_ok (w := W) (c := c) (a := some ⟨B, 0, none⟩) hW h.ok.pow.pos h.ok.pow.le)
  have HN := Lib.hid (fun W => New_ok g W hg)
  have HP := Lib.hid hp
  have hgl := hg.le
  have hul := h.ok.used_le
  clear hcells h hBf hp
  (refine (callsIn_wide (n := 0)).1 (callsIn_of_wp_marks Try.func42 rfl trivial (wpIn_wide.2 ?_) rfl); simp only [Try.ntmps42, List.size_toArray, List.length_cons, List.length_nil, Nat.reduceAdd, Nat.reduceSub, Array.replicate_succ, Array.replicate_zero, List.push_toArray, List.append_toArray, List.nil_append, List.cons_append])
  go_upto_region 1 with fail
  generalize w.alloc (.cells #[.func (.func gf) #[] lb] 76) = W1 at *
  generalize w.heap.size = b at *
  have zp_0 := cell_of_row _ _ 0 _ _ _ zp; have zp_1 := cell_of_row _ _ 1 _ _ _ zp; have zp_2 := cell_of_row _ _ 2 _ _ _ zp; have zp_f := (fun j => frozen_of_row _ _ j _ _ zp); have zp_l := lt_of_block zp; simp at zp_0 zp_1 zp_2; have H_zp := Lib.hid zp; clear zp
  go_upto_region 4 with (first
    | (go_at_call 79; refine Calls.mono (HZ.out _ zp_0) ?_; rintro e w' ⟨rfl, rfl⟩)
    | (go_at_call 36; refine Calls.mono (HN.out _) ?_; rintro e w2 ⟨p2, sv2, rfl, _, hp2, _⟩))
  have hp3 := hp2.trans ((Mod.refl (fun _ => False) w2).alloc (.cells #[.pointer (some ⟨p2, 0, none⟩)] 69))
  have z5 := hp3.heap (fun h => h) hb5
  have zp2 := hp3.heap (fun h => h) H_zp.out
  have HP3 := Lib.hid (HP.out.trans hp3)
  clear zp_0 zp_1 zp_2 zp_f zp_l
  clear H_zp hp2 hp3 hb5
  generalize w2.alloc (.cells #[.pointer (some ⟨p2, 0, none⟩)] 69) = W3 at *
  have z5_0 := cell_of_row _ _ 0 _ _ _ z5; have z5_f := (fun j => frozen_of_row _ _ j _ _ z5); have z5_l := lt_of_block z5; simp at z5_0; have H_z5 := Lib.hid z5; clear z5
  have zp2_0 := cell_of_row _ _ 0 _ _ _ zp2; have zp2_1 := cell_of_row _ _ 1 _ _ _ zp2; have zp2_2 := cell_of_row _ _ 2 _ _ _ zp2; have zp2_f := (fun j => frozen_of_row _ _ j _ _ zp2); have zp2_l := lt_of_block zp2; simp at zp2_0 zp2_1 zp2_2; have H_zp2 := Lib.hid zp2; clear zp2
  have w8 : IntKind.i64.wrap ((g : Int) * 8) = (g : Int) * 8 := IntWalk.i64_in _ (by omega)
  have hu' : (g : Int) * 8 < (usedN Gs : Int) := by omega
  go_wp2
  exact bodyPostM_plain (.tuple #[.pointer none, .int .i64 7]) (by simp [results, Try.results42, go_sem]) ⟨rfl, HP3.out⟩
end Go.Proofs.Ytbjiebhbmpafpaa
