/- law07.SwissFills answers true. -/
import Derived.Test.YtbjiebhbmpafpaaRehash
import Derived.Test.YtbjiebhbmpafpaaKnown7
namespace Go.Proofs.Ytbjiebhbmpafpaa
open Go.RowKit Go.Shelf
set_option maxRecDepth 100000

/-- The hash of a slot number by two numbers. -/
def sumM (f m s : Nat) : Nat := (s * f + m) % 18446744073709551616
theorem sumM_lt (f m s : Nat) : sumM f m s < 18446744073709551616 := Nat.mod_lt _ (by decide)
theorem Sum_ok (s f m : Nat) (W : World) (hs : s ≤ 4294967295) (hf : f < 18446744073709551616) (hm : m < 18446744073709551616) : Calls Try.prog 38 #[.int .u32 s, .int .u64 f, .int .u64 m] W fun e w' => e = .returned (.int .u64 (sumM f m s)) ∧ W = w' := by
  have e1 : IntKind.u64.wrap ((s : Int) * (f : Int)) = ((s * f % 18446744073709551616 : Nat) : Int) := by rw [← u64_mod]; simp
  have e2 : IntKind.u64.wrap (((s * f % 18446744073709551616 : Nat) : Int) + (m : Int)) = (sumM f m s : Int) := by
    have : (((s * f % 18446744073709551616 : Nat) : Int) + (m : Int)) = ((s * f % 18446744073709551616 + m : Nat) : Int) := rfl
    rw [this, u64_mod, Nat.mod_add_mod]
    rfl
  have e3 : IntKind.u64.wrap (s : Int) = s := u64_wrap s (by omega)
  generalize s * f % 18446744073709551616 = q at *
  generalize sumM f m s = r at *
  have h0 : (0 : Int) ≤ s := by omega
  have h1 : (s : Int) ≤ 4294967295 := by omega
  go_enter Try.func38, Try.ntmps38
  go_wp2
  go_ret
  exact ⟨rfl, rfl⟩
theorem full_mem {Gs : List Grp} (h : IxOk Gs) (s : Nat) : s ∈ Gs.flatMap fullS ↔ ∃ i j t, FullAt Gs i j t s := by
  have hin : ∀ c, GrpOk c → ∀ j, j ∈ fullIn c ↔ j < 8 ∧ ∃ t, c.1[j]? = some t ∧ t < 128 := fun c hc j => by
    unfold fullIn
    rw [lanes_mask (by simp [hc.ctl.1])]
    simp only [List.mem_filter, List.mem_range, List.getD_eq_getElem?_getD, List.getElem?_map]
    cases c.1[j]? <;> simp
  constructor
  · intro hs
    obtain ⟨c, hc, hs⟩ := List.mem_flatMap.1 hs
    obtain ⟨j, hj, rfl⟩ := List.mem_map.1 hs
    obtain ⟨i, hi⟩ := List.getElem?_of_mem hc
    have hl : i < Gs.length := (List.getElem?_eq_some_iff.1 hi).1
    have e : grpAt Gs i = c := by have := grpAt_some hl; rw [hi] at this; cases this; rfl
    obtain ⟨hj8, t, ht, ht2⟩ := (hin c (h.grp c hc) j).1 hj
    exact ⟨i, j, t, hl, hj8, by rw [e]; exact ht, ht2, by unfold slotAt; rw [e]⟩
  · rintro ⟨i, j, t, hf⟩
    refine List.mem_flatMap.2 ⟨grpAt Gs i, List.mem_of_getElem? (grpAt_some hf.hi), List.mem_map.2 ⟨j, (hin _ (h.at hf.hi) j).2 ⟨hf.hj, t, hf.tag, hf.full⟩, hf.slot⟩⟩
theorem fills_closure (w : World) : SumOk Try.prog 43 #[] (fun _ => 0) (fun _ => True) (fun _ => True) w := by
  refine ⟨enters_of Try.func43 (by kernel_rfl) rfl, fun s W hs _ _ => callsIn_wide.2 ?_, fun _ => by decide, fun _ _ _ _ => trivial, trivial⟩
  have : Calls Try.prog 43 #[.int .u32 s] W fun e w' => e = .returned (.int .u64 (0 : Nat)) ∧ Pure W w' := by
    go_enter Try.func43, Try.ntmps43
    go_wp2
    go_ret
    exact ⟨rfl, Mod.refl _ _⟩
  exact this
theorem fnd_some {Gs : List Grp} {H : Nat → Nat} {S : Nat → Prop} (h : Holds H S Gs) {s : Nat} (hs : S s) : findsM Gs (H s) s 0 s 0 = true := by
  obtain ⟨i, j, hf, hfull⟩ := h.find_some hs
  have : (wanted s 0) = (fun x => x == s) := by funext x; unfold wanted; simp
  unfold findsM fnd
  rw [this, hf]
  simp [hfull.slot]
theorem fnd_none {Gs : List Grp} {H : Nat → Nat} {S : Nat → Prop} (h : Holds H S Gs) {s : Nat} (hs : ¬ S s) : findsM Gs (H s) s 0 0 9 = true := by
  have hf := h.find_none hs
  have : (wanted s 0) = (fun x => x == s) := by funext x; unfold wanted; simp
  unfold findsM fnd
  rw [this, hf]
  simp
def FillI (w : World) (p : Nat) (sv : Value) (H : Nat → Nat) (g u : Nat) (S : Nat → Prop) (W : World) : Prop := ∃ Gs, Has w p sv Gs W ∧ Holds H S Gs ∧ Gs.length = g ∧ usedN Gs = u
set_option maxHeartbeats 4000000 in
theorem SwissFills_true (x : Int) (f : Int) (f0 : 0 ≤ f) (f1 : f < 18446744073709551616) (m : Int) (m0 : 0 ≤ m) (m1 : m < 18446744073709551616) {w : World} : Calls Try.prog 7 #[.int .i64 x, .int .u64 f, .int .u64 m] w fun e w' => e = .returned (.bool true) ∧ Pure w w' := by
  obtain ⟨f, rfl⟩ := Int.eq_ofNat_of_zero_le f0
  obtain ⟨m, rfl⟩ := Int.eq_ofNat_of_zero_le m0
  by_cases hx : (decide (x < 0) || decide (3 < x)) = true
  · have HX := Lib.hid hx
    go_enter Try.func7, Try.ntmps7
    by_cases hx0 : x < 0
    · go_wp2_with (go_at_call 35; refine Calls.mono (known7_true _) ?_; rintro e w5 ⟨rfl, hq⟩)
      go_ret
      exact ⟨rfl, hq⟩
    · have hx3 : 3 < x := by simp at hx; omega
      go_wp2_with (go_at_call 35; refine Calls.mono (known7_true _) ?_; rintro e w5 ⟨rfl, hq⟩)
      go_ret
      exact ⟨rfl, hq⟩
  · have hx0 : ¬ x < 0 := by simp at hx; omega
    have hx3 : ¬ 3 < x := by simp at hx; omega
    obtain ⟨k, rfl⟩ := Int.eq_ofNat_of_zero_le (by omega : 0 ≤ x)
    have hk : k ≤ 3 := by omega
    have hk' : (k : Int) ≤ 3 := by omega
    clear hx
    obtain ⟨g, hg⟩ : ∃ g, 2 ^ k = g := ⟨_, rfl⟩
    have hpow : Pow g := ⟨k, by omega, hg.symm⟩
    have hg8 : g ≤ 8 := by
      rw [← hg]
      have : k = 0 ∨ k = 1 ∨ k = 2 ∨ k = 3 := by omega
      rcases this with rfl | rfl | rfl | rfl <;> decide
    have hgp := hpow.pos
    have hk2 : wrap64 ((2 : Int) ^ k) = (g : Int) := by
      rw [← hg, Int.natCast_pow]
      exact IntWalk.wrap64_in _ (by
        have : ((2 : Int) ^ k) = ((2 ^ k : Nat) : Int) := by rw [Int.natCast_pow]; rfl
        rw [this, hg]; omega)
    have HG := Lib.hid hg
    clear hg
    have HN := Lib.hid (fun W => New_ok g W hpow)
    have w8 : IntKind.i64.wrap (8 * (g : Int)) = 8 * (g : Int) := IntWalk.i64_in _ (by omega)
    have w8' : wrap64 (8 * (g : Int)) = 8 * (g : Int) := IntWalk.wrap64_in _ (by omega)
    have wu : IntKind.u32.wrap (8 * (g : Int)) = ((8 * g : Nat) : Int) := by
      have : (8 * (g : Int)) = ((8 * g : Nat) : Int) := rfl
      rw [this]; exact IntWalk.u32_in _ (by omega)
    obtain ⟨n, hn⟩ : ∃ n, 8 * g = n := ⟨_, rfl⟩
    rw [hn] at wu
    go_enter Try.func7, Try.ntmps7
    go_upto_region 5 with (go_at_call 36; refine Calls.mono (HN.out _) ?_; rintro e w1 hq; obtain ⟨p, sv, rfl, hH0, _⟩ := Has.mk_new (Mod.refl _ w) hq; clear hq; have H0 := Lib.hid hH0; clear hH0)
    go_upto_region 9 with fail
    have hn64 : n ≤ 64 := by omega
    have hn' : (n : Int) ≤ 64 := by omega
    have HNN := Lib.hid hn
    clear hn w8 w8' wu hk2
    go_loopw [11] (fun k wr => ∃ i, k = .int .u32 (i : Nat) ∧ i ≤ n ∧ FillI w p sv (sumM f m) g i (fun s => s < i) wr) (fun k _ => n - (intOf k).toNat)
    case atStart => exact ⟨0, rfl, Nat.zero_le _, newG g, H0.out, (newG_holds _ hpow).of_iff (by simp), newG_length g, newG_used g⟩
    case round =>
      obtain ⟨i, rfl, hi, Gs, hh, hol, hlen, hus⟩ := hrel
      have HH := Lib.hid hh; have HOL := Lib.hid hol; have HLE := Lib.hid hlen; have HUS := Lib.hid hus
      clear hh hol hlen hus
      by_cases hlt : i < n
      · have hlt' : (i : Int) < (n : Int) := by omega
        have hi32 : i ≤ 4294967295 := by omega
        obtain ⟨Gs', hm⟩ : ∃ Gs', insM Gs (sumM f m i) i = some Gs' := by
          cases hc : insM Gs (sumM f m i) i with
          | some Gs' => exact ⟨Gs', rfl⟩
          | none =>
            have h1 := (ins_none HOL.out.ok _ _).1 hc
            have h2 := HUS.out; have h3 := HLE.out; have h4 := HNN.out
            omega
        have hol' := HOL.out.ins hi32 (by omega) hm
        have hc' := ins_counts HOL.out.ok hi32 hm
        have HM := Lib.hid hm; have HO' := Lib.hid hol'; have HC' := Lib.hid hc'
        clear hm hol' hc'
        have HSm := Lib.hid (fun W => Sum_ok i f m W hi32 (by omega) (by omega))
        have hsl := sumM_lt f m i
        have HIns := Lib.hid (HH.out.ins HM.out hsl hi32)
        generalize sumM f m i = hs at HSm HIns
        have wi : IntKind.u32.wrap ((i : Int) + 1) = (i : Int) + 1 := IntWalk.u32_in _ (by omega)
        go_wp2_with (first
          | (go_at_call 38; refine Calls.mono (HSm.out _) ?_; rintro e w' ⟨rfl, rfl⟩)
          | (go_at_call 37; refine Calls.mono HIns.out ?_; rintro e w2 ⟨rfl, hq, _⟩; have HQ := Lib.hid hq; clear hq))
        go_roundw
        case rel => exact ⟨i + 1, by go_num, hlt, Gs', HQ.out, HO'.out.of_iff (by intro s; omega), HC'.out.2.1.trans HLE.out, by have := HC'.out.1; have := HUS.out; omega⟩
        case measure => simp [intOf]; omega
      · have hlt' : (n : Int) ≤ (i : Int) := by omega
        have e : n = i := by omega
        subst e
        clear hlt' hlt hi
        go_upto_region 13 with fail
        have hm0 : insM Gs m n = none := (ins_none HOL.out.ok _ _).2 (by have := HUS.out; have := HLE.out; have := HNN.out; omega)
        have HI := Lib.hid (HH.out.ins_full hm0 (by omega) (by omega : n ≤ 4294967295))
        have wn : IntKind.i64.wrap (n : Int) = n := IntWalk.i64_in _ (by omega)
        clear hm0
        go_upto_region 16 with (first
          | (go_at_call 37; refine Calls.mono HI.out ?_; rintro e w2 ⟨rfl, hq, _⟩; have HQ := Lib.hid hq; clear hq)
          | (go_at_call 39; refine Calls.mono (HQ.out.len HUS.out) ?_; rintro e w' ⟨rfl, rfl⟩))
        go_loopw [12] (fun k wr => ∃ i, k = .int .u32 (i : Nat) ∧ i ≤ n ∧ FillI w p sv (sumM f m) g (n - i) (fun s => i ≤ s ∧ s < n) wr) (fun k _ => n - (intOf k).toNat)
        case atStart => exact ⟨0, rfl, Nat.zero_le _, Gs, HQ.out, HOL.out.of_iff (by simp), HLE.out, HUS.out⟩
        case round =>
          clear HI HQ HH HOL HLE HUS H0
          obtain ⟨i, rfl, hi, Gs2, hh, hol, hlen, hus⟩ := hrel
          have HH := Lib.hid hh; have HOL := Lib.hid hol; have HLE := Lib.hid hlen; have HUS := Lib.hid hus
          clear hh hol hlen hus
          by_cases hlt : i < n
          · have hlt' : (i : Int) < (n : Int) := by omega
            have hi32 : i ≤ 4294967295 := by omega
            have hsi : (fun s => i ≤ s ∧ s < n) i := ⟨Nat.le_refl _, hlt⟩
            obtain ⟨a, b, hm, hfull⟩ := HOL.out.find_some hsi
            have hfs := fnd_some HOL.out hsi
            have hol' := HOL.out.del hfull
            have hfn := fnd_none hol' (s := i) (by simp)
            have hdc := del_counts HOL.out.ok hfull
            have HSm := Lib.hid (fun W => Sum_ok i f m W hi32 (by omega) (by omega))
            have hsl := sumM_lt f m i
            have HF1 := Lib.hid (HH.out.finds hfs hsl hi32 (by decide) hi32 (by decide))
            have HRM := Lib.hid (fun (W : World) (hW : Has w p sv Gs2 W) => hW.rem hm hsl hi32)
            have HF2 := Lib.hid (fun (W : World) (hW : Has w p sv (delG Gs2 a b) W) => hW.finds hfn hsl hi32 (by decide) (by decide) (by decide))
            have HO' := Lib.hid hol'; have HDC := Lib.hid hdc
            clear hm hfull hfs hol' hfn hdc
            generalize sumM f m i = hs at HSm HF1 HRM HF2 hsl
            have wi : IntKind.u32.wrap ((i : Int) + 1) = (i : Int) + 1 := IntWalk.u32_in _ (by omega)
            have t1 : Hid True := Lib.hid trivial
            go_wp2_with (first
              | (go_at_call 38; refine Calls.mono (HSm.out _) ?_; rintro e w' ⟨rfl, rfl⟩)
              | (have := t1.out; go_at_call 40; clear this t1; refine Calls.mono HF1.out ?_; rintro e w3 ⟨rfl, hq, _⟩; have HQ3 := Lib.hid hq; clear hq)
              | (go_at_call 41; refine Calls.mono (HRM.out _ HQ3.out) ?_; rintro e w4 ⟨rfl, hq, _⟩; have HQ4 := Lib.hid hq; clear hq)
              | (go_at_call 40; refine Calls.mono (HF2.out _ HQ4.out) ?_; rintro e w5 ⟨rfl, hq, _⟩; have HQ5 := Lib.hid hq; clear hq))
            go_roundw
            case rel => exact ⟨i + 1, by go_num, hlt, _, HQ5.out, HO'.out.of_iff (by intro s; omega), HDC.out.2.1.trans HLE.out, by have := HDC.out.1; have := HUS.out; omega⟩
            case measure => simp [intOf]; omega
          · have hlt' : (n : Int) ≤ (i : Int) := by omega
            have e : n = i := by omega
            subst e
            clear hlt' hlt hi
            have hfl : Gs2.flatMap fullS = [] := by
              rw [List.eq_nil_iff_forall_not_mem]
              intro s hs
              have := (HOL.out.mem s).2 ((full_mem HOL.out.ok s).1 hs)
              try dsimp only at this
              omega
            have hrm : rehM (fun _ => 0) g Gs2 = newG g := by unfold rehM; rw [hfl]; rfl
            have hu0 : usedN Gs2 = 0 := by have := HUS.out; omega
            have HRH := Lib.hid (Rehash_ok HH.out.ix g hpow (by omega) (fills_closure wr) (fun _ _ => trivial))
            have HRM := Lib.hid hrm
            have HU0 := Lib.hid hu0
            clear hfl hrm hu0
            go_upto_region 22 with (go_at_call 42; refine Calls.mono HRH.out ?_; rintro e w6 ⟨p2, sv2, rfl, hx1, hx2, hx3, hx4, hx5, _⟩; rw [HRM.out] at hx1)
            have HA := Lib.hid (HH.out.pure hx2)
            have hbb : Has wr p2 sv2 (newG g) w6 := ⟨hx1, hx2, hx3, hx4⟩
            have HB := Lib.hid hbb
            clear hx1 hx2 hx3 hx4 hx5 hbb
            have t1 : Hid True := Lib.hid trivial
            go_wp2_with (first
              | (have := t1.out; go_at_call 39; clear this t1; refine Calls.mono (HA.out.len HU0.out) ?_; rintro e w' ⟨rfl, rfl⟩)
              | (go_at_call 44; refine Calls.mono (HB.out.tombs (newG_tomb g)) ?_; rintro e w' ⟨rfl, rfl⟩)
              | (go_at_call 39; refine Calls.mono (HB.out.len (newG_used g)) ?_; rintro e w' ⟨rfl, rfl⟩)
              | (go_at_call 35; refine Calls.mono (known7_true _) ?_; rintro e w9 ⟨rfl, hq⟩))
            go_ret
            exact ⟨rfl, HA.out.pu.trans hq⟩
end Go.Proofs.Ytbjiebhbmpafpaa
