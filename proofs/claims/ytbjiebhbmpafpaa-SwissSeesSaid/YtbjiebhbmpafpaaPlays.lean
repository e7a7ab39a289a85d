/- law07.SwissPlays answers true. -/
import Derived.Test.YtbjiebhbmpafpaaDo
import Derived.Test.YtbjiebhbmpafpaaLooks
import Derived.Deep.Slices
namespace Go.Proofs.Ytbjiebhbmpafpaa
open Go.RowKit Go.Shelf
set_option maxRecDepth 100000

theorem gNew {g : Nat} (hg : Pow g) (w : World) : Calls Try.prog 46 #[.int .i64 g] w fun e w' => ∃ aC cC aS cS, e = .returned (.tuple #[.agg #[.slice aC (8 * (newG g).length) cC, .slice aS (8 * (newG g).length) cS], .int .i64 0]) ∧ RefI w' aC cC aS cS (newG g) ∧ Pure w w' :=
  (rNew_ok g hg w).mono (fun e w' ⟨aC, cC, aS, cS, h1, h2, h3, _⟩ => ⟨aC, cC, aS, cS, h1, h2, h3⟩)
theorem act_at {ac : List ActV} {i j : Nat} {a : ActV} (ha : ac[i]? = some a) (hj : j < 5) : (ac.flatMap actCells)[i * 5 + j]? = (actCells a)[j]? := by
  have h1 := flat_get actCells 5 (fun _ => rfl) j hj ac i
  rw [ha] at h1
  exact h1
theorem cell_add {W : World} {ad : Addr} {k j : Nat} {u : Value} (h : W.cell? (ad.add (k + (j + 1))) = some u) : W.cell? ⟨(ad.add k).block, (ad.add k).off + (j + 1), none⟩ = some u := by
  rw [← Go.Deep.add_add] at h
  unfold Addr.add at h ⊢
  rw [if_neg (by omega)] at h
  exact h
/-- Both indexes while the acts are played. -/
structure PlI (w : World) (b7 : Nat) (p : Nat) (sv : Value) (Gs : List Grp) (aC : Option Addr) (cC : Nat) (aS : Option Addr) (cS : Nat) (W : World) : Prop where
  hs : Has w p sv Gs W
  rf : RefI W aC cC aS cS Gs
  h7 : W.heap[b7]? = some (.cells #[.slice aC (8 * Gs.length) cC, .slice aS (8 * Gs.length) cS] 82 (0, 0))
  hb : w.heap.size ≤ b7
theorem PlI.pure {w W W' : World} {b7 : Nat} {p : Nat} {sv : Value} {Gs : List Grp} {aC : Option Addr} {cC : Nat} {aS : Option Addr} {cS : Nat} (h : PlI w b7 p sv Gs aC cC aS cS W) (hp : Pure W W') : PlI w b7 p sv Gs aC cC aS cS W' :=
  ⟨h.hs.pure hp, h.rf.pure hp, hp.heap (fun h => h) h.h7, h.hb⟩
/-- .. behind do, and the store of its second answer. -/
theorem PlI.next {w W X Y : World} {b7 : Nat} {p : Nat} {sv : Value} {Gs : List Grp} {aC : Option Addr} {cC : Nat} {aS : Option Addr} {cS : Nat} {p' : Nat} {sv' : Value} {Gs' : List Grp} {aC' : Option Addr} {cC' : Nat} {aS' : Option Addr} {cS' : Nat}
    (h : PlI w b7 p sv Gs aC cC aS cS W) (hs : Has w p' sv' Gs' X) (rf : RefI X aC' cC' aS' cS' Gs') (hm : Mod (fun k => k = p ∨ sv.ownBlock = some k) W X)
    (hY : (X.setCell ⟨b7, 0, none⟩ (.slice aC' (8 * Gs'.length) cC')).setCell ⟨b7, 1, none⟩ (.slice aS' (8 * Gs'.length) cS') = Y) : PlI w b7 p' sv' Gs' aC' cC' aS' cS' Y := by
  have h7 := hm.heap (h.hs.nb h.h7 (by decide) (by decide)) h.h7
  have hsz := hs.pu.size
  obtain ⟨f1, f2, _, x0, x1⟩ := do_fin0 (w := w) (W := w) (p := b7) (sv := .slice none 0 0) hs rf (hs.pu.mono (fun _ _ h => h.elim)) h7 (Nat.le_refl _) h.hb hY
  refine ⟨f1, f2, ?_, h.hb⟩
  have := heap_set12 (v0 := .slice aC' (8 * Gs'.length) cC') (v1 := .slice aS' (8 * Gs'.length) cS') h7
  rw [hY] at this
  exact this
theorem gDo {w W : World} {p : Nat} {sv : Value} {Gs : List Grp} {aC : Option Addr} {cC : Nat} {aS : Option Addr} {cS : Nat} (h : Has w p sv Gs W) (hr : RefI W aC cC aS cS Gs) (a : ActV) (ha : a.Ok) :
    Calls Try.prog 47 #[.pointer (some ⟨p, 0, none⟩), .agg #[.slice aC (8 * Gs.length) cC, .slice aS (8 * Gs.length) cS], .agg #[.int .i64 a.what, .int .u64 (a.sum : Nat), .int .u32 (a.slot : Nat), .int .u32 (a.other : Nat), .int .i64 a.groups]] W fun e w' =>
      ∃ p' sv' Gs' aC' cC' aS' cS', e = .returned (.tuple #[.pointer (some ⟨p', 0, none⟩), .agg #[.slice aC' (8 * Gs'.length) cC', .slice aS' (8 * Gs'.length) cS'], .bool true]) ∧ Has w p' sv' Gs' w' ∧ RefI w' aC' cC' aS' cS' Gs' ∧ Mod (fun k => k = p ∨ sv.ownBlock = some k) W w' := do_ok h hr a ha
theorem gLooks {w W : World} {p : Nat} {sv : Value} {Gs : List Grp} {aC : Option Addr} {cC : Nat} {aS : Option Addr} {cS : Nat} (h : Has w p sv Gs W) (hr : RefI W aC cC aS cS Gs) :
    Calls Try.prog 51 #[.pointer (some ⟨p, 0, none⟩), .agg #[.slice aC (8 * Gs.length) cC, .slice aS (8 * Gs.length) cS]] W fun e w' => e = .returned (.bool true) ∧ Pure W w' := looks_ok h hr
set_option maxHeartbeats 4000000 in
theorem SwissPlays_true (x : Int) (a : Option Addr) (c : Nat) (ac : List ActV) {w : World} (hr : ReadAt w (.slice a ac.length c) 5 (ac.flatMap actCells)) (hok : ∀ y ∈ ac, y.Ok) (hl : ac.length ≤ 9223372036854775807) :
    Calls Try.prog 10 #[.int .i64 x, .slice a ac.length c] w fun e w' => e = .returned (.bool true) ∧ Pure w w' := by
  have HR := Lib.hid hr; have HOK := Lib.hid hok
  clear hr hok
  obtain ⟨n, hn⟩ : ∃ n, ac.length = n := ⟨_, rfl⟩
  rw [hn] at HR hl ⊢
  have HN := Lib.hid hn
  clear hn
  have wn : IntKind.i64.wrap (n : Int) = n := IntWalk.i64_in _ (by omega)
  obtain ⟨bad, hbad⟩ : ∃ bad, decide (80 < n ∨ (64 < x ∧ x ≤ 1048576)) = bad := ⟨_, rfl⟩
  have HB := Lib.hid hbad
  go_enter Try.func10, Try.ntmps10
  go_upto_region 1 with fail
  go_cut [22] (fun v22 wc => v22 = .bool bad ∧ wc = w)
  case first =>
    subst hbad
    by_cases h80 : 80 < n
    · have h80' : (80 : Int) < (n : Int) := by omega
      have hd : decide ((80 : Int) < (n : Int)) = true := decide_eq_true h80'
      go_wp2
      go_meet
      exact ⟨by simp [h80], rfl⟩
    · have h80' : (n : Int) ≤ 80 := by omega
      have hd : decide ((80 : Int) < (n : Int)) = false := decide_eq_false (by omega)
      by_cases h64 : 64 < x
      · have hd2 : decide (64 < x) = true := decide_eq_true h64
        by_cases hm : x ≤ 1048576
        · go_wp2
          go_meet
          exact ⟨by simp [h80, h64, hm], rfl⟩
        · go_wp2
          go_meet
          exact ⟨by simp [h80, h64, hm], rfl⟩
      · have hd2 : decide (64 < x) = false := decide_eq_false h64
        go_wp2
        go_meet
        exact ⟨congrArg Value.bool (decide_eq_false (by omega)).symm, rfl⟩
  case rest =>
    obtain ⟨rfl, rfl⟩ := hcut
    clear hbad
    cases bad with
    | true =>
      go_wp2_with (go_at_call 35; refine Calls.mono (known7_true _) ?_; rintro e w5 ⟨rfl, hq⟩)
      go_ret
      exact ⟨rfl, hq⟩
    | false =>
      have hb := of_decide_eq_false HB.out
      have hn80 : n ≤ 80 := by omega
      clear HB
      by_cases hv : validM x = true
      · obtain ⟨g, hg, rfl⟩ := (validM_iff x).1 hv
        have HNw := Lib.hid (fun W => New_ok g W hg)
        have HRw := Lib.hid (fun W => gNew hg W)
        have HPow := Lib.hid hg
        clear hb hv hg
        go_upto_region 5 with (first
          | (go_at_call 36; refine Calls.mono (HNw.out _) ?_; rintro e w1 hq; obtain ⟨p, sv, rfl, hH0, _⟩ := Has.mk_new (Mod.refl _ wc) hq; clear hq; have H0 := Lib.hid hH0; clear hH0)
          | (go_at_call 46; refine Calls.mono (HRw.out _) ?_; rintro e w2 ⟨aC, cC, aS, cS, rfl, hr2, hp2⟩))
        have HPl := Lib.hid (PlI.mk (b7 := w2.heap.size) (H0.out.pure (hp2.trans ((Mod.refl (fun _ => False) w2).alloc (.cells #[.slice aC (8 * (newG g).length) cC, .slice aS (8 * (newG g).length) cS] 82)))) (hr2.pure ((Mod.refl (fun _ => False) w2).alloc _)) (heap_new rfl) (Nat.le_trans H0.out.pu.size hp2.size))
        generalize w2.alloc (.cells #[.slice aC (8 * (newG g).length) cC, .slice aS (8 * (newG g).length) cS] 82) = W3 at *
        generalize w2.heap.size = b7 at *
        clear hr2 hp2 H0 HRw HNw HPow
        generalize newG g = G0 at *
        go_upto_region 10 with fail
        go_loopw [5, 49] (fun v5 v49 wr => ∃ i p sv Gs aC cC aS cS, v5 = .pointer (some ⟨p, 0, none⟩) ∧ v49 = .int .i64 (i : Nat) ∧ i ≤ n ∧ PlI wc b7 p sv Gs aC cC aS cS wr) (fun _ v49 _ => n - (intOf v49).toNat)
        case atStart => exact ⟨0, p, sv, G0, aC, cC, aS, cS, rfl, rfl, Nat.zero_le _, HPl.out⟩
        case round =>
          obtain ⟨i, p2, sv2, Gs, aC2, cC2, aS2, cS2, rfl, rfl, hi, hP⟩ := hrel
          have HP := Lib.hid hP
          clear hP HPl
          by_cases hlt : i < n
          · have hlt' : (i : Int) < (n : Int) := by omega
            obtain ⟨y, hy⟩ : ∃ y, ac[i]? = some y := ⟨_, List.getElem?_eq_getElem (by have := HN.out; omega)⟩
            have HY := Lib.hid (HOK.out y (List.mem_of_getElem? hy))
            have hrd := HR.out.frame HP.out.hs.pu (fun _ _ h => h)
            obtain ⟨a', n', c', e, _, _, h0, hc⟩ := hrd
            cases e
            obtain ⟨ad, rfl⟩ : ∃ ad, a = some ad := by
              cases a with
              | none => have := h0 rfl; omega
              | some ad => exact ⟨ad, rfl⟩
            have c0 := hc ad rfl (i * 5 + 0) (.int .i64 y.what) (by rw [act_at hy (by omega)]; rfl)
            have c1 := hc ad rfl (i * 5 + 1) (.int .u64 (y.sum : Nat)) (by rw [act_at hy (by omega)]; rfl)
            have c2 := hc ad rfl (i * 5 + 2) (.int .u32 (y.slot : Nat)) (by rw [act_at hy (by omega)]; rfl)
            have c3 := hc ad rfl (i * 5 + 3) (.int .u32 (y.other : Nat)) (by rw [act_at hy (by omega)]; rfl)
            have c4 := hc ad rfl (i * 5 + 4) (.int .i64 y.groups) (by rw [act_at hy (by omega)]; rfl)
            clear hc h0 hy
            have c1 := cell_add c1; have c2 := cell_add c2; have c3 := cell_add c3; have c4 := cell_add c4
            simp only [Nat.zero_add, Nat.reduceAdd] at c1 c2 c3 c4
            rw [Nat.add_zero] at c0
            go_upto_region 12 with fail
            have hal : Pure wr (wr.alloc (.cells #[.int .i64 y.what, .int .u64 (y.sum : Nat), .int .u32 (y.slot : Nat), .int .u32 (y.other : Nat), .int .i64 y.groups] 86)) := (Mod.refl _ wr).alloc _
            have hbx := heap_new (w := wr) (o := .cells #[.int .i64 y.what, .int .u64 (y.sum : Nat), .int .u32 (y.slot : Nat), .int .u32 (y.other : Nat), .int .i64 y.groups] 86 (0, 0)) rfl
            have HP1 := Lib.hid (HP.out.pure hal)
            clear c0 c1 c2 c3 c4 hal HP
            generalize wr.alloc (.cells #[.int .i64 y.what, .int .u64 (y.sum : Nat), .int .u32 (y.slot : Nat), .int .u32 (y.other : Nat), .int .i64 y.groups] 86) = X at *
            generalize wr.heap.size = bx at *
            have z7 := HP1.out.h7
            have HD := Lib.hid (gDo HP1.out.hs HP1.out.rf y HY.out)
            have z7_0 := cell_of_row _ _ 0 _ _ _ z7; have z7_1 := cell_of_row _ _ 1 _ _ _ z7; have z7_f := (fun j => frozen_of_row _ _ j _ _ z7); have z7_l := lt_of_block z7; simp at z7_0 z7_1; have H_z7 := Lib.hid z7; clear z7
            have hbx_0 := cell_of_row _ _ 0 _ _ _ hbx; have hbx_1 := cell_of_row _ _ 1 _ _ _ hbx; have hbx_2 := cell_of_row _ _ 2 _ _ _ hbx; have hbx_3 := cell_of_row _ _ 3 _ _ _ hbx; have hbx_4 := cell_of_row _ _ 4 _ _ _ hbx; have hbx_f := (fun j => frozen_of_row _ _ j _ _ hbx); have hbx_l := lt_of_block hbx; simp at hbx_0 hbx_1 hbx_2 hbx_3 hbx_4; have H_hbx := Lib.hid hbx; clear hbx
            go_upto_region 14 with (go_at_call 47; refine Calls.mono HD.out ?_; rintro e X1 ⟨p3, sv3, Gs3, aC3, cC3, aS3, cS3, rfl, q1, q2, q3⟩; have z17 := q3.heap (HP1.out.hs.nb HP1.out.h7 (by decide) (by decide)) HP1.out.h7; clear z7_0 z7_1; have z17_0 := cell_of_row _ _ 0 _ _ _ z17; have z17_1 := cell_of_row _ _ 1 _ _ _ z17; have z17_f := (fun j => frozen_of_row _ _ j _ _ z17); have z17_l := lt_of_block z17; simp at z17_0 z17_1; have H_z17 := Lib.hid z17; clear z17)
            have HP2 := Lib.hid (HP1.out.next q1 q2 q3 rfl)
            clear z17_0 z17_1 z17_f z17_l
            clear H_z17 HD q1 q2 q3 HP1
            generalize (X1.setCell ⟨b7, 0, none⟩ (.slice aC3 (8 * Gs3.length) cC3)).setCell ⟨b7, 1, none⟩ (.slice aS3 (8 * Gs3.length) cS3) = X2 at *
            have z27 := HP2.out.h7
            have HLk := Lib.hid (gLooks HP2.out.hs HP2.out.rf)
            have wi : IntKind.i64.wrap ((i : Int) + 1) = (i : Int) + 1 := IntWalk.i64_in _ (by omega)
            have z27_0 := cell_of_row _ _ 0 _ _ _ z27; have z27_1 := cell_of_row _ _ 1 _ _ _ z27; have z27_f := (fun j => frozen_of_row _ _ j _ _ z27); have z27_l := lt_of_block z27; simp at z27_0 z27_1; have H_z27 := Lib.hid z27; clear z27
            go_wp2_with (go_at_call 51; refine Calls.mono HLk.out ?_; rintro e X3 ⟨rfl, q4⟩)
            go_roundw
            case rel => exact ⟨i + 1, p3, sv3, Gs3, aC3, cC3, aS3, cS3, rfl, by go_num, hlt, HP2.out.pure q4⟩
            case measure => simp [intOf]; omega
          · have hlt' : (n : Int) ≤ (i : Int) := by omega
            go_wp2_with (go_at_call 35; refine Calls.mono (known7_true _) ?_; rintro e w5 ⟨rfl, hq⟩)
            go_ret
            exact ⟨rfl, HP.out.hs.pu.trans hq⟩
      · have hv' : validM x = false := by simpa using hv
        have HNw := Lib.hid (fun W => New_bad x hv' W)
        have HRw := Lib.hid (fun W => rNew_bad x hv' W)
        clear hb hv hv'
        go_wp2_with (first
          | (go_at_call 36; refine Calls.mono (HNw.out _) ?_; rintro e w1 ⟨rfl, rfl⟩)
          | (go_at_call 46; refine Calls.mono (HRw.out _) ?_; rintro e w2 ⟨rfl, hp2⟩)
          | (go_at_call 35; refine Calls.mono (known7_true _) ?_; rintro e w5 ⟨rfl, hq⟩))
        go_ret
        exact ⟨rfl, (hp2.alloc _).trans hq⟩
end Go.Proofs.Ytbjiebhbmpafpaa
