/- law07.SwissSees answers true. -/
import Derived.Test.YtbjiebhbmpafpaaSees1
import Derived.Test.YtbjiebhbmpafpaaPlays
namespace Go.Proofs.Ytbjiebhbmpafpaa
open Go.RowKit Go.Shelf
set_option maxRecDepth 100000

/-- What Find answers and what was seen. -/
theorem sees_post {w w' : World} {D : Nat → Prop} {p : Nat} {sv : Value} {Gs : List Grp} {sum : Nat} {many : Int} {J : List Nat → World → Prop} {e : Ending}
    (h : Bd.IFindPost w D p sv Gs sum (fun pre _ => (((pre.length : Int) + 1) == many)) seeC J e w') :
    ∃ (S : Nat) (E : Int) (m : Nat), e = .returned (.tuple #[.int .u32 (S : Nat), .int .i64 E]) ∧ m ≤ (seenM Gs sum).length ∧ J (((seenM Gs sum).map (slotAt Gs)).take m) w' ∧
      ((1 ≤ many ∧ many ≤ (seenM Gs sum).length ∧ (m : Int) = many ∧ E = 0 ∧ ∃ x, (seenM Gs sum)[m - 1]? = some x ∧ slotAt Gs x = S) ∨
       (¬ (1 ≤ many ∧ many ≤ (seenM Gs sum).length) ∧ m = (seenM Gs sum).length ∧ E = 9 ∧ S = 0)) := by
  obtain ⟨h1, h2, h3⟩ := h
  rcases h3 with ⟨a, x, post, hs, hf, hg, he, hj⟩ | ⟨hf, he, hj⟩
  · refine ⟨_, _, a.length + 1, he, by rw [hs]; simp, ?_, .inl ?_⟩
    · rw [hs]
      have : (List.map (slotAt Gs) (a ++ x :: post)).take (a.length + 1) = (a ++ [x]).map (slotAt Gs) := by
        rw [← List.map_take, show a ++ x :: post = (a ++ [x]) ++ post by simp, List.take_left' (by simp)]
      rw [this]
      exact hj
    · simp at hg
      refine ⟨by omega, by rw [hs]; simp; omega, by omega, rfl, x, by rw [hs]; simp, rfl⟩
  · refine ⟨0, 9, (seenM Gs sum).length, he, Nat.le_refl _, by rw [List.take_of_length_le (by simp)]; exact hj, .inr ⟨?_, rfl, rfl, rfl⟩⟩
    rintro ⟨h5, h6⟩
    obtain ⟨j, hjj⟩ : ∃ j : Nat, many = (j : Int) + 1 := ⟨(many - 1).toNat, by omega⟩
    have hjl : j < ((seenM Gs sum).map (slotAt Gs)).length := by simp; omega
    have := hf (((seenM Gs sum).map (slotAt Gs)).take j) (((seenM Gs sum).map (slotAt Gs))[j]) (((seenM Gs sum).map (slotAt Gs)).drop (j + 1)) (by rw [← List.drop_eq_getElem_cons hjl, List.take_append_drop])
    simp at this hjl
    omega
/-- What is known behind Find. -/
structure SeF (w : World) (b16 b11 : Nat) (Gs : List Grp) (aC : Option Addr) (cC : Nat) (aS : Option Addr) (cS : Nat) (aw : Option Addr) (cw N : Nat) (ks : List Nat) (aG : Option Addr) (cG m : Nat) (L : List Nat) (X : World) : Prop where
  pu : Pure w X
  rf : RefI X aC cC aS cS Gs
  h11 : X.heap[b11]? = some (.cells #[.slice aC (8 * Gs.length) cC, .slice aS (8 * Gs.length) cS] 82 (0, 0))
  rw : X.ownsRow 0 3 1 (.slice aw N cw) N (i64v ks)
  h16 : X.heap[b16]? = some (.cells #[.slice aG m cG] 24 (0, 0))
  rg : X.ownsRow 0 43 1 (.slice aG m cG) m (u32v L)
theorem SeF.pure {w : World} {b16 b11 : Nat} {Gs : List Grp} {aC : Option Addr} {cC : Nat} {aS : Option Addr} {cS : Nat} {aw : Option Addr} {cw N : Nat} {ks : List Nat} {aG : Option Addr} {cG m : Nat} {L : List Nat} {X Y : World} (h : SeF w b16 b11 Gs aC cC aS cS aw cw N ks aG cG m L X) (hp : Pure X Y) : SeF w b16 b11 Gs aC cC aS cS aw cw N ks aG cG m L Y :=
  ⟨h.pu.trans hp, h.rf.pure hp, hp.heap (fun h => h) h.h11, owns_mod h.rw hp (fun _ _ h => h), hp.heap (fun h => h) h.h16, owns_mod h.rg hp (fun _ _ h => h)⟩
/-- .. out of what the function that was called back kept. -/
theorem SeF.of {w w1 X : World} {b16 b11 b7 : Nat} {many : Int} {Gs : List Grp} {aC : Option Addr} {cC : Nat} {aS : Option Addr} {cS : Nat} {aw : Option Addr} {cw N : Nat} {ks : List Nat} {pre : List Nat} {m : Nat} {u : Value} (hp : Pure w w1) (hb : w.heap.size ≤ b16) (rf : RefI w1 aC cC aS cS Gs)
    (h11 : w1.heap[b11]? = some (.cells #[.slice aC (8 * Gs.length) cC, .slice aS (8 * Gs.length) cS] 82 (0, 0))) (hw : w1.ownsRow 0 3 1 (.slice aw N cw) N (i64v ks)) (h16 : w1.heap[b16]? = some (.cells #[u] 24 (0, 0)))
    (hm : pre.length = m) (hJ : SeeJ w1 b16 b7 many pre X) : ∃ aG cG, SeF w b16 b11 Gs aC cC aS cS aw cw N ks aG cG m pre X := by
  subst hm
  obtain ⟨aG, cG, g1, g2, g3⟩ := hJ.row
  refine ⟨aG, cG, hp.then hJ.md (fun i hi e => by omega), rf.modT hJ.md (fun i e _ => ⟨_, _, _, e ▸ h16, by decide, by decide⟩), hJ.md.heap (fun e => ?_) h11, owns_modT hw hJ.md (fun i e _ => ⟨_, _, _, e ▸ h16, by decide⟩), g1, g2⟩
  rw [e, h16] at h11
  cases h11
set_option maxHeartbeats 4000000 in
theorem SwissSees_true (x : Int) (a : Option Addr) (c : Nat) (ac : List ActV) {w : World} (hr : ReadAt w (.slice a ac.length c) 5 (ac.flatMap actCells)) (hok : ∀ y ∈ ac, y.Ok) (hl : ac.length ≤ 9223372036854775807)
    (sum : Int) (s0 : 0 ≤ sum) (s1 : sum < 18446744073709551616) (many : Int) (m0 : -9223372036854775808 ≤ many) (m1 : many ≤ 9223372036854775807) :
    Calls Try.prog 9 #[.int .i64 x, .slice a ac.length c, .int .u64 sum, .int .i64 many] w fun e w' => e = .returned (.bool true) ∧ Pure w w' := by
  obtain ⟨sum, rfl⟩ := Int.eq_ofNat_of_zero_le s0
  have hsum : sum < 18446744073709551616 := by omega
  have hp0 : Pure w (w.alloc (.cells #[.int .i64 many] 3)) := (Mod.refl _ w).alloc _
  have hb7 := heap_new (w := w) (o := .cells #[.int .i64 many] 3 (0, 0)) rfl
  have HR := Lib.hid (hr.frame hp0 (fun _ _ h => h)); have HOK := Lib.hid hok
  clear hr hok
  obtain ⟨n, hn⟩ : ∃ n, ac.length = n := ⟨_, rfl⟩
  rw [hn] at HR hl ⊢
  have HN := Lib.hid hn
  clear hn
  have wn : IntKind.i64.wrap (n : Int) = n := IntWalk.i64_in _ (by omega)
  obtain ⟨bad, hbad⟩ : ∃ bad, decide (80 < n ∨ 64 < x) = bad := ⟨_, rfl⟩
  have HB := Lib.hid hbad
  have HP0 := Lib.hid hp0; have HB7 := Lib.hid hb7
  clear hp0 hb7
  go_enter Try.func9, Try.ntmps9
  go_upto_region 1 with fail
  generalize w.alloc (.cells #[.int .i64 many] 3) = w0 at *
  generalize w.heap.size = b7 at *
  go_cut [26] (fun v26 wc => v26 = .bool bad ∧ wc = w0)
  case first =>
    subst hbad
    by_cases h80 : 80 < n
    · have h80' : (80 : Int) < (n : Int) := by omega
      have hd : decide ((80 : Int) < (n : Int)) = true := decide_eq_true h80'
      go_wp2
      go_meet
      exact ⟨by simp [h80], rfl⟩
    · have h80' : (n : Int) ≤ 80 := by omega
      have hd : decide ((80 : Int) < (n : Int)) = false := decide_eq_false (by omega)
      by_cases h64 : 64 < x
      · have hd2 : decide (64 < x) = true := decide_eq_true h64
        go_wp2
        go_meet
        exact ⟨by simp [h80, h64], rfl⟩
      · have hd2 : decide (64 < x) = false := decide_eq_false h64
        go_wp2
        go_meet
        exact ⟨congrArg Value.bool (decide_eq_false (by omega)).symm, rfl⟩
  case rest =>
    obtain ⟨rfl, rfl⟩ := hcut
    clear hbad
    cases bad with
    | true =>
      go_wp2_with (go_at_call 35; refine Calls.mono (known7_true _) ?_; rintro e w5 ⟨rfl, hq⟩)
      go_ret
      exact ⟨rfl, HP0.out.trans hq⟩
    | false =>
      have hb := of_decide_eq_false HB.out
      have hn80 : n ≤ 80 := by omega
      clear HB
      by_cases hv : validM x = true
      · obtain ⟨g, hg, rfl⟩ := (validM_iff x).1 hv
        have HNw := Lib.hid (fun W => New_ok g W hg)
        have HRw := Lib.hid (fun W => gNew hg W)
        clear hb hv hg
        go_upto_region 5 with (first
          | (go_at_call 36; refine Calls.mono (HNw.out _) ?_; rintro e w1 hq; obtain ⟨p, sv, rfl, hH0, _⟩ := Has.mk_new (Mod.refl _ wc) hq; clear hq; have H0 := Lib.hid hH0; clear hH0)
          | (go_at_call 46; refine Calls.mono (HRw.out _) ?_; rintro e w2 ⟨aC, cC, aS, cS, rfl, hr2, hp2⟩))
        have HPl := Lib.hid (PlI.mk (b7 := w2.heap.size) (H0.out.pure (hp2.trans ((Mod.refl (fun _ => False) w2).alloc (.cells #[.slice aC (8 * (newG g).length) cC, .slice aS (8 * (newG g).length) cS] 82)))) (hr2.pure ((Mod.refl (fun _ => False) w2).alloc _)) (heap_new rfl) (Nat.le_trans H0.out.pu.size hp2.size))
        generalize w2.alloc (.cells #[.slice aC (8 * (newG g).length) cC, .slice aS (8 * (newG g).length) cS] 82) = W3 at *
        generalize w2.heap.size = b11 at *
        clear hr2 hp2 H0 HRw HNw
        generalize newG g = G0 at *
        go_upto_region 8 with fail
        go_loopw [9, 61] (fun v9 v61 wr => ∃ i p sv Gs aC cC aS cS, v9 = .pointer (some ⟨p, 0, none⟩) ∧ v61 = .int .i64 (i : Nat) ∧ i ≤ n ∧ PlI wc b11 p sv Gs aC cC aS cS wr) (fun _ v61 _ => n - (intOf v61).toNat)
        case atStart => exact ⟨0, p, sv, G0, aC, cC, aS, cS, rfl, rfl, Nat.zero_le _, HPl.out⟩
        case round =>
          obtain ⟨i, p2, sv2, Gs, aC2, cC2, aS2, cS2, rfl, rfl, hi, hP⟩ := hrel
          have HP := Lib.hid hP
          clear hP HPl
          by_cases hlt : i < n
          · have hlt' : (i : Int) < (n : Int) := by omega
            obtain ⟨y, hy⟩ : ∃ y, ac[i]? = some y := ⟨_, List.getElem?_eq_getElem (by have := HN.out; omega)⟩
            have HY := Lib.hid (HOK.out y (List.mem_of_getElem? hy))
            have hrd := HR.out.frame HP.out.hs.pu (fun _ _ h => h)
            obtain ⟨a', n', c', e, _, _, h0, hc⟩ := hrd
            cases e
            obtain ⟨ad, rfl⟩ : ∃ ad, a = some ad := by
              cases a with
              | none => have := h0 rfl; omega
              | some ad => exact ⟨ad, rfl⟩
            have c0 := hc ad rfl (i * 5 + 0) (.int .i64 y.what) (by rw [act_at hy (by omega)]; rfl)
            have c1 := hc ad rfl (i * 5 + 1) (.int .u64 (y.sum : Nat)) (by rw [act_at hy (by omega)]; rfl)
            have c2 := hc ad rfl (i * 5 + 2) (.int .u32 (y.slot : Nat)) (by rw [act_at hy (by omega)]; rfl)
            have c3 := hc ad rfl (i * 5 + 3) (.int .u32 (y.other : Nat)) (by rw [act_at hy (by omega)]; rfl)
            have c4 := hc ad rfl (i * 5 + 4) (.int .i64 y.groups) (by rw [act_at hy (by omega)]; rfl)
            clear hc h0 hy
            have c1 := cell_add c1; have c2 := cell_add c2; have c3 := cell_add c3; have c4 := cell_add c4
            simp only [Nat.zero_add, Nat.reduceAdd] at c1 c2 c3 c4
            rw [Nat.add_zero] at c0
            go_upto_region 10 with fail
            have hal : Pure wr (wr.alloc (.cells #[.int .i64 y.what, .int .u64 (y.sum : Nat), .int .u32 (y.slot : Nat), .int .u32 (y.other : Nat), .int .i64 y.groups] 86)) := (Mod.refl _ wr).alloc _
            have hbx := heap_new (w := wr) (o := .cells #[.int .i64 y.what, .int .u64 (y.sum : Nat), .int .u32 (y.slot : Nat), .int .u32 (y.other : Nat), .int .i64 y.groups] 86 (0, 0)) rfl
            have HP1 := Lib.hid (HP.out.pure hal)
            clear c0 c1 c2 c3 c4 hal HP
            generalize wr.alloc (.cells #[.int .i64 y.what, .int .u64 (y.sum : Nat), .int .u32 (y.slot : Nat), .int .u32 (y.other : Nat), .int .i64 y.groups] 86) = X at *
            generalize wr.heap.size = bx at *
            have z7 := HP1.out.h7
            have HD := Lib.hid (gDo HP1.out.hs HP1.out.rf y HY.out)
            have wi : IntKind.i64.wrap ((i : Int) + 1) = (i : Int) + 1 := IntWalk.i64_in _ (by omega)
            have z7_0 := cell_of_row _ _ 0 _ _ _ z7; have z7_1 := cell_of_row _ _ 1 _ _ _ z7; have z7_f := (fun j => frozen_of_row _ _ j _ _ z7); have z7_l := lt_of_block z7; simp at z7_0 z7_1; have H_z7 := Lib.hid z7; clear z7
            have hbx_0 := cell_of_row _ _ 0 _ _ _ hbx; have hbx_1 := cell_of_row _ _ 1 _ _ _ hbx; have hbx_2 := cell_of_row _ _ 2 _ _ _ hbx; have hbx_3 := cell_of_row _ _ 3 _ _ _ hbx; have hbx_4 := cell_of_row _ _ 4 _ _ _ hbx; have hbx_f := (fun j => frozen_of_row _ _ j _ _ hbx); have hbx_l := lt_of_block hbx; simp at hbx_0 hbx_1 hbx_2 hbx_3 hbx_4; have H_hbx := Lib.hid hbx; clear hbx
            go_wp2_with (go_at_call 47; refine Calls.mono HD.out ?_; rintro e X1 ⟨p3, sv3, Gs3, aC3, cC3, aS3, cS3, rfl, q1, q2, q3⟩; have z17 := q3.heap (HP1.out.hs.nb HP1.out.h7 (by decide) (by decide)) HP1.out.h7; clear z7_0 z7_1; have z17_0 := cell_of_row _ _ 0 _ _ _ z17; have z17_1 := cell_of_row _ _ 1 _ _ _ z17; have z17_f := (fun j => frozen_of_row _ _ j _ _ z17); have z17_l := lt_of_block z17; simp at z17_0 z17_1; have H_z17 := Lib.hid z17; clear z17)
            have HP2 := Lib.hid (HP1.out.next q1 q2 q3 rfl)
            go_roundw
            case rel => exact ⟨i + 1, p3, sv3, Gs3, aC3, cC3, aS3, cS3, rfl, by go_num, hlt, HP2.out⟩
            case measure => simp [intOf]; omega
          · have hlt' : (n : Int) ≤ (i : Int) := by omega
            have hsn := rSeen_ok HP.out.rf sum hsum
            unfold refI at hsn
            have HSn := Lib.hid hsn
            clear hsn
            have z11 := HP.out.h7
            have z11_0 := cell_of_row _ _ 0 _ _ _ z11; have z11_1 := cell_of_row _ _ 1 _ _ _ z11; have z11_f := (fun j => frozen_of_row _ _ j _ _ z11); have z11_l := lt_of_block z11; simp at z11_0 z11_1; have H_z11 := Lib.hid z11; clear z11
            go_upto_region 13 with (go_at_call 48; refine Calls.mono HSn.out ?_; rintro e X1 ⟨aw, cw, rfl, hSI⟩)
            go_upto_region 14 with fail
            have hal : Pure X1 (X1.alloc (.cells #[.slice none 0 0] 24)) := (Mod.refl _ X1).alloc _
            have HP2 := Lib.hid (HP.out.pure (hSI.pu.trans hal))
            have hrow := owns_mod hSI.row hal (fun _ _ h => h)
            have h16 := heap_new (w := X1) (o := .cells #[.slice none 0 0] 24 (0, 0)) rfl
            have hb16 : wc.heap.size ≤ X1.heap.size := (HP.out.hs.pu.trans hSI.pu).size
            clear z11_0 z11_1 z11_f z11_l
            clear H_z11 HSn hSI hal HP
            generalize X1.alloc (.cells #[.slice none 0 0] 24) = W4 at *
            generalize X1.heap.size = b16 at *
            have h7 := HP2.out.hs.pu.heap (fun h => h) HB7.out
            have HSt : SeeJ W4 b16 b7 many [] W4 := ⟨Mod.refl _ _, ⟨none, 0, h16, World.ownsRow_nil _ _ _ _, fun k e => by cases e⟩, h7, lt_of_block h16, lt_of_block h7⟩
            have hsame : Bd.SameOk Try.prog 50 #[.pointer (some ⟨b16, 0, none⟩), .pointer (some ⟨b7, 0, none⟩)] (fun pre _ => (((pre.length : Int) + 1) == many)) seeC (SeeJ W4 b16 b7 many) W4 :=
              ⟨enters_of Try.func50 (by kernel_rfl) rfl, fun pre s W hs hl hJ => callsIn_wide.2 (sees1_ok hJ s hs hl), fun pre A B h hm => h.keep hm, fun T h => h, HSt⟩
            have HF := Lib.hid (Bd.IFind_ok HP2.out.hs.ix sum hsum hsame)
            have HROW := Lib.hid hrow; have H16 := Lib.hid h16
            clear hsame HSt h7 hrow h16
            go_upto_region 15 with (go_at_call 49; refine Calls.mono HF.out ?_; rintro e X2 hfp; obtain ⟨S, E, m, rfl, hm, hJ, hcase⟩ := sees_post hfp; clear hfp)
            clear HF
            obtain ⟨aG, cG, hF⟩ := SeF.of (m := m) HP2.out.hs.pu hb16 HP2.out.rf HP2.out.h7 HROW.out H16.out (by simp; omega) hJ
            have h7x := hJ.hm
            obtain ⟨N, hN⟩ : ∃ N, (seenK Gs sum).length = N := ⟨_, rfl⟩
            have hkl : (seenM Gs sum).length = N := by rw [← hN]; unfold seenK; simp
            have hNle : N ≤ 8388608 := by rw [← hkl]; exact seenM_length HP2.out.rf.ok sum
            rw [hN] at hF ⊢
            rw [hkl] at hm hcase
            have HF2 := Lib.hid hF; have HKL := Lib.hid hkl; have HCA := Lib.hid hcase
            clear hF hJ hN hkl hcase HROW H16 hb16 HOK HR
            have h7x_0 := cell_of_row _ _ 0 _ _ _ h7x; have h7x_f := (fun j => frozen_of_row _ _ j _ _ h7x); have h7x_l := lt_of_block h7x; simp at h7x_0; have H_h7x := Lib.hid h7x; clear h7x
            have wN : IntKind.i64.wrap (N : Int) = N := IntWalk.i64_in _ (by omega)
            obtain ⟨bd, hbd⟩ : ∃ bd, decide (1 ≤ many ∧ many ≤ (N : Int)) = bd := ⟨_, rfl⟩
            have HBD := Lib.hid hbd
            go_upto_region 16 with fail
            go_cut [92] (fun v wx => v = .bool bd ∧ wx = X2)
            case first =>
              subst hbd
              by_cases k1 : 1 ≤ many
              · have hd : decide ((1 : Int) ≤ many) = true := decide_eq_true k1
                by_cases k2 : many ≤ (N : Int)
                · go_wp2
                  go_meet
                  exact ⟨congrArg Value.bool (decide_eq_true (And.intro k1 k2)).symm, rfl⟩
                · go_wp2
                  go_meet
                  exact ⟨congrArg Value.bool (decide_eq_false (by omega)).symm, rfl⟩
              · have hd : decide ((1 : Int) ≤ many) = false := decide_eq_false k1
                go_wp2
                go_meet
                exact ⟨congrArg Value.bool (decide_eq_false (by omega)).symm, rfl⟩
            case rest =>
              rename_i wX
              obtain ⟨rfl, rfl⟩ := hcut
              clear hbd
              go_upto_if 92 with fail
              go_cut [18] (fun v wx => v = .int .i64 (m : Nat) ∧ Pure wc wx)
              case first =>
                cases bd with
                | true =>
                  have hb := of_decide_eq_true HBD.out
                  obtain ⟨k1, k2, k3, k4, x, hx, hS⟩ := HCA.out.resolve_right (fun h => h.1 hb)
                  subst k4
                  obtain ⟨j, rfl⟩ : ∃ j, m = j + 1 := ⟨m - 1, by omega⟩
                  obtain rfl : many = (j : Int) + 1 := by omega
                  rw [Nat.add_sub_cancel] at hx
                  have hf := seen_full HF2.out.rf.ok (List.mem_of_getElem? hx)
                  obtain ⟨B1, B2, e1, e2, l1, l2, _, hCS⟩ := HF2.out.rf.cells
                  subst e1 e2
                  have hcS := hCS (lane x) (slotAt Gs x) (slot_some HF2.out.rf.ok hf.hi hf.hj)
                  have hlx : lane x < 8 * Gs.length := by have := hf.hi; have := hf.hj; unfold lane; omega
                  obtain ⟨BL, cl, hsv, _, _, hcl, _, _⟩ := owns_at HF2.out.rw (by omega)
                  cases hsv
                  have hcL := hcl j (.int .i64 (lane x : Nat)) (by unfold i64v seenK; rw [List.getElem?_map, List.getElem?_map, hx]; rfl)
                  have q11 := cell_of_row _ b11 1 _ _ _ HF2.out.h11
                  clear hcl hx hf hCS HCA
                  rw [hS] at hcS
                  obtain ⟨n8, hn8⟩ : ∃ n8, 8 * Gs.length = n8 := ⟨_, rfl⟩
                  rw [hn8] at hlx l1 l2
                  have q11 : wc.cell? ⟨b11, 1, none⟩ = some (.slice (some ⟨B2, 0, none⟩) n8 cS2) := by rw [← hn8]; exact q11
                  obtain ⟨k, hk⟩ : ∃ k, lane x = k := ⟨_, rfl⟩
                  rw [hk] at hcS hcL hlx
                  have hkn : (k : Int) < (n8 : Int) := by omega
                  have hjN : (j : Int) < (N : Int) := by omega
                  have wj : IntKind.i64.wrap ((j : Int) + 1 - 1) = (j : Int) := by rw [Int.add_sub_cancel]; exact IntWalk.i64_in _ (by omega)
                  have wj2 : IntKind.i64.wrap (j : Int) = (j : Int) := IntWalk.i64_in _ (by omega)
                  have q1 : wc.drew.cell? ⟨b11, 1, none⟩ = _ := q11
                  have qS : wc.drew.cell? ⟨B2, k, none⟩ = _ := hcS
                  have qL : wc.drew.cell? ⟨BL, j, none⟩ = _ := hcL
                  clear hS hk hn8 hb
                  go_upto_region 18 with fail
                  go_region_held3 (fun w' => w'.cell? ⟨b11, 1, none⟩ = some (.slice (some ⟨B2, 0, none⟩) n8 cS2) ∧ w'.cell? ⟨B2, k, none⟩ = some (.int .u32 (S : Nat)) ∧ w'.cell? ⟨BL, j, none⟩ = some (.int .i64 (k : Nat))) (first | go_keep | exact ⟨q1, qS, qL⟩) (fail)
                  all_goals
                    go_wp2
                    go_meet
                    exact ⟨by first | rfl | trivial | simp, (Mod.refl _ _).drew⟩
                | false =>
                  have hb := of_decide_eq_false HBD.out
                  obtain ⟨_, k2, k3, k4⟩ := HCA.out.resolve_left (fun h => hb ⟨h.1, h.2.1⟩)
                  subst k2 k3 k4
                  clear HCA hb
                  go_wp2
                  all_goals
                    go_meet
                    exact ⟨rfl, Mod.refl _ _⟩
              case rest =>
                obtain ⟨rfl, hp3⟩ := hcut
                have HF3 := Lib.hid (HF2.out.pure hp3)
                clear h7x_0 h7x_f h7x_l
                clear H_h7x HF2 HCA HBD hp3
                have h16 := HF3.out.h16
                have h16_0 := cell_of_row _ _ 0 _ _ _ h16; have h16_f := (fun j => frozen_of_row _ _ j _ _ h16); have h16_l := lt_of_block h16; simp at h16_0; have H_h16 := Lib.hid h16; clear h16
                have wm : IntKind.i64.wrap (m : Int) = m := IntWalk.i64_in _ (by omega)
                go_upto_region 25 with fail
                go_loopw [121] (fun v121 wr => ∃ i, v121 = .int .i64 (i : Nat) ∧ i ≤ m ∧ Pure wc wr) (fun v121 _ => m - (intOf v121).toNat)
                case atStart => exact ⟨0, rfl, Nat.zero_le _, Mod.refl _ _⟩
                case round =>
                  obtain ⟨i, rfl, hi, hpu⟩ := hrel
                  have HF4 := Lib.hid (HF3.out.pure hpu); have HPU := Lib.hid hpu
                  clear h16_0 h16_f h16_l
                  clear H_h16 hpu
                  by_cases hlt : i < m
                  · have hlt' : (i : Int) < (m : Int) := by omega
                    obtain ⟨x, hx⟩ : ∃ x, (seenM Gs sum)[i]? = some x := ⟨_, List.getElem?_eq_getElem (by have := HKL.out; omega)⟩
                    have hf := seen_full HF4.out.rf.ok (List.mem_of_getElem? hx)
                    obtain ⟨B1, B2, e1, e2, l1, l2, _, hCS⟩ := HF4.out.rf.cells
                    subst e1 e2
                    have hcS := hCS (lane x) (slotAt Gs x) (slot_some HF4.out.rf.ok hf.hi hf.hj)
                    have hlx : lane x < 8 * Gs.length := by have := hf.hi; have := hf.hj; unfold lane; omega
                    obtain ⟨BL, cl, hsv, _, _, hcl, _, _⟩ := owns_at HF4.out.rw (by omega)
                    cases hsv
                    have hcL := hcl i (.int .i64 (lane x : Nat)) (by unfold i64v seenK; rw [List.getElem?_map, List.getElem?_map, hx]; rfl)
                    obtain ⟨BG, cg, hsg, _, _, hcg, _, _⟩ := owns_at HF4.out.rg (by omega)
                    cases hsg
                    have hcG := hcg i (.int .u32 (slotAt Gs x : Nat)) (by unfold u32v; rw [List.getElem?_map, List.getElem?_take, if_pos hlt, List.getElem?_map, hx]; rfl)
                    have q11 := cell_of_row _ b11 1 _ _ _ HF4.out.h11
                    have q16 := cell_of_row _ b16 0 _ _ _ HF4.out.h16
                    clear hcl hcg hx hf hCS
                    obtain ⟨n8, hn8⟩ : ∃ n8, 8 * Gs.length = n8 := ⟨_, rfl⟩
                    rw [hn8] at hlx l1 l2
                    have q11 : wr.cell? ⟨b11, 1, none⟩ = some (.slice (some ⟨B2, 0, none⟩) n8 cS2) := by rw [← hn8]; exact q11
                    obtain ⟨k, hk⟩ : ∃ k, lane x = k := ⟨_, rfl⟩
                    rw [hk] at hcS hcL hlx
                    obtain ⟨sx, hsx⟩ : ∃ sx, slotAt Gs x = sx := ⟨_, rfl⟩
                    rw [hsx] at hcS hcG
                    have hkn : (k : Int) < (n8 : Int) := by omega
                    have hiN : (i : Int) < (N : Int) := by omega
                    have wi : IntKind.i64.wrap ((i : Int) + 1) = (i : Int) + 1 := IntWalk.i64_in _ (by omega)
                    have q1 : wr.drew.cell? ⟨b11, 1, none⟩ = _ := q11
                    have qS : wr.drew.cell? ⟨B2, k, none⟩ = _ := hcS
                    have qL : wr.drew.cell? ⟨BL, i, none⟩ = _ := hcL
                    have qG : wr.drew.cell? ⟨BG, i, none⟩ = _ := hcG
                    have q6 : wr.drew.cell? ⟨b16, 0, none⟩ = some (.slice (some ⟨BG, 0, none⟩) m cG) := q16
                    clear hsx hk hn8
                    go_upto_region 27 with fail
                    go_region_held3 (fun w' => w'.cell? ⟨b11, 1, none⟩ = some (.slice (some ⟨B2, 0, none⟩) n8 cS2) ∧ w'.cell? ⟨B2, k, none⟩ = some (.int .u32 (sx : Nat)) ∧ w'.cell? ⟨BL, i, none⟩ = some (.int .i64 (k : Nat)) ∧ w'.cell? ⟨BG, i, none⟩ = some (.int .u32 (sx : Nat)) ∧ w'.cell? ⟨b16, 0, none⟩ = some (.slice (some ⟨BG, 0, none⟩) m cG)) (first | go_keep | exact ⟨q1, qS, qL, qG, q6⟩) (fail)
                    go_wp2
                    go_roundw
                    case rel => exact ⟨i + 1, by go_num, hlt, HPU.out.drew⟩
                    case measure => simp [intOf]; omega
                  · have hlt' : (m : Int) ≤ (i : Int) := by omega
                    go_wp2_with (go_at_call 35; refine Calls.mono (known7_true _) ?_; rintro e w5 ⟨rfl, hq⟩)
                    go_ret
                    exact ⟨rfl, (HP0.out.trans HF4.out.pu).trans hq⟩
      · have hv' : validM x = false := by simpa using hv
        have HNw := Lib.hid (fun W => New_bad x hv' W)
        have HRw := Lib.hid (fun W => rNew_bad x hv' W)
        clear hb hv hv'
        go_wp2_with (first
          | (go_at_call 36; refine Calls.mono (HNw.out _) ?_; rintro e w1 ⟨rfl, rfl⟩)
          | (go_at_call 46; refine Calls.mono (HRw.out _) ?_; rintro e w2 ⟨rfl, hp2⟩)
          | (go_at_call 35; refine Calls.mono (known7_true _) ?_; rintro e w5 ⟨rfl, hq⟩))
        go_ret
        exact ⟨rfl, HP0.out.trans ((hp2.alloc _).trans hq)⟩
end Go.Proofs.Ytbjiebhbmpafpaa
