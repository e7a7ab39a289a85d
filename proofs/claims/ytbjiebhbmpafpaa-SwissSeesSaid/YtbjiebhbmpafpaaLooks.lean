/- law07.looks: true of an index and its reference. -/
import Derived.Test.YtbjiebhbmpafpaaDoA
namespace Go.Proofs.Ytbjiebhbmpafpaa
open Go.RowKit Go.Shelf
set_option maxRecDepth 100000

/-- The loop of looks: the copies are struck out, the index' rows stay. -/
structure LKS (w : World) (b B1 B2 cC cS b4 c4 b5 c5 n : Nat) (L : List Nat) (i : Nat) (W : World) : Prop where
  pu : Pure w W
  hb : W.heap[b]? = some (.cells #[.slice (some ⟨B1, 0, none⟩) n cC, .slice (some ⟨B2, 0, none⟩) n cS] 82 (0, 0))
  S : ∀ (k x : Nat), L[k]? = some x → W.cell? ⟨B2, k, none⟩ = some (.int .u32 (x : Nat))
  rows : ∃ xs ys, Rows2 W b4 b5 c4 c5 n xs ys ∧ ∀ k, i ≤ k → ys[k]? = (u32v L)[k]?
  f4 : w.heap.size ≤ b4
  f5 : w.heap.size ≤ b5
  ne : B2 ≠ b4 ∧ B2 ≠ b5
section
variable {w W W' : World} {b B1 B2 cC cS b4 c4 b5 c5 n : Nat} {L : List Nat} {i : Nat}
theorem LKS.pure (h : LKS w b B1 B2 cC cS b4 c4 b5 c5 n L i W) (hp : Pure W W') : LKS w b B1 B2 cC cS b4 c4 b5 c5 n L i W' := by
  obtain ⟨xs, ys, h1, h2⟩ := h.rows
  exact ⟨h.pu.trans hp, hp.heap (fun h => h) h.hb, fun k x hx => hp.cell (fun h => h) (h.S k x hx), ⟨xs, ys, h1.pure hp, h2⟩, h.f4, h.f5, h.ne⟩
theorem LKS.at5 (h : LKS w b B1 B2 cC cS b4 c4 b5 c5 n L i W) {x : Nat} (hx : L[i]? = some x) (hi : i < n) : W.cell? ⟨b5, i, none⟩ = some (.int .u32 (x : Nat)) := by
  obtain ⟨xs, ys, h1, h2⟩ := h.rows
  obtain ⟨B, c, e, _, _, hc, _⟩ := owns_at h1.S (by omega)
  cases e
  exact hc i _ (by rw [h2 i (Nat.le_refl _)]; unfold u32v; rw [List.getElem?_map, hx]; rfl)
theorem LKS.cells (h : LKS w b B1 B2 cC cS b4 c4 b5 c5 n L i W) (hi : i < n) : (∃ u, W.cell? ⟨b4, i, none⟩ = some u) ∧ (∃ u, W.cell? ⟨b5, i, none⟩ = some u) ∧ (∀ j, W.frozen? ⟨b4, j, none⟩ = false) ∧ (∀ j, W.frozen? ⟨b5, j, none⟩ = false) ∧ b4 ≠ b5 := by
  obtain ⟨xs, ys, h1, h2⟩ := h.rows
  obtain ⟨x1, x2, x3, x4, _, _⟩ := h1.cell hi
  exact ⟨x1, x2, x3, x4, h1.ne⟩
theorem LKS.put (h : LKS w b B1 B2 cC cS b4 c4 b5 c5 n L i W) (hi : i < n) {u v : Value} (hW : (W.setCell ⟨b5, i, none⟩ u).setCell ⟨b4, i, none⟩ v = W') : LKS w b B1 B2 cC cS b4 c4 b5 c5 n L (i + 1) W' := by
  subst hW
  obtain ⟨xs, ys, h1, h2⟩ := h.rows
  obtain ⟨r1, m1⟩ := h1.putS (u := u) hi
  obtain ⟨r2, m2⟩ := r1.putC (u := v) hi
  obtain ⟨n1, n2⟩ := h1.nb h.hb
  have hb1 := m1.heap (fun e => n2 e) h.hb
  have hb2 := m2.heap (fun e => n1 e) hb1
  refine ⟨(h.pu.then m1 (fun k hk e => by have := h.f5; omega)).then m2 (fun k hk e => by have := h.f4; omega), hb2, fun k x hx => ?_, ⟨_, _, r2, fun k hk => ?_⟩, h.f4, h.f5, h.ne⟩
  · exact m2.cell (fun e => h.ne.1 e) (m1.cell (fun e => h.ne.2 e) (h.S k x hx))
  · rw [List.getElem?_set, if_neg (by omega)]
    exact h2 k (by omega)
end
set_option maxHeartbeats 4000000 in
theorem looks_ok {w W : World} {p : Nat} {sv : Value} {Gs : List Grp} {aC : Option Addr} {cC : Nat} {aS : Option Addr} {cS : Nat} (h : Has w p sv Gs W) (hr : RefI W aC cC aS cS Gs) :
    Calls Try.prog 51 #[.pointer (some ⟨p, 0, none⟩), refI aC cC aS cS Gs.length] W fun e w' => e = .returned (.bool true) ∧ Pure W w' := by
  have hg1 := h.ix.ok.pow.le
  have hgp := h.ix.ok.pow.pos
  have hR := RBox.new hr
  have HOK := Lib.hid h.ix.ok
  have hal : Pure W (W.alloc (.cells #[.slice aC (8 * Gs.length) cC, .slice aS (8 * Gs.length) cS] 82)) := (Mod.refl _ W).alloc _
  have HH := Lib.hid (h.pure hal)
  clear h hr
  unfold refI
  go_enter Try.func51, Try.ntmps51
  go_upto_region 1 with fail
  generalize W.alloc (.cells #[.slice aC (8 * Gs.length) cC, .slice aS (8 * Gs.length) cS] 82) = X at *
  obtain ⟨b, hb⟩ : ∃ b, W.heap.size = b := ⟨_, rfl⟩
  rw [hb] at hR ⊢
  have HR := Lib.hid hR; have HB := Lib.hid hb; have HPX := Lib.hid hal
  clear hR hb hal
  have hX2 := HR.out.rf.S
  have HL := Lib.hid (Layout_ok HH.out.ix)
  go_upto_region 2 with (go_at_call 52; refine Calls.mono HL.out ?_; rintro e X1 ⟨v4, v5, rfl, hl⟩)
  obtain ⟨b4, c4, b5, c5, rfl, rfl, k4, k5, f4, f5⟩ := lay_at hl hgp
  have HR1 := Lib.hid (HR.out.pure hl.pu)
  have HH1 := Lib.hid (HH.out.pure hl.pu)
  have HLY := Lib.hid hl
  rw [List.take_length] at f4 f5
  have F4 := Lib.hid f4; have F5 := Lib.hid f5
  clear HR HH HL hl f4 f5
  have hbx := HR1.out.bx
  obtain ⟨B1, B2, e1, e2, l1, l2, hC, hS⟩ := HR1.out.rf.cells
  subst e1 e2
  have hB2 : B2 < X.heap.size := by
    have := owns_lt hX2 (g := B2) rfl
    omega
  have HC := Lib.hid hC; have HS := Lib.hid hS
  -- conversions
  have hlen := laneC_length HOK.out
  have hp0 : Pure X1 X1.drew := (Mod.refl _ X1).drew
  have g1 : ∀ V, Pure X1 V → (convert 44 9 (.slice (some ⟨b4, 0, none⟩) (8 * Gs.length) c4)).run Try.prog V = .ok (.string (strOf (laneC Gs))) V := fun V hV => by
    have := conv_u8s (w := V) (a := ⟨b4, 0, none⟩) (c := c4) (laneC Gs) (laneC_lt HOK.out) (by
      refine ReadAt.of_owns (e := 5) (n := (laneC Gs).length) ?_ (fun u hu => by obtain ⟨x, _, rfl⟩ := List.mem_map.1 hu; rfl)
      rw [hlen]
      have := HLY.out.c
      rw [List.take_length] at this
      exact owns_mod this hV (fun _ _ h => h))
    rw [hlen] at this
    exact this
  have g2 : ∀ V, Pure X1 V → (convert 44 9 (.slice (some ⟨B1, 0, none⟩) (8 * Gs.length) cC)).run Try.prog V = .ok (.string (strOf (laneC Gs))) V := fun V hV => by
    have := conv_u8s (w := V) (a := ⟨B1, 0, none⟩) (c := cC) (laneC Gs) (laneC_lt HOK.out) (by
      refine ReadAt.of_owns (e := 5) (n := (laneC Gs).length) ?_ (fun u hu => by obtain ⟨x, _, rfl⟩ := List.mem_map.1 hu; rfl)
      rw [hlen]
      exact owns_mod HR1.out.rf.C hV (fun _ _ h => h))
    rw [hlen] at this
    exact this
  have G1 := Lib.hid g1; have G2 := Lib.hid g2
  clear hC hS hlen g1 g2 hp0
  have p1 : Pure X1 X1.drew := (Mod.refl _ X1).drew
  have hln := HOK.out.used_le; have hlt := HOK.out.tomb_le
  have HGx := Lib.hid (fun (V : World) (hV : Pure X1 V) => IGroups_ok (HH1.out.pure hV).ix)
  have HLx := Lib.hid (fun (V : World) (hV : Pure X1 V) => ILen_ok (HH1.out.pure hV).ix)
  have HTx := Lib.hid (fun (V : World) (hV : Pure X1 V) => ITombs_ok (HH1.out.pure hV).ix)
  have hgr := fun (V : World) => rGroups_ok (w := V) (aC := some ⟨B1, 0, none⟩) (cC := cC) (aS := some ⟨B2, 0, none⟩) (cS := cS) HOK.out
  have hc1 := fun (V : World) (hV : Pure X1 V) => rCount_ok (HR1.out.rf.pure hV) 0 127 (by decide) (by decide)
  have hc2 := fun (V : World) (hV : Pure X1 V) => rCount_ok (HR1.out.rf.pure hV) 254 254 (by decide) (by decide)
  rw [cnt_used HOK.out] at hc1
  rw [cnt_tomb HOK.out] at hc2
  unfold refI at hgr hc1 hc2
  have HGr := Lib.hid hgr; have HC1 := Lib.hid hc1; have HC2 := Lib.hid hc2
  clear hgr hc1 hc2
  have hbx_0 := cell_of_row _ _ 0 _ _ _ hbx; have hbx_1 := cell_of_row _ _ 1 _ _ _ hbx; have hbx_f := (fun j => frozen_of_row _ _ j _ _ hbx); have hbx_l := lt_of_block hbx; simp at hbx_0 hbx_1; have H_hbx := Lib.hid hbx; clear hbx
  generalize hgg : Gs.length = g at *
  have wn : IntKind.i64.wrap (8 * (g : Int)) = 8 * (g : Int) := IntWalk.i64_in _ (by omega)
  have z0 : X1.cell? ⟨b, 0, none⟩ = _ := hbx_0
  have z1 : X1.cell? ⟨b, 1, none⟩ = _ := hbx_1
  have t1 : Hid True := Lib.hid trivial
  go_cut [47] (fun v47 wc => v47 = .bool false ∧ Pure X1 wc)
  case first =>
    go_region_held3 (fun w' => w'.cell? ⟨b, 0, none⟩ = some (.slice (some ⟨B1, 0, none⟩) (8 * g) cC) ∧ w'.cell? ⟨b, 1, none⟩ = some (.slice (some ⟨B2, 0, none⟩) (8 * g) cS) ∧ (convert 44 9 (.slice (some ⟨b4, 0, none⟩) (8 * g) c4)).run Try.prog w' = .ok (.string (strOf (laneC Gs))) w' ∧ (convert 44 9 (.slice (some ⟨B1, 0, none⟩) (8 * g) cC)).run Try.prog w' = .ok (.string (strOf (laneC Gs))) w')
      (first | exact ⟨p4.cell (fun h => h) z0, p4.cell (fun h => h) z1, G1.out _ p4, G2.out _ p4⟩ | exact ⟨p3.cell (fun h => h) z0, p3.cell (fun h => h) z1, G1.out _ p3, G2.out _ p3⟩ | exact ⟨p2.cell (fun h => h) z0, p2.cell (fun h => h) z1, G1.out _ p2, G2.out _ p2⟩ | exact ⟨p1.cell (fun h => h) z0, p1.cell (fun h => h) z1, G1.out _ p1, G2.out _ p1⟩ | go_keep)
      ((first
        | (go_at_call 54; (with_reducible refine Calls.mono (HGx.out _ (by first | exact p2 | exact p1)) ?_); rintro e w' ⟨rfl, rfl⟩)
        | (go_at_call 101; (with_reducible refine Calls.mono (HGr.out _) ?_); rintro e X2 ⟨rfl, hp2⟩; have p2 := p1.trans hp2)
        | (go_at_call 39; (with_reducible refine Calls.mono (HLx.out _ (by first | exact p3 | exact p2)) ?_); rintro e w' ⟨rfl, rfl⟩)
        | (have := t1.out; go_at_call 104; (with_reducible refine Calls.mono (HC1.out _ p2) ?_); clear this t1; rintro e X3 ⟨rfl, hp3⟩; have p3 := p2.trans hp3)
        | (go_at_call 44; (with_reducible refine Calls.mono (HTx.out _ (by first | exact p4 | exact p3)) ?_); rintro e w' ⟨rfl, rfl⟩)
        | (go_at_call 104; (with_reducible refine Calls.mono (HC2.out _ p3) ?_); rintro e X4 ⟨rfl, hp4⟩; have p4 := p3.trans hp4)))
    all_goals
      try go_wp2
      go_meet
      exact ⟨rfl, p4⟩
  case rest =>
    obtain ⟨rfl, hp4⟩ := hcut
    clear t1 z0 z1 p1 G1 G2 wn HGx HLx HTx HGr HC1 HC2
    have HR4 := HR1.out.pure hp4
    have hll : (laneS Gs).length = 8 * g := by rw [laneS_length HOK.out, hgg]
    have hq4 := HLY.out.c; have hq5 := HLY.out.s
    have hfc := HLY.out.fc b4 rfl; have hfs := HLY.out.fs b5 rfl
    rw [← hgg, List.take_length, hgg] at hq4 hq5
    have hlt2 : B2 < X.heap.size := hB2
    have hL0 : LKS X b B1 B2 cC cS b4 c4 b5 c5 (8 * g) (laneS Gs) 0 wc :=
      ⟨HLY.out.pu.trans hp4, by have := HR4.bx; rw [hgg] at this; exact this, fun k x hx => hp4.cell (fun h => h) (HS.out k x hx), ⟨_, _, ⟨owns_mod hq4 hp4 (fun _ _ h => h), owns_mod hq5 hp4 (fun _ _ h => h)⟩, fun k _ => rfl⟩, hfc, hfs, by omega, by omega⟩
    have HLL := Lib.hid hll
    obtain ⟨n, hn⟩ : ∃ n, 8 * g = n := ⟨_, rfl⟩
    have hnn : n ≤ 8388608 := by omega
    rw [hn] at hL0 hll k4 k5 l1 l2
    have HL0 := Lib.hid hL0
    have hng : (8 * (g : Int)) = (n : Int) := by omega
    have HNG := Lib.hid hng
    clear hL0 hq4 hq5 hfc hfs hlt2 HR4 hp4 HLY HR1 HC HS F4 F5 HLL hng
    clear hbx_0 hbx_1 hbx_f hbx_l
    clear H_hbx
    rw [hn]
    go_upto_region 5 with fail
    go_loopw [50] (fun v50 wr => ∃ i, v50 = .int .i64 (i : Nat) ∧ i ≤ n ∧ LKS X b B1 B2 cC cS b4 c4 b5 c5 n (laneS Gs) i wr) (fun v50 _ => n - (intOf v50).toNat)
    case atStart => exact ⟨0, rfl, Nat.zero_le _, HL0.out⟩
    case round =>
      obtain ⟨i, rfl, hi, hL⟩ := hrel
      have HL := Lib.hid hL
      clear hL HL0
      by_cases hlt : i < n
      · have hlt' : (i : Int) < (n : Int) := by omega
        obtain ⟨x, hx⟩ : ∃ x, (laneS Gs)[i]? = some x := ⟨_, List.getElem?_eq_getElem (by omega)⟩
        have q5 : wr.drew.cell? ⟨b5, i, none⟩ = _ := HL.out.at5 hx hlt
        have qS : wr.drew.cell? ⟨B2, i, none⟩ = _ := HL.out.S i x hx
        have q1 : wr.drew.cell? ⟨b, 1, none⟩ = _ := cell_of_row _ b 1 _ _ _ HL.out.hb
        clear hx
        go_upto_region 7 with fail
        go_region_held3 (fun w' => w'.cell? ⟨b, 1, none⟩ = some (.slice (some ⟨B2, 0, none⟩) n cS) ∧ w'.cell? ⟨B2, i, none⟩ = some (.int .u32 (x : Nat)) ∧ w'.cell? ⟨b5, i, none⟩ = some (.int .u32 (x : Nat))) (first | go_keep | exact ⟨q1, qS, q5⟩) (fail)
        have HD := Lib.hid (HL.out.pure (Mod.refl (fun _ => False) wr).drew)
        clear q1 qS q5 HL
        generalize wr.drew = Wd at *
        obtain ⟨⟨u4, d4⟩, ⟨u5, d5⟩, fz4, fz5, hne⟩ := HD.out.cells hlt
        have d4' : (Wd.setCell ⟨b5, i, none⟩ (.int .u32 77)).cell? ⟨b4, i, none⟩ = some u4 := (Mod.set1 (w := Wd) b5 i (.int .u32 77)).cell (S := fun k => k = b5) hne d4
        have wi : IntKind.i64.wrap ((i : Int) + 1) = (i : Int) + 1 := IntWalk.i64_in _ (by omega)
        have HP := Lib.hid (HD.out.put hlt (u := .int .u32 77) (v := .int .u8 77) rfl)
        go_wp2
        go_roundw
        case rel => exact ⟨i + 1, by go_num, hlt, HP.out⟩
        case measure => simp [intOf]; omega
      · have hlt' : (n : Int) ≤ (i : Int) := by omega
        go_wp2
        go_ret
        exact ⟨rfl, HPX.out.trans HL.out.pu⟩
end Go.Proofs.Ytbjiebhbmpafpaa
