/- Lemmas and contracts of functions, strung together out of 1 texts. No condition. -/
import Derived.Test.YtapplindfijngaaGreatJPfDictGrows19
/- law10.DictGrows answers true. -/
namespace Go.Proofs.YtapplindfijngaaGreat
open Go.RowKit Go.Shelf
set_option maxRecDepth 100000

theorem u8_at (k : Nat) (h : k ≤ 255) : (UInt8.ofNat k).toNat = k := by simp; omega
def keyD (k : Nat) : ByteArray := ⟨#[UInt8.ofNat (k % 256), UInt8.ofNat (k / 256)]⟩
def eD (k : Nat) : Ent := ⟨keyD k, [], 0, (k : Int) + 1⟩
def LD (i : Nat) : List (Option Ent) := (List.range i).map (fun k => some (eD k))
theorem LD_length (i : Nat) : (LD i).length = i := by simp [LD]
theorem LD_succ (i : Nat) : LD (i + 1) = LD i ++ [some (eD i)] := by simp [LD, List.range_succ]
theorem keyD_inj {i j : Nat} (hi : i ≤ 400) (hj : j ≤ 400) (h : keyD i = keyD j) : i = j := by
  have := congrArg (fun b : ByteArray => b.data.toList) h
  simp [keyD] at this
  have h1 := congrArg UInt8.toNat this.1
  have h2 := congrArg UInt8.toNat this.2
  rw [u8_at _ (by omega), u8_at _ (by omega)] at h1 h2
  omega
theorem LD_find {i : Nat} (hi : i ≤ 400) : findK (LD i) (eD i).key = none := by
  refine findK_not (fun s e hs hk => ?_)
  unfold LD at hs
  rw [List.getElem?_map] at hs
  by_cases h : s < i
  · rw [List.getElem?_range h] at hs
    simp at hs
    subst hs
    have := keyD_inj (i := s) (j := i) (by omega) hi hk
    omega
  · rw [List.getElem?_eq_none (by simpa using h)] at hs; cases hs
theorem eD_ok {i : Nat} (hi : i ≤ 400) : (eD i).Ok := ⟨by show 0 < 2; omega, by show 2 ≤ 250; omega, by show 0 ≤ 65536; omega, by show (0 : Int) < (i : Int) + 1; omega⟩
theorem u32_small {s : Nat} (h : s ≤ 400) : IntKind.u32.wrap (s : Int) = (s : Int) := by simp [IntKind.wrap, IntKind.signed, IntKind.bits]; omega
def SGr (b10 b20 b23 : Nat) (v0 v1 v2 v3 u0 u1 u2 u3 x2 x4 x5 : Value) (w' : World) : Prop :=
  w'.cell? ⟨b20, 0, none⟩ = some v0 ∧ w'.cell? ⟨b20, 1, none⟩ = some v1 ∧ w'.cell? ⟨b20, 2, none⟩ = some v2 ∧ w'.cell? ⟨b20, 3, none⟩ = some v3 ∧ w'.cell? ⟨b23, 0, none⟩ = some u0 ∧ w'.cell? ⟨b23, 1, none⟩ = some u1 ∧ w'.cell? ⟨b23, 2, none⟩ = some u2 ∧ w'.cell? ⟨b23, 3, none⟩ = some u3 ∧ w'.cell? ⟨b10, 2, none⟩ = some x2 ∧ w'.cell? ⟨b10, 4, none⟩ = some x4 ∧ w'.cell? ⟨b10, 5, none⟩ = some x5
theorem SGr.pure {b10 b20 b23 : Nat} {v0 v1 v2 v3 u0 u1 u2 u3 x2 x4 x5 : Value} {X W : World} (h : SGr b10 b20 b23 v0 v1 v2 v3 u0 u1 u2 u3 x2 x4 x5 X) (hp : Pure X W) : SGr b10 b20 b23 v0 v1 v2 v3 u0 u1 u2 u3 x2 x4 x5 W := by
  obtain ⟨h1, h2, h3, h4, h5, h6, h7, h8, h9, h10, h11⟩ := h
  exact ⟨hp.cell (fun h => h) h1, hp.cell (fun h => h) h2, hp.cell (fun h => h) h3, hp.cell (fun h => h) h4, hp.cell (fun h => h) h5, hp.cell (fun h => h) h6, hp.cell (fun h => h) h7, hp.cell (fun h => h) h8, hp.cell (fun h => h) h9, hp.cell (fun h => h) h10, hp.cell (fun h => h) h11⟩
theorem bytes_read {X W : World} {v : Value} {l : List UInt8} (h : BytesAt X v (bytesOf l)) (hW : Pure X W) : ReadAt W v 1 (bytesOf l) := BytesAt.read (owns_mod h hW (fun _ _ h => h)) (bytesOf_one _)
theorem len_pure {W : World} {d : Nat} {n : Int} (h : Calls Tryz.prog 19 #[dPtr d] W fun e w' => e = .returned (.int .i64 n) ∧ W = w') : Calls Tryz.prog 19 #[dPtr d] W fun e w' => e = .returned (.int .i64 n) ∧ Pure W w' :=
  Calls.mono h (by rintro e w' ⟨rfl, rfl⟩; exact ⟨rfl, Mod.refl _ _⟩)
set_option maxHeartbeats 8000000 in
theorem DictGrows_true {w : World} (seed : Int) (h0 : 0 ≤ seed) (h1 : seed ≤ 18446744073709551615) (same : Bool) (n step : Int) :
    Calls Tryz.prog 3 #[.int .u64 seed, .bool same, .int .i64 n, .int .i64 step] w fun e w' => e = .returned (.bool true) ∧ Pure w w' := by
  have HKn := Lib.hid (fun W => known10_true W)
  obtain ⟨seed, rfl⟩ := Int.eq_ofNat_of_zero_le h0
  by_cases c1 : n < 0
  · have d1 : decide (n < 0) = true := decide_eq_true c1
    go_enter Tryz.func3, Tryz.ntmps3
    go_wp2_with (go_at_call 7; refine Calls.mono (HKn.out _) ?_; rintro e w1 ⟨rfl, hp1⟩)
    go_ret
    exact ⟨rfl, hp1⟩
  have d1 : decide (n < 0) = false := decide_eq_false c1
  by_cases c2 : 400 < n
  · have d2 : decide (400 < n) = true := decide_eq_true c2
    go_enter Tryz.func3, Tryz.ntmps3
    go_wp2_with (go_at_call 7; refine Calls.mono (HKn.out _) ?_; rintro e w1 ⟨rfl, hp1⟩)
    go_ret
    exact ⟨rfl, hp1⟩
  have d2 : decide (400 < n) = false := decide_eq_false c2
  by_cases c3 : same = true ∧ 100 < n
  · obtain ⟨rfl, c3⟩ := c3
    have d3 : decide (100 < n) = true := decide_eq_true c3
    go_enter Tryz.func3, Tryz.ntmps3
    go_wp2_with (go_at_call 7; refine Calls.mono (HKn.out _) ?_; rintro e w1 ⟨rfl, hp1⟩)
    go_ret
    exact ⟨rfl, hp1⟩
  obtain ⟨n, rfl⟩ := Int.eq_ofNat_of_zero_le (show 0 ≤ n by omega)
  by_cases c4 : step < 1
  · have d4 : decide (step < 1) = true := decide_eq_true c4
    cases same with
    | false =>
      go_enter Tryz.func3, Tryz.ntmps3
      go_wp2_with (go_at_call 7; refine Calls.mono (HKn.out _) ?_; rintro e w1 ⟨rfl, hp1⟩)
      go_ret
      exact ⟨rfl, hp1⟩
    | true =>
      have d3 : decide (100 < (n : Int)) = false := decide_eq_false (fun h => c3 ⟨rfl, h⟩)
      go_enter Tryz.func3, Tryz.ntmps3
      go_wp2_with (go_at_call 7; refine Calls.mono (HKn.out _) ?_; rintro e w1 ⟨rfl, hp1⟩)
      go_ret
      exact ⟨rfl, hp1⟩
  by_cases c5 : 1000 < step
  · have d4 : decide (step < 1) = false := decide_eq_false c4
    have d5 : decide (1000 < step) = true := decide_eq_true c5
    cases same with
    | false =>
      go_enter Tryz.func3, Tryz.ntmps3
      go_wp2_with (go_at_call 7; refine Calls.mono (HKn.out _) ?_; rintro e w1 ⟨rfl, hp1⟩)
      go_ret
      exact ⟨rfl, hp1⟩
    | true =>
      have d3 : decide (100 < (n : Int)) = false := decide_eq_false (fun h => c3 ⟨rfl, h⟩)
      go_enter Tryz.func3, Tryz.ntmps3
      go_wp2_with (go_at_call 7; refine Calls.mono (HKn.out _) ?_; rintro e w1 ⟨rfl, hp1⟩)
      go_ret
      exact ⟨rfl, hp1⟩
  obtain ⟨st, rfl⟩ := Int.eq_ofNat_of_zero_le (show 0 ≤ step by omega)
  have d4 : decide ((st : Int) < 1) = false := decide_eq_false c4
  have d5 : decide (1000 < (st : Int)) = false := decide_eq_false c5
  have hsd : seed < 18446744073709551616 := by omega
  have HN := Lib.hid (fun W => hnew10 (seed : Int) same W)
  have hn4 : n ≤ 400 := by omega
  have HST : Hid (st ≤ 1000) := Lib.hid (by omega)
  go_enter Tryz.func3, Tryz.ntmps3
  go_upto_region 1 with fail
  go_cut [45] (fun v wx => v = .bool false ∧ Pure w wx)
  case first =>
    cases same with
    | false =>
      go_wp2
      go_meet
      exact ⟨rfl, Mod.refl _ _⟩
    | true =>
      have d3 : decide (100 < (n : Int)) = false := decide_eq_false (fun h => c3 ⟨rfl, h⟩)
      go_wp2
      go_meet
      exact ⟨rfl, Mod.refl _ _⟩
  case rest =>
    obtain ⟨rfl, hpw⟩ := hcut
    have HPW := Lib.hid hpw
    clear hpw c1 c2 c3 c4 c5 h0 h1 d1 d2 d4 d5
    go_upto_region 4 with (first
      | (go_at_call 9; refine Calls.mono (HN.out _) ?_; rintro e w1 ⟨rfl, hp1⟩)
      | (go_at_call 8; refine Calls.mono (newG' (w := w) seed same hsd (HPW.out.trans hp1)) ?_; rintro e w2 ⟨d, rfl, ⟨D, hd1, hd2, hd3⟩, hp2⟩; dsimp only [dPtr])
      | (go_at_call 10; refine Calls.mono (newR seed same hsd hd2 hd1 hd3) ?_; rintro e w3 ⟨r0, rfl, hdr, hp3⟩))
    have hal : Pure w3 (w3.alloc (rdO seed same r0 0 (8 * (newG 1).length))) := (Mod.refl _ w3).alloc _
    have h10 := heap_new (w := w3) (o := rdO seed same r0 0 (8 * (newG 1).length)) rfl
    have HDR := Lib.hid (hdr.pure hal)
    have hb10 : w.heap.size ≤ w3.heap.size := hdr.pu.size
    have H10 := Lib.hid h10
    clear hal h10 hdr hp3 hd1 hd2 hd3 hp1 hp2 HN HPW
    dsimp only [rdO] at H10 ⊢
    generalize w3.alloc (.cells #[.int .u64 seed, .bool same, .slice r0.aL 0 r0.cL, .slice r0.aG 0 r0.cG, .slice r0.aC (8 * (newG 1).length) r0.cC, .slice r0.aS (8 * (newG 1).length) r0.cS] 38) = W4 at *
    generalize w3.heap.size = b10 at *
    go_upto_region 7 with fail
    go_loopw [11] (fun v11 wr => ∃ (i : Nat) (r : RA) (Q : List RQ) (Gs : List Grp), v11 = .int .i64 (i : Nat) ∧ i ≤ n ∧ DR w wr d seed same (LD i) Gs r Q Gs (fun _ => False) ∧ slotsR (Q.map absQ) = LD i ∧ wr.heap[b10]? = some (rdO seed same r Q.length (8 * Gs.length))) (fun v11 _ => n - (intOf v11).toNat)
    case atStart => exact ⟨0, r0, [], newG 1, rfl, Nat.zero_le _, HDR.out, rfl, H10.out⟩
    case round =>
      clear HDR H10
      obtain ⟨i, r, Q, Gs, rfl, hi, hdr, hLQ, h10⟩ := hrel
      have HDR := Lib.hid hdr; have HLQ := Lib.hid hLQ
      have hQl : Q.length = i := by have := congrArg List.length hLQ; rw [slotsR_length, List.length_map, LD_length] at this; exact this
      obtain ⟨m, hm⟩ : ∃ m, 8 * Gs.length = m := ⟨_, rfl⟩
      rw [hm, hQl] at h10
      have HQL := Lib.hid hQl; have HM := Lib.hid hm; have H10 := Lib.hid h10
      clear hdr hLQ hm h10 hQl
      by_cases hlt : i < n
      · have hlt' : (i : Int) < (n : Int) := by omega
        have i0 : (0 : Int) ≤ (i : Int) := by omega
        have wi : IntKind.i64.wrap ((i : Int) + 1) = (i : Int) + 1 := IntWalk.i64_in _ (by omega)
        have w8 : IntKind.u8.wrap (i : Int) = ((i % 256 : Nat) : Int) := by simp [IntKind.wrap, IntKind.signed, IntKind.bits]
        have wq : wrap64 ((i : Int) / 256) = ((i / 256 : Nat) : Int) := by
          rw [show (i : Int) / 256 = ((i / 256 : Nat) : Int) by omega]
          exact w64_nat _ (by omega)
        have w82 : IntKind.u8.wrap ((i / 256 : Nat) : Int) = ((i / 256 : Nat) : Int) := by simp [IntKind.wrap, IntKind.signed, IntKind.bits]; omega
        have wu : IntKind.u64.wrap (i : Int) = (i : Int) := by have := u64_wrap i (by omega); exact this
        have wu1 : IntKind.u64.wrap ((i : Int) + 1) = (i : Int) + 1 := by have := u64_wrap (i + 1) (by omega); simpa using this
        have kc := conv_bytes (w := wr.alloc (.cells #[.int .u8 ((i % 256 : Nat) : Int), .int .u8 ((i : Int) / 256)] 5)) (a := some ⟨wr.heap.size, 0, none⟩) (n := 2) (c := 2) [UInt8.ofNat (i % 256), UInt8.ofNat (i / 256)] (by
          have := ReadAt.of_block (w := wr.alloc (.cells #[.int .u8 ((i % 256 : Nat) : Int), .int .u8 ((i : Int) / 256)] 5)) 2 2 1 (heap_new rfl) rfl (by simp [Value.oneCell'])
          simpa [bytesOf, u8_at (i % 256) (by omega), u8_at (i / 256) (by omega)] using this)
        rw [show (⟨[UInt8.ofNat (i % 256), UInt8.ofNat (i / 256)].toArray⟩ : ByteArray) = keyD i from rfl] at kc
        have HEO := Lib.hid (eD_ok (i := i) (by omega)); have HFN := Lib.hid (LD_find (i := i) (by omega))
        generalize i % 256 = im at *
        go_upto_region 10 with fail
        clear w8 wq w82 wu wu1 kc
        have hpa : Pure wr ((wr.alloc (.cells #[.int .u8 (im : Int), .int .u8 ((i : Int) / 256)] 5)).alloc (.cells #[.string (keyD i), .slice none 0 0, .int .u64 0, .int .u64 ((i : Int) + 1)] 42)) := ((Mod.refl _ wr).alloc _).alloc _
        have h12 := heap_new (w := wr.alloc (.cells #[.int .u8 (im : Int), .int .u8 ((i : Int) / 256)] 5)) (o := .cells #[.string (keyD i), .slice none 0 0, .int .u64 0, .int .u64 ((i : Int) + 1)] 42 (0, 0)) (n := wr.heap.size + 1) (by simp)
        have HDA := Lib.hid (HDR.out.one (b := wr.heap.size + 1) hpa (by omega) (lt_of_block h12))
        have h10 := hpa.heap (fun h => h) H10.out
        have hb12 : b10 ≠ wr.heap.size + 1 := by have := lt_of_block H10.out; omega
        have HKE := Lib.hid HDR.out.keeps
        clear hpa HDR H10
        generalize ((wr.alloc (.cells #[.int .u8 (im : Int), .int .u8 ((i : Int) / 256)] 5)).alloc (.cells #[.string (keyD i), .slice none 0 0, .int .u64 0, .int .u64 ((i : Int) + 1)] 42)) = W5 at *
        generalize wr.heap.size + 1 = b12 at *
        have H12 := Lib.hid h12; have H10 := Lib.hid h10
        have HIn := Lib.hid (insR HDA.out (eD i) HEO.out (by rw [LD_length]; omega) HFN.out none 0 0 (ReadAt.nil _ _))
        dsimp only [eD] at HIn
        rw [← show eD i = ⟨keyD i, [], 0, (i : Int) + 1⟩ from rfl, ← LD_succ, LD_length] at HIn
        clear h10
        have h12_0 := cell_of_row _ _ 0 _ _ _ h12; have h12_1 := cell_of_row _ _ 1 _ _ _ h12; have h12_2 := cell_of_row _ _ 2 _ _ _ h12; have h12_3 := cell_of_row _ _ 3 _ _ _ h12; have h12_f := (fun j => frozen_of_row _ _ j _ _ h12); have h12_l := lt_of_block h12; simp at h12_0 h12_1 h12_2 h12_3; have H_h12 := Lib.hid h12; clear h12
        go_upto_region 11 with (go_at_call 11; refine Calls.mono HIn.out ?_; rintro e w6 ⟨rfl, hdr6, hok6, hke6⟩)
        have h10 := hok6 _ _ H10.out (fun cs T fz e => by cases e; decide)
        have h12 := hke6 _ _ rfl H12.out
        have HD6 := Lib.hid hdr6
        clear h12_0 h12_1 h12_2 h12_3 h12_f h12_l
        clear hdr6 hok6 hke6 H_h12 HDA H10 H12 HIn
        obtain ⟨G2, hG2⟩ : ∃ G2, putM (sumL seed same (LD (i + 1))) Gs i = G2 := ⟨_, rfl⟩
        rw [hG2] at HD6
        have hri := rinsR HD6.out (by rw [HLQ.out]; exact HKE.out) (eD i) HEO.out (by rw [HQL.out]; omega) (by rw [HLQ.out]; exact HFN.out) none 0 0 (ReadAt.nil _ _)
        rw [HLQ.out, HQL.out, HM.out, ← LD_succ, hG2] at hri
        dsimp only [eD] at hri
        obtain ⟨m2, hm2⟩ : ∃ m2, 8 * G2.length = m2 := ⟨_, rfl⟩
        rw [hm2] at hri
        have HM2 := Lib.hid hm2
        have HRI := Lib.hid hri
        have H10 := Lib.hid h10
        clear hri hm2 hG2 HEO HFN HKE
        obtain ⟨aL, cL, aG, cG, aC, cC, aS, cS⟩ := r
        dsimp only [rdO] at h10
        have h10_0 := cell_of_row _ _ 0 _ _ _ h10; have h10_1 := cell_of_row _ _ 1 _ _ _ h10; have h10_2 := cell_of_row _ _ 2 _ _ _ h10; have h10_3 := cell_of_row _ _ 3 _ _ _ h10; have h10_4 := cell_of_row _ _ 4 _ _ _ h10; have h10_5 := cell_of_row _ _ 5 _ _ _ h10; have h10_f := (fun j => frozen_of_row _ _ j _ _ h10); have h10_l := lt_of_block h10; simp at h10_0 h10_1 h10_2 h10_3 h10_4 h10_5; have H_h10 := Lib.hid h10; clear h10
        have h12_0 := cell_of_row _ _ 0 _ _ _ h12; have h12_1 := cell_of_row _ _ 1 _ _ _ h12; have h12_2 := cell_of_row _ _ 2 _ _ _ h12; have h12_3 := cell_of_row _ _ 3 _ _ _ h12; have h12_f := (fun j => frozen_of_row _ _ j _ _ h12); have h12_l := lt_of_block h12; simp at h12_0 h12_1 h12_2 h12_3; have H_h12 := Lib.hid h12; clear h12
        go_upto_region 12 with (go_at_call 12; refine Calls.mono HRI.out ?_; rintro e w7 ⟨r2, Q2, rfl, hq2, hdr7, hp7⟩)
        have hQ2 : Q2.length = i + 1 := by have := congrArg List.length hq2; simp at this; rw [this, HQL.out]
        have hL2 : slotsR (Q2.map absQ) = LD (i + 1) := by rw [hq2, slotsR_snoc, HLQ.out, LD_succ]; rfl
        obtain ⟨n2, hn2⟩ : ∃ n2, Q2.length = n2 := ⟨_, rfl⟩
        rw [hn2] at hQ2 ⊢
        have hal : Pure w7 (w7.alloc (rdO seed same r2 n2 m2)) := (Mod.refl _ w7).alloc _
        have h15 := heap_new (w := w7) (o := rdO seed same r2 n2 m2) rfl
        have h10b := (hp7.trans hal).heap (fun h => h) H10.out
        have HD8 := Lib.hid (hdr7.pure hal)
        have hb15 : b10 ≠ w7.heap.size := by have := lt_of_block H10.out; have := hp7.size; omega
        have HL2 := Lib.hid hL2; have HN2 := Lib.hid hn2; have HQ2 := Lib.hid hQ2
        clear h10_0 h10_1 h10_2 h10_3 h10_4 h10_5 h10_f h10_l
        clear h12_0 h12_1 h12_2 h12_3 h12_f h12_l
        clear H_h10 H_h12 hal hdr7 hp7 hq2 hL2 hn2 hQ2 HRI H10 HD6
        obtain ⟨aL2, cL2, aG2, cG2, aC2, cC2, aS2, cS2⟩ := r2
        dsimp only [rdO] at h15 h10b ⊢
        generalize w7.alloc (.cells #[.int .u64 seed, .bool same, .slice aL2 n2 cL2, .slice aG2 n2 cG2, .slice aC2 m2 cC2, .slice aS2 m2 cS2] 38) = W8 at *
        generalize w7.heap.size = b15 at *
        have H10b := Lib.hid h10b
        have h15_0 := cell_of_row _ _ 0 _ _ _ h15; have h15_1 := cell_of_row _ _ 1 _ _ _ h15; have h15_2 := cell_of_row _ _ 2 _ _ _ h15; have h15_3 := cell_of_row _ _ 3 _ _ _ h15; have h15_4 := cell_of_row _ _ 4 _ _ _ h15; have h15_5 := cell_of_row _ _ 5 _ _ _ h15; have h15_f := (fun j => frozen_of_row _ _ j _ _ h15); have h15_l := lt_of_block h15; simp at h15_0 h15_1 h15_2 h15_3 h15_4 h15_5; have H_h15 := Lib.hid h15; clear h15
        have h10b_0 := cell_of_row _ _ 0 _ _ _ h10b; have h10b_1 := cell_of_row _ _ 1 _ _ _ h10b; have h10b_2 := cell_of_row _ _ 2 _ _ _ h10b; have h10b_3 := cell_of_row _ _ 3 _ _ _ h10b; have h10b_4 := cell_of_row _ _ 4 _ _ _ h10b; have h10b_5 := cell_of_row _ _ 5 _ _ _ h10b; have h10b_f := (fun j => frozen_of_row _ _ j _ _ h10b); have h10b_l := lt_of_block h10b; simp at h10b_0 h10b_1 h10b_2 h10b_3 h10b_4 h10b_5; have H_h10b := Lib.hid h10b; clear h10b
        go_upto_region 13 with fail
        obtain ⟨X, hX⟩ : ∃ X, (((((W8.setCell ⟨b10, 0, none⟩ (.int .u64 seed)).setCell ⟨b10, 1, none⟩ (.bool same)).setCell ⟨b10, 2, none⟩ (.slice aL2 n2 cL2)).setCell ⟨b10, 3, none⟩ (.slice aG2 n2 cG2)).setCell ⟨b10, 4, none⟩ (.slice aC2 m2 cC2)).setCell ⟨b10, 5, none⟩ (.slice aS2 m2 cS2) = X := ⟨_, rfl⟩
        obtain ⟨g1, g2⟩ := fin6 H_h10b.out hX
        rw [hX]
        have HDX := Lib.hid (HD8.out.put6 hb10 H_h10b.out g1)
        have HCg := Lib.hid (fun W (hW : Pure X W) => rdgroups HDX.out.rf HM2.out hW)
        have HCt := Lib.hid (fun W (hW : Pure X W) => rdtombs HDX.out.rf HM2.out hW)
        have HSz := Lib.hid (fun W (hW : Pure X W) => sizes10_ok (HDX.out.pure hW).dg (n2 : Int) (G2.length : Int) (tombN G2 : Int) (by rw [LD_length, HQ2.out]) rfl rfl)
        dsimp only at HCg HCt HSz
        clear h15_0 h15_1 h15_2 h15_3 h15_4 h15_5 h15_f h15_l
        clear h10b_0 h10b_1 h10b_2 h10b_3 h10b_4 h10b_5 h10b_f h10b_l
        clear H_h15 H_h10b H10b hX g1 HD8
        generalize (G2.length : Int) = gz at HCg HSz
        generalize (tombN G2 : Int) = tz at HCt HSz
        have g2_0 := cell_of_row _ _ 0 _ _ _ g2; have g2_1 := cell_of_row _ _ 1 _ _ _ g2; have g2_2 := cell_of_row _ _ 2 _ _ _ g2; have g2_3 := cell_of_row _ _ 3 _ _ _ g2; have g2_4 := cell_of_row _ _ 4 _ _ _ g2; have g2_5 := cell_of_row _ _ 5 _ _ _ g2; have g2_f := (fun j => frozen_of_row _ _ j _ _ g2); have g2_l := lt_of_block g2; simp at g2_0 g2_1 g2_2 g2_3 g2_4 g2_5; have H_g2 := Lib.hid g2; clear g2
        go_region_held3 (fun w' => w'.cell? ⟨b10, 2, none⟩ = some (.slice aL2 n2 cL2) ∧ w'.cell? ⟨b10, 4, none⟩ = some (.slice aC2 m2 cC2) ∧ w'.cell? ⟨b10, 5, none⟩ = some (.slice aS2 m2 cS2))
          (first | exact ⟨g2_2, g2_4, g2_5⟩ | exact ⟨hp1.cell (fun h => h) g2_2, hp1.cell (fun h => h) g2_4, hp1.cell (fun h => h) g2_5⟩ | exact ⟨(hp1.trans hp2).cell (fun h => h) g2_2, (hp1.trans hp2).cell (fun h => h) g2_4, (hp1.trans hp2).cell (fun h => h) g2_5⟩ | exact ⟨((hp1.trans hp2).trans hp3).cell (fun h => h) g2_2, ((hp1.trans hp2).trans hp3).cell (fun h => h) g2_4, ((hp1.trans hp2).trans hp3).cell (fun h => h) g2_5⟩)
          (first
            | (go_at_call 14; refine Calls.mono (HCg.out _ (by first | exact Mod.refl _ _ | exact (Mod.refl _ _).drew)) ?_; rintro e u1 ⟨rfl, hp1⟩)
            | (go_at_call 15; refine Calls.mono (HCt.out _ (by first | exact Mod.of_drew hp1 | exact hp1)) ?_; rintro e u2 ⟨rfl, hp2⟩)
            | (go_at_call 13; refine Calls.mono (HSz.out _ (by first | exact (Mod.of_drew hp1).trans hp2 | exact hp1.trans hp2)) ?_; rintro e u3 ⟨rfl, hp3⟩))
        all_goals
          try go_wp2
          go_roundw
          case rel => exact ⟨i + 1, ⟨aL2, cL2, aG2, cG2, aC2, cC2, aS2, cS2⟩, Q2, G2, by go_num, hlt, (HDX.out.pure (((Mod.of_drew hp1).trans hp2).trans hp3)).drop (fun _ h => h.elim), HL2.out, by
            rw [HN2.out, HM2.out]; exact (((Mod.of_drew hp1).trans hp2).trans hp3).heap (fun h => h) H_g2.out⟩
          case measure => simp [intOf]; omega
      · have hin : n = i := by omega
        subst hin
        clear hi hlt
        go_upto_region 16 with fail
        go_loopw [18] (fun v18 wr => ∃ (j : Nat) (r : RA) (Q : List RQ) (Gs : List Grp) (L : List (Option Ent)), v18 = .int .i64 (j : Nat) ∧ j ≤ n ∧ L.length = n ∧ DR w wr d seed same L Gs r Q Gs (fun _ => False) ∧ slotsR (Q.map absQ) = L ∧ wr.heap[b10]? = some (rdO seed same r Q.length (8 * Gs.length))) (fun v18 _ => n - (intOf v18).toNat)
        case atStart => exact ⟨0, r, Q, Gs, LD n, rfl, Nat.zero_le _, LD_length n, HDR.out, HLQ.out, by rw [HQL.out, HM.out]; exact H10.out⟩
        case round =>
          clear HDR H10 HLQ HQL HM
          clear r Q Gs m
          obtain ⟨j, r, Q, Gs, L, rfl, hj, hLn, hdr, hLQ, h10⟩ := hrel
          have HDR := Lib.hid hdr; have HLQ := Lib.hid hLQ; have HLN := Lib.hid hLn
          have hQl : Q.length = n := by have := congrArg List.length hLQ; rw [slotsR_length, List.length_map, hLn] at this; exact this
          obtain ⟨m, hm⟩ : ∃ m, 8 * Gs.length = m := ⟨_, rfl⟩
          rw [hm, hQl] at h10
          have HQL := Lib.hid hQl; have HM := Lib.hid hm; have H10 := Lib.hid h10
          clear hdr hLQ hm hQl hLn
          by_cases hlt : j < n
          · have hlt' : (j : Int) < (n : Int) := by omega
            have j0 : (0 : Int) ≤ (j : Int) := by omega
            have wi : IntKind.i64.wrap ((j : Int) + 1) = (j : Int) + 1 := IntWalk.i64_in _ (by omega)
            obtain ⟨js, hjs⟩ : ∃ js, j * st = js := ⟨_, rfl⟩
            have hjb := Nat.mul_le_mul (show j ≤ 400 by omega) HST.out
            rw [hjs] at hjb
            replace hjb : js < 400001 := by omega
            have hje : (j : Int) * (st : Int) = (js : Int) := by rw [← hjs]; exact (Int.natCast_mul j st).symm
            have wjs : IntKind.i64.wrap (js : Int) = (js : Int) := IntWalk.i64_in _ (by omega)
            have wjs' : wrap64 (js : Int) = (js : Int) := IntWalk.wrap64_in _ (by omega)
            have hnz : ((n : Int) == 0) = false := by simp; omega
            obtain ⟨s, hs⟩ : ∃ s, js % n = s := ⟨_, rfl⟩
            have hsn : s < n := by rw [← hs]; exact Nat.mod_lt _ (by omega)
            have em : (js : Int) % (n : Int) = (s : Int) := by rw [← hs]; rfl
            have em2 : (js : Int).tmod (n : Int) = (s : Int) := by rw [← hs, Int.tmod_eq_emod_of_nonneg (by omega)]; rfl
            have ws : IntKind.i64.wrap (s : Int) = (s : Int) := IntWalk.i64_in _ (by omega)
            have ws' : wrap64 (s : Int) = (s : Int) := IntWalk.wrap64_in _ (by omega)
            have hs400 : s ≤ 400 := Nat.le_trans (Nat.le_of_lt hsn) hn4
            have hs32 : s ≤ 4294967295 := Nat.le_trans hs400 (by decide)
            have wu : IntKind.u32.wrap (s : Int) = (s : Int) := u32_small hs400
            clear hs hjs
            have HRm := Lib.hid (remX_ok HDR.out (s := s) hs32)
            have HSN := Lib.hid hsn
            go_upto_region 19 with fail
            clear hje wjs wjs' em em2 ws ws' wu hjb hs400
            go_upto_region 20 with (go_at_call 16; refine Calls.mono HRm.out ?_; rintro e w6 ⟨a1, n1, c1, rfl, hb6, hf6, hdr6, hok6, _⟩)
            have h10 := hok6 _ _ H10.out (fun cs T fz e => by cases e; decide)
            have hal : Pure w6 (w6.alloc (.cells #[.string (remX L s).1.key, .slice a1 n1 c1, .int .u64 (remX L s).1.dl, .int .u64 (remX L s).1.birth] 42)) := (Mod.refl _ w6).alloc _
            have h20 := heap_new (w := w6) (o := .cells #[.string (remX L s).1.key, .slice a1 n1 c1, .int .u64 (remX L s).1.dl, .int .u64 (remX L s).1.birth] 42 (0, 0)) rfl
            have HKE := Lib.hid HDR.out.keeps
            have HOK := Lib.hid (remX_ok' HDR.out.ok s)
            have HD6 := Lib.hid (hdr6.pure hal)
            have HB6 := Lib.hid (owns_mod hb6 hal (fun _ _ h => h) : BytesAt _ (.slice a1 n1 c1) (bytesOf (remX L s).1.val))
            replace h10 := hal.heap (fun h => h) h10
            have hb20 : b10 ≠ w6.heap.size := by have := lt_of_block (hok6 _ _ H10.out (fun cs T fz e => by cases e; decide)); omega
            clear hdr6 hb6 hf6 hok6 HDR HRm hal H10
            obtain ⟨G2, hG2⟩ : ∃ G2, remG seed same L Gs s = G2 := ⟨_, rfl⟩
            rw [hG2] at HD6
            have hri := rremX_ok HD6.out (by rw [HLQ.out]; exact HKE.out) (s := s) hs32
            rw [HLQ.out, HQL.out, HM.out, hG2] at hri
            obtain ⟨m2, hm2⟩ : ∃ m2, 8 * G2.length = m2 := ⟨_, rfl⟩
            rw [hm2] at hri
            have HM2 := Lib.hid hm2
            have HRI := Lib.hid hri
            have H10 := Lib.hid h10
            clear hri hm2 hG2 HKE
            generalize w6.alloc (.cells #[.string (remX L s).1.key, .slice a1 n1 c1, .int .u64 (remX L s).1.dl, .int .u64 (remX L s).1.birth] 42) = W7 at *
            generalize w6.heap.size = b20 at *
            have H20 := Lib.hid h20
            obtain ⟨aL, cL, aG, cG, aC, cC, aS, cS⟩ := r
            dsimp only [rdO] at h10
            have h10_0 := cell_of_row _ _ 0 _ _ _ h10; have h10_1 := cell_of_row _ _ 1 _ _ _ h10; have h10_2 := cell_of_row _ _ 2 _ _ _ h10; have h10_3 := cell_of_row _ _ 3 _ _ _ h10; have h10_4 := cell_of_row _ _ 4 _ _ _ h10; have h10_5 := cell_of_row _ _ 5 _ _ _ h10; have h10_f := (fun j => frozen_of_row _ _ j _ _ h10); have h10_l := lt_of_block h10; simp at h10_0 h10_1 h10_2 h10_3 h10_4 h10_5; have H_h10 := Lib.hid h10; clear h10
            have h20_0 := cell_of_row _ _ 0 _ _ _ h20; have h20_1 := cell_of_row _ _ 1 _ _ _ h20; have h20_2 := cell_of_row _ _ 2 _ _ _ h20; have h20_3 := cell_of_row _ _ 3 _ _ _ h20; have h20_f := (fun j => frozen_of_row _ _ j _ _ h20); have h20_l := lt_of_block h20; simp at h20_0 h20_1 h20_2 h20_3; have H_h20 := Lib.hid h20; clear h20
            go_upto_region 21 with (go_at_call 17; refine Calls.mono HRI.out ?_; rintro e w8 ⟨r2, Q2, a2, n2, c2, rfl, hb8, hq2, hdr8, hp8⟩)
            have hQ2 : Q2.length = n := by have := congrArg List.length hq2; rw [slotsR_length, List.length_map, List.length_set, HLN.out] at this; exact this
            obtain ⟨nn, hnn⟩ : ∃ nn, Q2.length = nn := ⟨_, rfl⟩
            rw [hnn] at hQ2 ⊢
            have hal : Pure w8 ((w8.alloc (rdO seed same r2 nn m2)).alloc (.cells #[.string (remX L s).1.key, .slice a2 n2 c2, .int .u64 (remX L s).1.dl, .int .u64 (remX L s).1.birth] 42)) := ((Mod.refl _ w8).alloc _).alloc _
            have h22 := heap_keep (o := .cells #[.string (remX L s).1.key, .slice a2 n2 c2, .int .u64 (remX L s).1.dl, .int .u64 (remX L s).1.birth] 42) (heap_new (w := w8) (o := rdO seed same r2 nn m2) rfl)
            have h23 := heap_new (w := w8.alloc (rdO seed same r2 nn m2)) (o := .cells #[.string (remX L s).1.key, .slice a2 n2 c2, .int .u64 (remX L s).1.dl, .int .u64 (remX L s).1.birth] 42 (0, 0)) (n := w8.heap.size + 1) (by simp)
            have h10b := (hp8.trans hal).heap (fun h => h) H10.out
            have h20b := (hp8.trans hal).heap (fun h => h) H20.out
            have HD9 := Lib.hid (hdr8.pure hal)
            have HB9 := Lib.hid (owns_mod HB6.out (hp8.trans hal) (fun _ _ h => h) : BytesAt _ (.slice a1 n1 c1) (bytesOf (remX L s).1.val))
            have HC9 := Lib.hid (owns_mod hb8 hal (fun _ _ h => h) : BytesAt _ (.slice a2 n2 c2) (bytesOf (remX L s).1.val))
            have hb22 : b10 ≠ w8.heap.size := by have := lt_of_block H10.out; have := hp8.size; omega
            have hb23 : b10 ≠ w8.heap.size + 1 := by have := lt_of_block H10.out; have := hp8.size; omega
            have HL2 := Lib.hid hq2; have HN2 := Lib.hid hnn; have HQ2 := Lib.hid hQ2
            clear h10_0 h10_1 h10_2 h10_3 h10_4 h10_5 h10_f h10_l
            clear h20_0 h20_1 h20_2 h20_3 h20_f h20_l
            clear H_h10 H_h20 hal hdr8 hp8 hb8 hq2 hnn hQ2 HRI H10 H20 HD6 HB6
            obtain ⟨aL2, cL2, aG2, cG2, aC2, cC2, aS2, cS2⟩ := r2
            dsimp only [rdO] at h22 h10b ⊢
            generalize (w8.alloc (.cells #[.int .u64 seed, .bool same, .slice aL2 nn cL2, .slice aG2 nn cG2, .slice aC2 m2 cC2, .slice aS2 m2 cS2] 38)).alloc (.cells #[.string (remX L s).1.key, .slice a2 n2 c2, .int .u64 (remX L s).1.dl, .int .u64 (remX L s).1.birth] 42) = W9 at *
            generalize w8.heap.size = b22 at *
            have h22_0 := cell_of_row _ _ 0 _ _ _ h22; have h22_1 := cell_of_row _ _ 1 _ _ _ h22; have h22_2 := cell_of_row _ _ 2 _ _ _ h22; have h22_3 := cell_of_row _ _ 3 _ _ _ h22; have h22_4 := cell_of_row _ _ 4 _ _ _ h22; have h22_5 := cell_of_row _ _ 5 _ _ _ h22; have h22_f := (fun j => frozen_of_row _ _ j _ _ h22); have h22_l := lt_of_block h22; simp at h22_0 h22_1 h22_2 h22_3 h22_4 h22_5; have H_h22 := Lib.hid h22; clear h22
            have h10b_0 := cell_of_row _ _ 0 _ _ _ h10b; have h10b_1 := cell_of_row _ _ 1 _ _ _ h10b; have h10b_2 := cell_of_row _ _ 2 _ _ _ h10b; have h10b_3 := cell_of_row _ _ 3 _ _ _ h10b; have h10b_4 := cell_of_row _ _ 4 _ _ _ h10b; have h10b_5 := cell_of_row _ _ 5 _ _ _ h10b; have h10b_f := (fun j => frozen_of_row _ _ j _ _ h10b); have h10b_l := lt_of_block h10b; simp at h10b_0 h10b_1 h10b_2 h10b_3 h10b_4 h10b_5; have H_h10b := Lib.hid h10b; clear h10b
            go_upto_region 22 with fail
            obtain ⟨X, hX⟩ : ∃ X, (((((W9.setCell ⟨b10, 0, none⟩ (.int .u64 seed)).setCell ⟨b10, 1, none⟩ (.bool same)).setCell ⟨b10, 2, none⟩ (.slice aL2 nn cL2)).setCell ⟨b10, 3, none⟩ (.slice aG2 nn cG2)).setCell ⟨b10, 4, none⟩ (.slice aC2 m2 cC2)).setCell ⟨b10, 5, none⟩ (.slice aS2 m2 cS2) = X := ⟨_, rfl⟩
            obtain ⟨g1, g2⟩ := fin6 H_h10b.out hX
            rw [hX]
            have hty : ∀ i, (fun k => k = b10) i → i < W9.heap.size → ∃ cs T fz, W9.heap[i]? = some (.cells cs T fz) ∧ T ≠ 5 := fun i hi _ => by subst hi; exact ⟨_, _, _, H_h10b.out, by decide⟩
            have h20c := g1.heap hb20.symm h20b
            have h23c := g1.heap hb23.symm h23
            have HB := Lib.hid (owns_modT HB9.out g1 hty : BytesAt X (.slice a1 n1 c1) (bytesOf (remX L s).1.val))
            have HC := Lib.hid (owns_modT HC9.out g1 hty : BytesAt X (.slice a2 n2 c2) (bytesOf (remX L s).1.val))
            have HEq := Lib.hid (fun W (hW : Pure X W) => ref_Equal_same (remX L s).1 a1 a2 n1 n2 c1 c2 (bytes_read HB.out hW) (bytes_read HC.out hW))
            have HDX := Lib.hid (HD9.out.put6 hb10 H_h10b.out g1)
            have HCg := Lib.hid (fun W (hW : Pure X W) => rdgroups HDX.out.rf HM2.out hW)
            have HCt := Lib.hid (fun W (hW : Pure X W) => rdtombs HDX.out.rf HM2.out hW)
            have HSz := Lib.hid (fun W (hW : Pure X W) => sizes10_ok (HDX.out.pure hW).dg (nn : Int) (G2.length : Int) (tombN G2 : Int) (by rw [List.length_set, HLN.out, HQ2.out]) rfl rfl)
            dsimp only at HCg HCt HSz
            clear h22_0 h22_1 h22_2 h22_3 h22_4 h22_5 h22_f h22_l
            clear h10b_0 h10b_1 h10b_2 h10b_3 h10b_4 h10b_5 h10b_f h10b_l
            clear H_h22 H_h10b hX g1 HD9 HB9 HC9 hty h20b h23 HB HC
            have G2H := Lib.hid g2
            generalize (G2.length : Int) = gz at HCg HSz
            generalize (tombN G2 : Int) = tz at HCt HSz
            generalize (remX L s).1.key = xk at *
            generalize (remX L s).1.dl = xd at *
            generalize (remX L s).1.birth = xb at *
            generalize ((remX L s).2 : Int) = xe at *
            have g2_0 := cell_of_row _ _ 0 _ _ _ g2; have g2_1 := cell_of_row _ _ 1 _ _ _ g2; have g2_2 := cell_of_row _ _ 2 _ _ _ g2; have g2_3 := cell_of_row _ _ 3 _ _ _ g2; have g2_4 := cell_of_row _ _ 4 _ _ _ g2; have g2_5 := cell_of_row _ _ 5 _ _ _ g2; have g2_f := (fun j => frozen_of_row _ _ j _ _ g2); have g2_l := lt_of_block g2; simp at g2_0 g2_1 g2_2 g2_3 g2_4 g2_5; have H_g2 := Lib.hid g2; clear g2
            have h20c_0 := cell_of_row _ _ 0 _ _ _ h20c; have h20c_1 := cell_of_row _ _ 1 _ _ _ h20c; have h20c_2 := cell_of_row _ _ 2 _ _ _ h20c; have h20c_3 := cell_of_row _ _ 3 _ _ _ h20c; have h20c_f := (fun j => frozen_of_row _ _ j _ _ h20c); have h20c_l := lt_of_block h20c; simp at h20c_0 h20c_1 h20c_2 h20c_3; have H_h20c := Lib.hid h20c; clear h20c
            have h23c_0 := cell_of_row _ _ 0 _ _ _ h23c; have h23c_1 := cell_of_row _ _ 1 _ _ _ h23c; have h23c_2 := cell_of_row _ _ 2 _ _ _ h23c; have h23c_3 := cell_of_row _ _ 3 _ _ _ h23c; have h23c_f := (fun j => frozen_of_row _ _ j _ _ h23c); have h23c_l := lt_of_block h23c; simp at h23c_0 h23c_1 h23c_2 h23c_3; have H_h23c := Lib.hid h23c; clear h23c
            have HS := Lib.hid (show SGr b10 b20 (b22 + 1) (.string xk) (.slice a1 n1 c1) (.int .u64 xd) (.int .u64 xb) (.string xk) (.slice a2 n2 c2) (.int .u64 xd) (.int .u64 xb) (.slice aL2 nn cL2) (.slice aC2 m2 cC2) (.slice aS2 m2 cS2) X from ⟨h20c_0, h20c_1, h20c_2, h20c_3, h23c_0, h23c_1, h23c_2, h23c_3, g2_2, g2_4, g2_5⟩)
            go_region_held3 (fun w' => w'.cell? ⟨b20, 0, none⟩ = some (.string xk) ∧ w'.cell? ⟨b20, 1, none⟩ = some (.slice a1 n1 c1) ∧ w'.cell? ⟨b20, 2, none⟩ = some (.int .u64 xd) ∧ w'.cell? ⟨b20, 3, none⟩ = some (.int .u64 xb) ∧ w'.cell? ⟨b22 + 1, 0, none⟩ = some (.string xk) ∧ w'.cell? ⟨b22 + 1, 1, none⟩ = some (.slice a2 n2 c2) ∧ w'.cell? ⟨b22 + 1, 2, none⟩ = some (.int .u64 xd) ∧ w'.cell? ⟨b22 + 1, 3, none⟩ = some (.int .u64 xb) ∧ w'.cell? ⟨b10, 2, none⟩ = some (.slice aL2 nn cL2) ∧ w'.cell? ⟨b10, 4, none⟩ = some (.slice aC2 m2 cC2) ∧ w'.cell? ⟨b10, 5, none⟩ = some (.slice aS2 m2 cS2))
              (first | exact HS.out | exact HS.out.pure (Mod.of_drew hp0) | exact HS.out.pure ((Mod.of_drew hp0).trans hp1) | exact HS.out.pure (((Mod.of_drew hp0).trans hp1).trans hp2) | exact HS.out.pure ((((Mod.of_drew hp0).trans hp1).trans hp2).trans hp3))
              (first
                | (go_at_call 18; refine Calls.mono (HEq.out _ (by first | exact Mod.refl _ _ | exact (Mod.refl _ _).drew)) ?_; rintro e u0 ⟨rfl, hp0⟩)
                | (go_at_call 14; refine Calls.mono (HCg.out _ (by first | exact Mod.of_drew hp0 | exact hp0)) ?_; rintro e u1 ⟨rfl, hp1⟩)
                | (go_at_call 15; refine Calls.mono (HCt.out _ (by first | exact (Mod.of_drew hp0).trans hp1 | exact hp0.trans hp1)) ?_; rintro e u2 ⟨rfl, hp2⟩)
                | (go_at_call 13; refine Calls.mono (HSz.out _ (by first | exact ((Mod.of_drew hp0).trans hp1).trans hp2 | exact (hp0.trans hp1).trans hp2)) ?_; rintro e u3 ⟨rfl, hp3⟩))
            all_goals
              try go_wp2
              go_roundw
              case rel => exact ⟨j + 1, ⟨aL2, cL2, aG2, cG2, aC2, cC2, aS2, cS2⟩, Q2, G2, L.set s none, by go_num, hlt, by rw [List.length_set, HLN.out], HDX.out.pure ((((Mod.of_drew hp0).trans hp1).trans hp2).trans hp3), HL2.out, by
                rw [HN2.out, HM2.out]; exact ((((Mod.of_drew hp0).trans hp1).trans hp2).trans hp3).heap (fun h => h) G2H.out⟩
              case measure => simp [intOf]; omega
          · have hjn : n = j := by omega
            subst hjn
            clear hj hlt
            obtain ⟨lv, hlv⟩ : ∃ lv, liveOf L = lv := ⟨_, rfl⟩
            have HLn := Lib.hid (fun W (hW : Pure wr W) => len10_ok (HDR.out.pure hW).dg (lv : Int) (by rw [hlv]))
            have HLv := Lib.hid (fun W (hW : Pure wr W) => ref_Live (HDR.out.rf.l.pure hW))
            rw [liveQ_L, HLQ.out, hlv, HQL.out] at HLv
            clear hlv
            obtain ⟨aL, cL, aG, cG, aC, cC, aS, cS⟩ := r
            dsimp only [rdO] at h10 HLv
            have h10_0 := cell_of_row _ _ 0 _ _ _ h10; have h10_1 := cell_of_row _ _ 1 _ _ _ h10; have h10_2 := cell_of_row _ _ 2 _ _ _ h10; have h10_3 := cell_of_row _ _ 3 _ _ _ h10; have h10_4 := cell_of_row _ _ 4 _ _ _ h10; have h10_5 := cell_of_row _ _ 5 _ _ _ h10; have h10_f := (fun j => frozen_of_row _ _ j _ _ h10); have h10_l := lt_of_block h10; simp at h10_0 h10_1 h10_2 h10_3 h10_4 h10_5; have H_h10 := Lib.hid h10; clear h10
            go_upto_region 24 with fail
            go_region_held3 (fun w' => w'.cell? ⟨b10, 2, none⟩ = some (.slice aL n cL) ∧ w'.cell? ⟨b10, 3, none⟩ = some (.slice aG n cG))
              (first | exact ⟨h10_2, h10_3⟩ | exact ⟨(Mod.of_drew hp0).cell (fun h => h) h10_2, (Mod.of_drew hp0).cell (fun h => h) h10_3⟩ | exact ⟨((Mod.of_drew hp0).trans hp1).cell (fun h => h) h10_2, ((Mod.of_drew hp0).trans hp1).cell (fun h => h) h10_3⟩ | exact ⟨(((Mod.of_drew hp0).trans hp1).trans hp2).cell (fun h => h) h10_2, (((Mod.of_drew hp0).trans hp1).trans hp2).cell (fun h => h) h10_3⟩)
              (first
                | (go_at_call 19; refine Calls.mono ((len_pure (HLn.out _ (by first | exact Mod.refl _ _ | exact (Mod.refl _ _).drew)))) ?_; rintro e u0 ⟨rfl, hp0⟩)
                | (go_at_call 20; refine Calls.mono (HLv.out _ (by first | exact Mod.of_drew hp0 | exact hp0)) ?_; rintro e u1 ⟨rfl, hp1⟩)
                | (go_at_call 7; refine Calls.mono (HKn.out _) ?_; rintro e u2 ⟨rfl, hp2⟩))
            all_goals
              try go_wp2
              go_ret
              exact ⟨rfl, HDR.out.pu.trans (((Mod.of_drew hp0).trans hp1).trans hp2)⟩
end Go.Proofs.YtapplindfijngaaGreat
