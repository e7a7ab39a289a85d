/- Lemmas and contracts of functions, strung together out of 10 texts. No condition. -/
import Derived.Test.YtlalpenfgkfkpaaGreatDoorJPfDuePlays5
import Derived.Test.YtlalpenfgkfkpaaGreatDoorJPfDuePlays3
import Derived.Stop.RegionWithIn
/- cascade: Schedule. Conditions: the cascade lies in memory. -/
namespace Go.Proofs.YtlalpenfgkfkpaaGreatDoor
open Go.RowKit
set_option maxRecDepth 100000
section
variable {w w' : World} {D : Nat → Prop} {p now : Nat} {ws : List Nat} {bm bb : Nat} {Ds : Nat → Nat → Prop} {Dm Db : DataW Unit} {M : List Td} {Lss : List (List (List Nat))}
set_option maxHeartbeats 2000000 in
theorem csched_ok (h : CasMem w D p now ws bm bb Ds Dm Db M Lss) {x : Td} (hs : x.slot < 4194304) (hd : x.dl < 18446744073709551615) (hb : x.birth ≤ 18446744073709551615) (hb0 : x.birth ≠ 0) (hn : now < x.dl) (hMl : M.length < maxLen) {Ls : List (List Nat)} {L : List Nat}
    (hL : Lss[lvl now x.dl]? = some Ls) (hK : Ls[bkt now x.dl]? = some L) (hf : ¬ inL Ls x.slot) (h1 : ∀ y ∈ M, y.slot ≠ x.slot) (h2 : ∀ y ∈ M, y.birth ≠ x.birth) :
    Calls Tryz.prog 48 #[lkP p, tdV x] w fun e w' => e = .returned (.int .i64 0) ∧ (∃ D' Ds' Dm' Db', CasMem w' D' p now ws bm bb Ds' Dm' Db' (x :: M) (Lss.set (lvl now x.dl) (Ls.set (bkt now x.dl) (L ++ [x.slot]))) ∧ grewD D D' w) ∧ Mod D w w' := by
  have hal : Pure w (w.alloc (.cells #[.int .u32 x.slot, .int .u64 x.dl, .int .u64 x.birth] 45)) := (Mod.refl _ w).alloc _
  have h3 := heap_new (w := w) (o := .cells #[.int .u32 x.slot, .int .u64 x.dl, .int .u64 x.birth] 45 (0, 0)) rfl
  have HC := Lib.hid (h.pure hal)
  have HCk := Lib.hid (ccheck_ok (h.pure hal).box hs)
  have hat := cat_any (h.pure hal).box (s := x.slot) (dl := x.dl) (by omega) (by omega)
  unfold atE at hat
  rw [if_pos hs, if_neg (by omega), if_neg (by omega)] at hat
  have HAt := Lib.hid hat
  have HPu := Lib.hid (fun (W : World) (hW : Pure w W) => cput_ok (h.pure hW) (x := x) (M' := x :: M) hs (by omega) hb (by omega) hMl hL hK hf (.inl ⟨h1, h2, rfl⟩))
  have hlk := fun (W : World) (hW : Pure (w.alloc (.cells #[.int .u32 x.slot, .int .u64 x.dl, .int .u64 x.birth] 45)) W) => ((h.pure hal).pure hW).what.look_no (s := x.slot) (by omega) h1
  have hlb := fun (W : World) (hW : Pure (w.alloc (.cells #[.int .u32 x.slot, .int .u64 x.dl, .int .u64 x.birth] 45)) W) => ((h.pure hal).pure hW).births.look (s := x.birth) hb
  have hbh : Maps.has Db (kB x.birth) = false := by
    cases hh : Maps.has Db (kB x.birth) with
    | false => rfl
    | true => obtain ⟨y, hy, e⟩ := (h.births.has _).1 hh; exact absurd e (h2 y hy)
  rw [hbh] at hlb
  have HLK := Lib.hid hlk; have HLB := Lib.hid hlb; have HAL := Lib.hid hal
  have e0 : ((x.birth : Int) == 0) = false := by simp; omega
  clear h hal hat hlk hlb hbh hL hK hf h1 h2 hb0
  unfold tdV at HPu HLK ⊢
  go_enter Tryz.func48, Tryz.ntmps48
  go_upto_region 1 with fail
  generalize w.alloc (.cells #[.int .u32 x.slot, .int .u64 x.dl, .int .u64 x.birth] 45) = W1 at *
  obtain ⟨b3, hb3⟩ : ∃ b3, w.heap.size = b3 := ⟨_, rfl⟩
  rw [hb3] at h3 ⊢
  have H3 := Lib.hid h3
  clear hb3
  have h3_0 := cell_of_row _ _ 0 _ _ _ h3; have h3_1 := cell_of_row _ _ 1 _ _ _ h3; have h3_2 := cell_of_row _ _ 2 _ _ _ h3; have h3_f := (fun j => frozen_of_row _ _ j _ _ h3); have h3_l := lt_of_block h3; simp at h3_0 h3_1 h3_2; have H_h3 := Lib.hid h3; clear h3
  obtain ⟨c0, c9, c10, _, _⟩ := HC.out.box.cells
  go_upto_region 9 with (first
    | (go_at_call 46; refine Calls.mono HCk.out ?_; rintro e w' ⟨rfl, rfl⟩)
    | (go_at_call 68; refine Calls.mono HAt.out ?_; rintro e w' ⟨rfl, rfl⟩))
  have hk1 := HLK.out W1 (Mod.refl _ _)
  have hk2 := HLK.out W1.drew (Mod.refl _ _).drew
  have hk3 := HLK.out (W1.alloc (.cells #[.int .u32 0, .int .u64 0, .int .u64 0] 45)) ((Mod.refl _ _).alloc _)
  have hk4 := HLK.out (W1.alloc (.cells #[.int .u32 0, .int .u64 0, .int .u64 0] 45)).drew ((Mod.refl _ _).alloc _).drew
  go_cut [8] (fun v wx => v = .bool false ∧ Pure W1 wx)
  case first =>
    go_region
    all_goals
      (try go_wp2)
      go_meet
      first
        | exact ⟨rfl, (Mod.refl _ _).alloc _⟩
        | exact ⟨rfl, ((Mod.refl _ _).alloc _).drew⟩
  case rest =>
    obtain ⟨rfl, hpx⟩ := hcut
    have h3x := hpx.heap (fun h => h) H3.out
    have HCx := Lib.hid (HC.out.pure hpx)
    have HPX := Lib.hid hpx
    have H3x := Lib.hid h3x
    clear h3_0 h3_1 h3_2 h3_f h3_l
    clear H_h3 c0 c9 c10 hk1 hk2 hk3 hk4
    have h3x_0 := cell_of_row _ _ 0 _ _ _ h3x; have h3x_1 := cell_of_row _ _ 1 _ _ _ h3x; have h3x_2 := cell_of_row _ _ 2 _ _ _ h3x; have h3x_f := (fun j => frozen_of_row _ _ j _ _ h3x); have h3x_l := lt_of_block h3x; simp at h3x_0 h3x_1 h3x_2; have H_h3x := Lib.hid h3x; clear h3x
    obtain ⟨c0, c9, c10, _, _⟩ := HCx.out.box.cells
    have hk1 := HLB.out wc hpx
    have hk2 := HLB.out wc.drew hpx.drew
    have hk3 := HLB.out (wc.alloc (.cells #[] 117)) (hpx.alloc _)
    have hk4 := HLB.out (wc.alloc (.cells #[] 117)).drew (hpx.alloc _).drew
    go_upto_region 10 with fail
    go_cut [10] (fun v wx => v = .bool false ∧ Pure W1 wx)
    case first =>
      go_region
      all_goals
        (try go_wp2)
        try go_meet
        first
          | exact ⟨rfl, hpx⟩
          | exact ⟨rfl, hpx.drew⟩
          | exact ⟨rfl, hpx.alloc _⟩
          | exact ⟨rfl, (hpx.alloc _).drew⟩
    case rest =>
      obtain ⟨rfl, hpy⟩ := hcut
      have h3y := hpy.heap (fun h => h) H3.out
      have HCy := Lib.hid (HC.out.pure hpy)
      have HPY := Lib.hid hpy
      have H3y := Lib.hid h3y
      clear h3x_0 h3x_1 h3x_2 h3x_f h3x_l
      clear H_h3x c0 c9 c10 hk1 hk2 hk3 hk4 HCx
      have h3y_0 := cell_of_row _ _ 0 _ _ _ h3y; have h3y_1 := cell_of_row _ _ 1 _ _ _ h3y; have h3y_2 := cell_of_row _ _ 2 _ _ _ h3y; have h3y_f := (fun j => frozen_of_row _ _ j _ _ h3y); have h3y_l := lt_of_block h3y; simp at h3y_0 h3y_1 h3y_2; have H_h3y := Lib.hid h3y; clear h3y
      obtain ⟨c0, c9, c10, _, _⟩ := HCy.out.box.cells
      go_upto_region 13 with fail
      go_upto_region 14 with (go_at_call 60; refine Calls.mono (HPu.out _ (by first | exact HAL.out.trans HPY.out | exact (HAL.out.trans HPY.out).drew)) ?_; rintro e w' ⟨rfl, ⟨D', Ds', Dm', Db', hC, hg⟩, hm⟩)
      have hm0 : Mod D w w' := ((HAL.out.trans HPY.out).mono (fun _ _ h => h.elim) : Mod D w wc).trans (by first | exact hm | exact Mod.of_drew hm)
      have hg0 : grewD D D' w := fun k hk => by
        rcases hg k hk with e | e
        · exact .inl e
        · exact .inr (Nat.le_trans (HAL.out.trans HPY.out).size e)
      have HF := Lib.hid hC
      have HM := Lib.hid hm0
      have HG := Lib.hid hg0
      clear hC hm hg hm0 hg0
      go_wp2
      exact bodyPost_ret (v := .int .i64 0) (by simp [results, Tryz.results48, go_sem]) rfl ⟨rfl, ⟨_, _, _, _, HF.out, HG.out⟩, HM.out⟩
end
end Go.Proofs.YtlalpenfgkfkpaaGreatDoor

/- cascade: Schedule's errors ahead of the maps. Conditions: the cascade lies in memory. -/
namespace Go.Proofs.YtlalpenfgkfkpaaGreatDoor
open Go.RowKit
set_option maxRecDepth 100000
/-- The error of what is to be scheduled, ahead of the maps. -/
def schE (now : Nat) (x : Td) : Int := if x.slot < 4194304 then (if x.birth = 0 then 2 else atE now x.slot x.dl) else 2
section
variable {w w' : World} {D : Nat → Prop} {p now : Nat} {ws : List Nat} {bm bb : Nat} {Ds : Nat → Nat → Prop} {Dm Db : DataW Unit} {M : List Td} {Lss : List (List (List Nat))}
set_option maxHeartbeats 2000000 in
theorem csched_er (h : CasMem w D p now ws bm bb Ds Dm Db M Lss) {x : Td} (h32 : x.slot ≤ 4294967295) (hd : x.dl ≤ 18446744073709551615) (hb : x.birth ≤ 18446744073709551615) (he : schE now x ≠ 0) :
    Calls Tryz.prog 48 #[lkP p, tdV x] w fun e w' => e = .returned (.int .i64 (schE now x)) ∧ Pure w w' := by
  have hal : Pure w (w.alloc (.cells #[.int .u32 x.slot, .int .u64 x.dl, .int .u64 x.birth] 45)) := (Mod.refl _ w).alloc _
  have h3 := heap_new (w := w) (o := .cells #[.int .u32 x.slot, .int .u64 x.dl, .int .u64 x.birth] 45 (0, 0)) rfl
  have hck := ccheck_any (h.pure hal).box (s := x.slot) h32
  unfold slotE at hck
  have hat := cat_any (h.pure hal).box (s := x.slot) (dl := x.dl) h32 hd
  have HCk := Lib.hid hck
  have HAt := Lib.hid hat
  have HAL := Lib.hid hal
  obtain ⟨E, hE⟩ : ∃ E, schE now x = E := ⟨_, rfl⟩
  rw [hE] at he ⊢
  clear h hal hck hat
  unfold tdV
  go_enter Tryz.func48, Tryz.ntmps48
  go_upto_region 1 with fail
  generalize w.alloc (.cells #[.int .u32 x.slot, .int .u64 x.dl, .int .u64 x.birth] 45) = W1 at *
  obtain ⟨b3, hb3⟩ : ∃ b3, w.heap.size = b3 := ⟨_, rfl⟩
  rw [hb3] at h3 ⊢
  clear hb3
  have h3_0 := cell_of_row _ _ 0 _ _ _ h3; have h3_1 := cell_of_row _ _ 1 _ _ _ h3; have h3_2 := cell_of_row _ _ 2 _ _ _ h3; have h3_f := (fun j => frozen_of_row _ _ j _ _ h3); have h3_l := lt_of_block h3; simp at h3_0 h3_1 h3_2; have H_h3 := Lib.hid h3; clear h3
  unfold schE at hE
  by_cases hs : x.slot < 4194304
  · rw [if_pos hs] at hE
    have hck := HCk.out
    rw [if_pos hs] at hck
    have HCk2 := Lib.hid hck
    clear HCk hck
    by_cases hb0 : x.birth = 0
    · rw [if_pos hb0] at hE
      subst hE
      have e0 : ((x.birth : Int) == 0) = true := by simp; omega
      go_wp2_with (go_at_call 46; refine Calls.mono HCk2.out ?_; rintro e w' ⟨rfl, rfl⟩)
      have hpp := HAL.out
      exact bodyPost_ret (v := .int .i64 2) (by simp [results, Tryz.results48, go_sem]) rfl ⟨rfl, by first | exact hpp | exact hpp.drew⟩
    · rw [if_neg hb0] at hE
      have e0 : ((x.birth : Int) == 0) = false := by simp; omega
      rw [hE] at HAt
      have e1 : (E == 0) = false := by simpa using he
      clear hE
      go_wp2_with (first
        | (go_at_call 46; refine Calls.mono HCk2.out ?_; rintro e w' ⟨rfl, rfl⟩)
        | (go_at_call 68; refine Calls.mono HAt.out ?_; rintro e w' ⟨rfl, rfl⟩))
      have hpp := HAL.out
      exact bodyPost_ret (v := .int .i64 E) (by simp [results, Tryz.results48, go_sem]) rfl ⟨rfl, by first | exact hpp | exact hpp.drew⟩
  · rw [if_neg hs] at hE
    subst hE
    have hck := HCk.out
    rw [if_neg hs] at hck
    have HCk2 := Lib.hid hck
    clear HCk hck
    go_wp2_with (go_at_call 46; refine Calls.mono HCk2.out ?_; rintro e w' ⟨rfl, rfl⟩)
    have hpp := HAL.out
    exact bodyPost_ret (v := .int .i64 2) (by simp [results, Tryz.results48, go_sem]) rfl ⟨rfl, by first | exact hpp | exact hpp.drew⟩
end
end Go.Proofs.YtlalpenfgkfkpaaGreatDoor

/- cascade: Schedule of what is scheduled already. Conditions: the cascade lies in memory. -/
namespace Go.Proofs.YtlalpenfgkfkpaaGreatDoor
open Go.RowKit
set_option maxRecDepth 100000
section
variable {w w' : World} {D : Nat → Prop} {p now : Nat} {ws : List Nat} {bm bb : Nat} {Ds : Nat → Nat → Prop} {Dm Db : DataW Unit} {M : List Td} {Lss : List (List (List Nat))}
set_option maxHeartbeats 2000000 in
theorem csched_busy (h : CasMem w D p now ws bm bb Ds Dm Db M Lss) {x : Td} (hs : x.slot < 4194304) (hd : x.dl < 18446744073709551615) (hb : x.birth ≤ 18446744073709551615) (hb0 : x.birth ≠ 0) (hn : now < x.dl) (h1 : (∃ y ∈ M, y.slot = x.slot) ∨ ∃ y ∈ M, y.birth = x.birth) :
    Calls Tryz.prog 48 #[lkP p, tdV x] w fun e w' => e = .returned (.int .i64 11) ∧ Pure w w' := by
  have hal : Pure w (w.alloc (.cells #[.int .u32 x.slot, .int .u64 x.dl, .int .u64 x.birth] 45)) := (Mod.refl _ w).alloc _
  have h3 := heap_new (w := w) (o := .cells #[.int .u32 x.slot, .int .u64 x.dl, .int .u64 x.birth] 45 (0, 0)) rfl
  have HC := Lib.hid (h.pure hal)
  have HCk := Lib.hid (ccheck_ok (h.pure hal).box hs)
  have hat := cat_any (h.pure hal).box (s := x.slot) (dl := x.dl) (by omega) (by omega)
  unfold atE at hat
  rw [if_pos hs, if_neg (by omega), if_neg (by omega)] at hat
  have HAt := Lib.hid hat
  obtain ⟨z, b1, b2, hlk, hlb, hbz⟩ : ∃ (z : Td) (b1 b2 : Bool), (∀ W, Pure (w.alloc (.cells #[.int .u32 x.slot, .int .u64 x.dl, .int .u64 x.birth] 45)) W → (Instr.lookup 56 (.map (some bm)) (.int .u32 x.slot) true).run Tryz.prog W = .ok (.tuple #[tdV z, .bool b1]) W) ∧ (∀ W, Pure (w.alloc (.cells #[.int .u32 x.slot, .int .u64 x.dl, .int .u64 x.birth] 45)) W → (Instr.lookup 81 (.map (some bb)) (.int .u64 x.birth) true).run Tryz.prog W = .ok (.tuple #[.agg #[], .bool b2]) W) ∧ (b1 = true ∨ b1 = false ∧ b2 = true) := by
    have hlb := fun (W : World) (hW : Pure (w.alloc (.cells #[.int .u32 x.slot, .int .u64 x.dl, .int .u64 x.birth] 45)) W) => ((h.pure hal).pure hW).births.look (s := x.birth) hb
    by_cases hy : ∃ y ∈ M, y.slot = x.slot
    · obtain ⟨y, hy, e⟩ := hy
      refine ⟨y, true, _, fun W hW => ?_, hlb, .inl rfl⟩
      have := ((h.pure hal).pure hW).what.look hy (by omega)
      rw [e] at this
      exact this
    · refine ⟨⟨0, 0, 0⟩, false, _, fun W hW => ((h.pure hal).pure hW).what.look_no (s := x.slot) (by omega) (fun y hm e => hy ⟨y, hm, e⟩), hlb, .inr ⟨rfl, ?_⟩⟩
      rcases h1 with h1 | ⟨y, hm, e⟩
      · exact absurd h1 hy
      · exact (h.births.has _).2 ⟨y, hm, e⟩
  have HLK := Lib.hid hlk; have HLB := Lib.hid hlb; have HAL := Lib.hid hal
  have e0 : ((x.birth : Int) == 0) = false := by simp; omega
  clear h hal hat hlk hlb h1 hb0
  unfold tdV at HLK ⊢
  go_enter Tryz.func48, Tryz.ntmps48
  go_upto_region 1 with fail
  generalize w.alloc (.cells #[.int .u32 x.slot, .int .u64 x.dl, .int .u64 x.birth] 45) = W1 at *
  obtain ⟨b3, hb3⟩ : ∃ b3, w.heap.size = b3 := ⟨_, rfl⟩
  rw [hb3] at h3 ⊢
  have H3 := Lib.hid h3
  clear hb3
  have h3_0 := cell_of_row _ _ 0 _ _ _ h3; have h3_1 := cell_of_row _ _ 1 _ _ _ h3; have h3_2 := cell_of_row _ _ 2 _ _ _ h3; have h3_f := (fun j => frozen_of_row _ _ j _ _ h3); have h3_l := lt_of_block h3; simp at h3_0 h3_1 h3_2; have H_h3 := Lib.hid h3; clear h3
  obtain ⟨c0, c9, c10, _, _⟩ := HC.out.box.cells
  go_upto_region 9 with (first
    | (go_at_call 46; refine Calls.mono HCk.out ?_; rintro e w' ⟨rfl, rfl⟩)
    | (go_at_call 68; refine Calls.mono HAt.out ?_; rintro e w' ⟨rfl, rfl⟩))
  have hk1 := HLK.out W1 (Mod.refl _ _)
  have hk2 := HLK.out W1.drew (Mod.refl _ _).drew
  have hk3 := HLK.out (W1.alloc (.cells #[.int .u32 0, .int .u64 0, .int .u64 0] 45)) ((Mod.refl _ _).alloc _)
  have hk4 := HLK.out (W1.alloc (.cells #[.int .u32 0, .int .u64 0, .int .u64 0] 45)).drew ((Mod.refl _ _).alloc _).drew
  go_cut [8] (fun v wx => v = .bool b1 ∧ Pure W1 wx)
  case first =>
    go_region
    all_goals
      (try go_wp2)
      go_meet
      first
        | exact ⟨rfl, (Mod.refl _ _).alloc _⟩
        | exact ⟨rfl, ((Mod.refl _ _).alloc _).drew⟩
  case rest =>
    obtain ⟨rfl, hpx⟩ := hcut
    have h3x := hpx.heap (fun h => h) H3.out
    have HCx := Lib.hid (HC.out.pure hpx)
    have HPX := Lib.hid hpx
    have H3x := Lib.hid h3x
    clear h3_0 h3_1 h3_2 h3_f h3_l
    clear H_h3 c0 c9 c10 hk1 hk2 hk3 hk4
    have h3x_0 := cell_of_row _ _ 0 _ _ _ h3x; have h3x_1 := cell_of_row _ _ 1 _ _ _ h3x; have h3x_2 := cell_of_row _ _ 2 _ _ _ h3x; have h3x_f := (fun j => frozen_of_row _ _ j _ _ h3x); have h3x_l := lt_of_block h3x; simp at h3x_0 h3x_1 h3x_2; have H_h3x := Lib.hid h3x; clear h3x
    obtain ⟨c0, c9, c10, _, _⟩ := HCx.out.box.cells
    have hk1 := HLB.out wc hpx
    have hk2 := HLB.out wc.drew hpx.drew
    have hk3 := HLB.out (wc.alloc (.cells #[] 117)) (hpx.alloc _)
    have hk4 := HLB.out (wc.alloc (.cells #[] 117)).drew (hpx.alloc _).drew
    go_upto_region 10 with fail
    go_cut [10] (fun v wx => v = .bool b2 ∧ Pure W1 wx)
    case first =>
      go_region
      all_goals
        (try go_wp2)
        try go_meet
        first
          | exact ⟨rfl, hpx⟩
          | exact ⟨rfl, hpx.drew⟩
          | exact ⟨rfl, hpx.alloc _⟩
          | exact ⟨rfl, (hpx.alloc _).drew⟩
    case rest =>
      obtain ⟨rfl, hpy⟩ := hcut
      have h3y := hpy.heap (fun h => h) H3.out
      have HCy := Lib.hid (HC.out.pure hpy)
      have HPY := Lib.hid hpy
      have H3y := Lib.hid h3y
      clear h3x_0 h3x_1 h3x_2 h3x_f h3x_l
      clear H_h3x c0 c9 c10 hk1 hk2 hk3 hk4 HCx
      have h3y_0 := cell_of_row _ _ 0 _ _ _ h3y; have h3y_1 := cell_of_row _ _ 1 _ _ _ h3y; have h3y_2 := cell_of_row _ _ 2 _ _ _ h3y; have h3y_f := (fun j => frozen_of_row _ _ j _ _ h3y); have h3y_l := lt_of_block h3y; simp at h3y_0 h3y_1 h3y_2; have H_h3y := Lib.hid h3y; clear h3y
      obtain ⟨c0, c9, c10, _, _⟩ := HCy.out.box.cells
      have hpp := HAL.out.trans HPY.out
      rcases hbz with rfl | ⟨rfl, rfl⟩
      all_goals
        go_wp2
        exact bodyPost_ret (v := .int .i64 11) (by simp [results, Tryz.results48, go_sem]) rfl ⟨rfl, by first | exact hpp | exact hpp.drew⟩
end
end Go.Proofs.YtlalpenfgkfkpaaGreatDoor

/- cascade: Reschedule's errors. Conditions: the cascade lies in memory. -/
namespace Go.Proofs.YtlalpenfgkfkpaaGreatDoor
open Go.RowKit
set_option maxRecDepth 100000
section
variable {w w' : World} {D : Nat → Prop} {p now : Nat} {ws : List Nat} {bm bb : Nat} {Ds : Nat → Nat → Prop} {Dm Db : DataW Unit} {M : List Td} {Lss : List (List (List Nat))}
end
end Go.Proofs.YtlalpenfgkfkpaaGreatDoor

/- cascade: Reschedule. Conditions: the cascade lies in memory. -/
namespace Go.Proofs.YtlalpenfgkfkpaaGreatDoor
open Go.RowKit
set_option maxRecDepth 100000
section
variable {w w' : World} {D : Nat → Prop} {p now : Nat} {ws : List Nat} {bm bb : Nat} {Ds : Nat → Nat → Prop} {Dm Db : DataW Unit} {M : List Td} {Lss : List (List (List Nat))}
end
end Go.Proofs.YtlalpenfgkfkpaaGreatDoor

/- cascade: Where. Conditions: the cascade lies in memory. -/
namespace Go.Proofs.YtlalpenfgkfkpaaGreatDoor
open Go.RowKit
set_option maxRecDepth 100000
section
variable {w w' : World} {D : Nat → Prop} {p now : Nat} {ws : List Nat} {bm bb : Nat} {Ds : Nat → Nat → Prop} {Dm Db : DataW Unit} {M : List Td} {Lss : List (List (List Nat))}
end
end Go.Proofs.YtlalpenfgkfkpaaGreatDoor

/- cascade: Where of what is there. Conditions: the cascade lies in memory. -/
namespace Go.Proofs.YtlalpenfgkfkpaaGreatDoor
open Go.RowKit
set_option maxRecDepth 100000
section
variable {w w' : World} {D : Nat → Prop} {p now : Nat} {ws : List Nat} {bm bb : Nat} {Ds : Nat → Nat → Prop} {Dm Db : DataW Unit} {M : List Td} {Lss : List (List (List Nat))}
end
end Go.Proofs.YtlalpenfgkfkpaaGreatDoor

/- cascade: its contracts on the list in order: Schedule, Get, Cancel, Reschedule, Where, Now, Len. Conditions: the cascade lies in memory. -/
namespace Go.Proofs.YtlalpenfgkfkpaaGreatDoor
open Go.RowKit
set_option maxRecDepth 100000
section
variable {w w' : World} {D : Nat → Prop} {p now : Nat} {ws : List Nat} {bm bb : Nat} {Ds : Nat → Nat → Prop} {Dm Db : DataW Unit} {M M' L : List Td} {Lss : List (List (List Nat))}
theorem TMap.perm {b : Nat} {A : DataW Unit} (h : TMap w b M A) (hp : M.Perm M') : TMap w b M' A :=
  ⟨by rw [← hp.length_eq]; exact h.own, fun x hx => h.at_ x (hp.mem_iff.2 hx), fun s hs => by obtain ⟨x, hx, e⟩ := h.has s hs; exact ⟨x, hp.mem_iff.1 hx, e⟩, by rw [← hp.length_eq]; exact h.size⟩
theorem BMap.perm {b : Nat} {A : DataW Unit} (h : BMap w b M A) (hp : M.Perm M') : BMap w b M' A :=
  ⟨by rw [← hp.length_eq]; exact h.own, fun s => by rw [h.has]; exact ⟨fun ⟨x, hx, e⟩ => ⟨x, hp.mem_iff.1 hx, e⟩, fun ⟨x, hx, e⟩ => ⟨x, hp.mem_iff.2 hx, e⟩⟩, by rw [← hp.length_eq]; exact h.size⟩
theorem CasMem.perm (h : CasMem w D p now ws bm bb Ds Dm Db M Lss) (hp : M.Perm M') : CasMem w D p now ws bm bb Ds Dm Db M' Lss :=
  ⟨h.box, h.what.perm hp, h.births.perm hp, h.len, h.lev, h.apart, h.own, h.ne, h.dd⟩
/-- A cascade that holds L, in order, at a time: block p, its own blocks D. -/
def CasAt (w : World) (D : Nat → Prop) (p now : Nat) (L : List Td) : Prop :=
  ∃ ws bm bb Ds Dm Db Lss, CasMem w D p now ws bm bb Ds Dm Db L Lss ∧ PInv now L (fun _ => False) Lss ∧ L.Pairwise bef
theorem CasAt.frame {S : Nat → Prop} (h : CasAt w D p now L) (hm : Mod S w w') (hd : ∀ k, D k → ¬ S k) : CasAt w' D p now L := by
  obtain ⟨ws, bm, bb, Ds, Dm, Db, Lss, h1, h2⟩ := h
  exact ⟨ws, bm, bb, Ds, Dm, Db, Lss, h1.frame hm hd, h2⟩
theorem CasAt.pure (h : CasAt w D p now L) (hm : Pure w w') : CasAt w' D p now L := h.frame hm (fun _ _ h => h)
theorem CasAt.lt (h : CasAt w D p now L) {k : Nat} (hk : D k) : k < w.heap.size := by
  obtain ⟨ws, bm, bb, Ds, Dm, Db, Lss, h1, h2⟩ := h
  exact h1.lt hk
theorem CasAt.self (h : CasAt w D p now L) : D p := by
  obtain ⟨ws, bm, bb, Ds, Dm, Db, Lss, h1, h2⟩ := h
  exact (h1.dd p).2 (.inl rfl)
theorem CasAt.now64 (h : CasAt w D p now L) : now < 18446744073709551616 := by
  obtain ⟨ws, bm, bb, Ds, Dm, Db, Lss, h1, h2⟩ := h
  exact h1.box.now
theorem CasAt.rng (h : CasAt w D p now L) : ∀ x ∈ L, x.slot < 4194304 ∧ now < x.dl ∧ x.dl < 18446744073709551615 ∧ 0 < x.birth ∧ x.birth ≤ 18446744073709551615 := by
  obtain ⟨ws, bm, bb, Ds, Dm, Db, Lss, h1, h2, h3⟩ := h
  intro x hx
  obtain ⟨a, b, c⟩ := h2.rng x hx
  exact ⟨a, h2.after x hx (fun c => c), b, c⟩
theorem CasAt.uniq (h : CasAt w D p now L) : (∀ x ∈ L, ∀ y ∈ L, x.slot = y.slot → x = y) ∧ (∀ x ∈ L, ∀ y ∈ L, x.birth = y.birth → x = y) ∧ L.Pairwise bef := by
  obtain ⟨ws, bm, bb, Ds, Dm, Db, Lss, h1, h2, h3⟩ := h
  exact ⟨h2.slots, h2.births, h3⟩
def schR (now : Nat) (L : List Td) (x : Td) : Int := if schE now x = 0 then (if hasB L x.slot || bornB L x.birth then 11 else 0) else schE now x
def schL (now : Nat) (L : List Td) (x : Td) : List Td := if schR now L x = 0 then putL L x else L
theorem atE_zero {s dl : Nat} (h : atE now s dl = 0) (hd : dl ≤ 18446744073709551615) : s < 4194304 ∧ now < dl ∧ dl < 18446744073709551615 := by
  unfold atE at h
  split at h
  · split at h
    · cases h
    · split at h
      · cases h
      · refine ⟨by assumption, by omega, by omega⟩
  · cases h
theorem schE_zero {x : Td} (h : schE now x = 0) (hd : x.dl ≤ 18446744073709551615) : x.slot < 4194304 ∧ x.birth ≠ 0 ∧ now < x.dl ∧ x.dl < 18446744073709551615 := by
  unfold schE at h
  split at h
  · split at h
    · cases h
    · obtain ⟨_, a, b⟩ := atE_zero h hd
      exact ⟨by assumption, by assumption, a, b⟩
  · cases h
theorem CasAt.sched (h : CasAt w D p now L) {x : Td} (h32 : x.slot ≤ 4294967295) (hd : x.dl ≤ 18446744073709551615) (hb : x.birth ≤ 18446744073709551615) (hl : L.length < maxLen) :
    Calls Tryz.prog 48 #[lkP p, tdV x] w fun e w' => e = .returned (.int .i64 (schR now L x)) ∧ (∃ D', CasAt w' D' p now (schL now L x) ∧ grewD D D' w) ∧ Mod D w w' := by
  have h' := h
  obtain ⟨ws, bm, bb, Ds, Dm, Db, Lss, h1, h2, h3⟩ := h
  unfold schL
  by_cases e0 : schE now x = 0
  · obtain ⟨a1, a2, a3, a4⟩ := schE_zero e0 hd
    by_cases c : (hasB L x.slot || bornB L x.birth) = true
    · have er : schR now L x = 11 := by unfold schR; rw [if_pos e0, if_pos c]
      rw [er, if_neg (by decide)]
      rw [Bool.or_eq_true, hasB_iff, bornB_iff] at c
      refine (csched_busy h1 a1 a4 hb a2 a3 c).mono ?_
      rintro e w' ⟨rfl, hp⟩
      exact ⟨rfl, ⟨D, h'.pure hp, grewD.refl _ _⟩, Mod.of_pure hp⟩
    · have er : schR now L x = 0 := by unfold schR; rw [if_pos e0, if_neg c]
      rw [er, if_pos rfl]
      rw [Bool.or_eq_true, hasB_iff, bornB_iff, not_or] at c
      have c1 : ∀ y ∈ L, y.slot ≠ x.slot := fun y hy e => c.1 ⟨y, hy, e⟩
      have c2 : ∀ y ∈ L, y.birth ≠ x.birth := fun y hy e => c.2 ⟨y, hy, e⟩
      obtain ⟨Ls, B, hL, hK⟩ := h2.get (lvl_spec h1.box.now (dl := x.dl) (by omega)).1 (bkt_lt (now := now) (dl := x.dl))
      refine (csched_ok h1 a1 a4 hb a2 a3 hl hL hK (h2.notL (fun y hy e => absurd e (c1 y hy)) hL) c1 c2).mono ?_
      rintro e w' ⟨rfl, ⟨D', Ds', Dm', Db', hC, hg⟩, hm⟩
      exact ⟨rfl, ⟨D', ⟨_, _, _, _, _, _, _, hC.perm putL_perm.symm, h2.sched a3 ⟨a1, a4, by omega, hb⟩ c1 c2 hL hK, putL_sorted h3 c2⟩, hg⟩, hm⟩
  · have er : schR now L x = schE now x := by unfold schR; rw [if_neg e0]
    rw [er, if_neg e0]
    refine (csched_er h1 h32 hd hb e0).mono ?_
    rintro e w' ⟨rfl, hp⟩
    exact ⟨rfl, ⟨D, h'.pure hp, grewD.refl _ _⟩, Mod.of_pure hp⟩
theorem CasAt.get (h : CasAt w D p now L) {s : Nat} (h32 : s ≤ 4294967295) :
    Calls Tryz.prog 66 #[lkP p, .int .u32 s] w fun e w' => e = .returned (.tuple #[tdV (getT L s).1, .int .i64 (getT L s).2]) ∧ Pure w w' := by
  obtain ⟨ws, bm, bb, Ds, Dm, Db, Lss, h1, h2, h3⟩ := h
  exact cget_ok h1 h32
/-- What Get, Cancel say: by whether it is there. -/
theorem getT_cases (L : List Td) (s : Nat) : (s < 4194304 ∧ hasB L s = true ∧ ∃ x, getT L s = (x, 0) ∧ x.slot = s ∧ L[findI L s]? = some x ∧ L.find? (fun y => y.slot == s) = some x ∧ L.Perm (x :: outI L s)) ∨ ((¬ s < 4194304 ∨ hasB L s = false) ∧ ∃ er, getT L s = (zTd, er) ∧ er ≠ 0) := by
  by_cases hs : s < 4194304
  · cases hh : hasB L s with
    | true =>
      obtain ⟨x, h1, h2, h3, h4⟩ := findI_get (findI_lt.2 hh)
      exact .inl ⟨hs, rfl, x, getT_hit hs h3, h2, h1, h3, h4⟩
    | false => exact .inr ⟨.inr rfl, 9, getT_miss hs (find_none hh), by decide⟩
  · exact .inr ⟨.inl hs, 2, getT_arg hs, by decide⟩
/-- What is left behind Cancel. -/
def canL (L : List Td) (s : Nat) : List Td := if (getT L s).2 = 0 then outI L s else L
theorem CasAt.cancel (h : CasAt w D p now L) {s : Nat} (h32 : s ≤ 4294967295) :
    Calls Tryz.prog 47 #[lkP p, .int .u32 s] w fun e w' => e = .returned (.tuple #[tdV (getT L s).1, .int .i64 (getT L s).2]) ∧ (∃ D', CasAt w' D' p now (canL L s) ∧ grewD D D' w) ∧ Mod D w w' := by
  have h' := h
  obtain ⟨ws, bm, bb, Ds, Dm, Db, Lss, h1, h2, h3⟩ := h
  unfold canL
  rcases getT_cases L s with ⟨hs, _, x, e1, rfl, _, e3, e4⟩ | ⟨_, er, e1, e2⟩
  · rw [e1]
    obtain ⟨hx, w1, w2, w3, w4⟩ := h2.without e4
    obtain ⟨a1, a2, a3, a4⟩ := h2.rng x hx
    have a5 := h2.after x hx (fun c => c)
    obtain ⟨Ls, B, hL, hK⟩ := h2.get (lvl_spec h1.box.now (dl := x.dl) (by omega)).1 (bkt_lt (now := now) (dl := x.dl))
    have hf : x.slot ∈ B := by
      obtain ⟨A, C, b1, b2, b3⟩ := (h2.at_ (lvl now x.dl) (bkt now x.dl) x.slot).2 ⟨(fun c => c), x, hx, rfl, rfl, rfl⟩
      rw [hL] at b1; cases b1
      rw [hK] at b2; cases b2
      exact b3
    refine (ccancel_ok h1 e3 a1 (by omega) a4 (by omega) hL hK hf w1 w2 w4).mono ?_
    rintro e w' ⟨rfl, ⟨D', Ds', Dm', Db', hC, hg⟩, hm⟩
    exact ⟨rfl, ⟨D', ⟨_, _, _, _, _, _, _, hC, h2.cut hx w1 w3 hL hK, outI_sorted h3⟩, hg⟩, hm⟩
  · rw [e1]
    dsimp only
    rw [if_neg e2]
    refine (ccancel_no h1 h32 e1 e2).mono ?_
    rintro e w' ⟨rfl, hp⟩
    exact ⟨rfl, ⟨D, h'.pure hp, grewD.refl _ _⟩, Mod.of_pure hp⟩
def resR (now : Nat) (L : List Td) (s dl : Nat) : Int := if atE now s dl = 0 then (getT L s).2 else atE now s dl
def resL (now : Nat) (L : List Td) (s dl : Nat) : List Td := if resR now L s dl = 0 then putL (outI L s) ⟨s, dl, (getT L s).1.birth⟩ else L
/-- What Where says. -/
def whE (now : Nat) (L : List Td) (s : Nat) : Value := if (getT L s).2 = 0 then .tuple #[.int .i64 (lvl now (getT L s).1.dl : Nat), .int .i64 (bkt now (getT L s).1.dl : Nat), .int .i64 0] else .tuple #[.int .i64 0, .int .i64 0, .int .i64 (getT L s).2]
theorem CasAt.now_ (h : CasAt w D p now L) : Calls Tryz.prog 31 #[lkP p] w fun e w' => e = .returned (.int .u64 now) ∧ w = w' := by
  obtain ⟨ws, bm, bb, Ds, Dm, Db, Lss, h1, h2, h3⟩ := h
  exact cnow_ok h1
theorem CasAt.len_ (h : CasAt w D p now L) : Calls Tryz.prog 54 #[lkP p] w fun e w' => e = .returned (.int .i64 L.length) ∧ w = w' := by
  obtain ⟨ws, bm, bb, Ds, Dm, Db, Lss, h1, h2, h3⟩ := h
  exact clen_ok h1
end
end Go.Proofs.YtlalpenfgkfkpaaGreatDoor

/- The law for a range over a function (XRange), at a loop within a round of another one. -/
namespace Go.Proofs.YtlalpenfgkfkpaaGreatDoor
open Go.RowKit Go.Shelf
variable {P : Program}

/-- THE LAW, at a loop within a round of loop l0. -/
theorem wp_range_in {α : Type} {l0 : Nat} {r0 : Loop} {g : Operand} {ps : Array Tmp} {assign body : Code} {Q : Exit → Act → World → Prop} {a : Act} {w : World}
    (hl0 : w.heap[l0]? = some (.loop r0)) {gf : Nat} {lb : Array Value} (hg : a.eval g = .func (.func gf) #[] lb) (eg : ∀ args w, (callFunc gf args).run P w = .ok (.enter gf args) w)
    {encs : α → Array Value} {It : Nat → Prop} {G : List α → α → World → Prop} {S : List α → Prop} (hit : IterOk P gf lb encs It G S w) (hItlt : ∀ k, It k → k < w.heap.size)
    (hps : ∀ x, (encs x).size = ps.size)
    (I : List α → World → Prop) (Ix : Code → List α → World → Prop) (hI : ∀ pre A B, I pre A → Quiet w.heap.size A B → I pre B) (hIx : ∀ c pre A B, Ix c pre A → Quiet w.heap.size A B → Ix c pre B) (h0 : I [] w)
    (Ax : List α → α → Act → World → Prop) (hAx : ∀ pre x a' A B, Ax pre x a' A → Quiet w.heap.size A B → Ax pre x a' B)
    (hassign : ∀ (l : Nat) (pre : List α) (x : α) (W : World) (K : Act → World → Prop), I pre W → G pre x W → (∀ a' W', Pure W W' → Ax pre x a' W' → K a' W') →
      assign.wpIn (Fence.wide.inRound l) 0 P (Exit.then K (fun _ _ _ => False)) { tmps := (ps.zip (encs x)).foldl (fun t (p, v) => t.setIfInBounds p v) a.tmps, defers := [] } W)
    (hbody : ∀ (l : Nat) (pre : List α) (x : α) (a' : Act) (W : World), w.heap.size ≤ l → (∃ r, W.heap[l]? = some (.loop r)) → Ax pre x a' W →
      body.wpIn (Fence.wide.inRound l) 0 P (roundEnd w.heap.size It I Ix (pre ++ [x]) W) a' W)
    (hdone : ∀ (xs : List α) (W : World), S xs → I xs W → Q .normal a W)
    (hstop : ∀ (c : Code) (pre : List α) (W : World), Ix c pre W → c.wpIn (Fence.wide.inRound l0) 0 P Q a W) :
    (Code.rangeFunc g ps assign body).wpIn (Fence.wide.inRound l0) 0 P Q a w := by
  refine wpIn_rangeFunc ?_
  intro fn hfn
  obtain ⟨rec, hrec⟩ : ∃ rec : LoopState → Option Code → Loop, rec = fun st pe => { state := st, pending := pe, fn, tmps := a.tmps, params := ps, assign, body, defers := r0.defers } := ⟨_, rfl⟩
  obtain ⟨W1, hW1⟩ : ∃ W1, w.alloc (.loop (rec .ready none)) = W1 := ⟨_, rfl⟩
  have hL1 : W1.heap[w.heap.size]? = some (.loop (rec .ready none)) := by rw [← hW1]; exact heap_new rfl
  have hP1 : Pure w W1 := by rw [← hW1]; exact (Mod.refl _ w).alloc _
  have hI1 : I [] W1 := hI _ _ _ h0 (Quiet.of_pure hP1)
  refine ⟨w.heap.size, [], W1, { target := .fn (.func gf) lb, args := #[.func (.yield (w.heap.size)) #[] #[]] }, W1, gf,
    #[.func (.yield (w.heap.size)) #[] #[]] ++ lb, W1, ?_, ?_, fun _ _ => trivial, ?_, (fun h => by cases h), ?_⟩
  · rw [← hW1, hrec]; exact run_enterLoop_inner hl0 _ _ _ _ _
  · simp only [resolve, hg]
    simp [go_sem]
  · simp [invoke, go_sem, eg]
  · refine (hit (w.heap.size)
      (fun pre W => I pre W ∧ W.heap[w.heap.size]? = some (.loop (rec .ready none)) ∧ w.heap.size ≤ W.heap.size)
      (fun pre W => ∃ c, Ix c pre W ∧ W.heap[w.heap.size]? = some (.loop (rec .done (some c))))
      W1 hP1
      (fun pre A B hs hp => ⟨hI _ _ _ hs.1 (Quiet.of_pure hp), hp.heap (fun h => h) hs.2.1, Nat.le_trans hs.2.2 hp.size⟩)
      (fun pre A B hs hp => by
        obtain ⟨c, hc, hl⟩ := hs
        exact ⟨c, hIx _ _ _ _ hc (Quiet.of_pure hp), hp.heap (fun h => h) hl⟩)
      ?_ ⟨hI1, hL1, hP1.size⟩).mono ?_
    · rintro pre x W ⟨hi, hl, hsz⟩ hGx
      have hlt : w.heap.size < W.heap.size := (Array.getElem?_eq_some_iff.1 hl).1
      have hy := run_yield (P := P) (args := encs x) hl (by rw [hrec]; exact hps x)
      rw [hrec] at hy
      refine ⟨fn, _, assign, body, hy, roundIn_of_wpIn hfn (hassign _ pre x W _ hi hGx ?_)⟩
      clear hy
      intro a' Wa hpa hax
      have hla : Wa.heap[w.heap.size]? = _ := hpa.heap (fun h => h) hl
      have hlta : w.heap.size < Wa.heap.size := (Array.getElem?_eq_some_iff.1 hla).1
      refine ⟨_, run_beginRound hla (by rw [hrec]), ?_⟩
      have hq2 : Quiet w.heap.size Wa (Wa.putObj (w.heap.size) (.loop { rec .ready none with state := .busy })) := Quiet.putObj _ (by omega) hla rfl
      have hl2 : (Wa.putObj (w.heap.size) (.loop { rec .ready none with state := .busy })).heap[w.heap.size]? = some (.loop { rec .ready none with state := .busy }) := World.putObj_heap_same hlta
      have ha2 := hAx _ _ _ _ _ hax hq2
      have hit2 : KeepsIt It W (Wa.putObj (w.heap.size) (.loop { rec .ready none with state := .busy })) :=
        (KeepsIt.of_pure hpa).trans ⟨by simp, fun k hk _ => World.putObj_heap_other (by have := hItlt k hk; omega)⟩
      refine wpIn_mono (hbody _ pre x a' _ (by omega) ⟨_, hl2⟩ ha2) ?_
      have fin : ∀ (jump : Option Code) (W3 : World), KeepsRec w.heap.size (Wa.putObj (w.heap.size) (.loop { rec .ready none with state := .busy })) W3 →
          (Instr.endRound (w.heap.size) jump).run P W3 = .ok (.bool jump.isNone) (W3.putObj (w.heap.size) (.loop (rec (if jump.isNone then .ready else .done) jump))) ∧
          W3.heap[w.heap.size]? = some (.loop { rec .ready none with state := .busy }) ∧
          (W3.putObj (w.heap.size) (.loop (rec (if jump.isNone then .ready else .done) jump))).heap[w.heap.size]? = some (.loop (rec (if jump.isNone then .ready else .done) jump)) := fun jump W3 hk3 => by
        have hl3 := hk3 _ _ (by omega) hl2 rfl
        have := run_endRound (P := P) jump hl3
        rw [hrec] at this ⊢
        exact ⟨this, by rw [hrec] at hl3; exact hl3, World.putObj_heap_same (Array.getElem?_eq_some_iff.1 hl3).1⟩
      rintro e a3 W3 hp
      cases e with
      | normal =>
        obtain ⟨hk3, hkp3, hi3⟩ := hp
        obtain ⟨hr, hl3, hl4⟩ := fin none W3 hk3
        have hlt3 : w.heap.size < W3.heap.size := (Array.getElem?_eq_some_iff.1 hl3).1
        exact ⟨_, _, hr, .inl ⟨rfl, ⟨hI _ _ _ hi3 (Quiet.putObj _ (by omega) hl3 rfl), hl4, by simp; omega⟩,
          (hit2.trans hkp3).trans ⟨by simp, fun k hk _ => World.putObj_heap_other (by have := hItlt k hk; omega)⟩⟩⟩
      | ret =>
        obtain ⟨hk3, hi3⟩ := hp
        obtain ⟨hr, hl3, hl4⟩ := fin (some .ret) W3 hk3
        exact ⟨_, _, hr, .inr ⟨rfl, .ret, hIx _ _ _ _ hi3 (Quiet.putObj _ (by omega) hl3 rfl), hl4⟩⟩
      | exit id =>
        obtain ⟨hk3, hi3⟩ := hp
        obtain ⟨hr, hl3, hl4⟩ := fin (some (.exit id)) W3 hk3
        exact ⟨_, _, hr, .inr ⟨rfl, .exit id, hIx _ _ _ _ hi3 (Quiet.putObj _ (by omega) hl3 rfl), hl4⟩⟩
      | goto t =>
        obtain ⟨hk3, hi3⟩ := hp
        obtain ⟨hr, hl3, hl4⟩ := fin (some (.goto t)) W3 hk3
        exact ⟨_, _, hr, .inr ⟨rfl, .goto t, hIx _ _ _ _ hi3 (Quiet.putObj _ (by omega) hl3 rfl), hl4⟩⟩
      | panic ch => exact hp.elim
      | outgrown => exact hp.elim
    · rintro e W2 ⟨⟨v, rfl⟩, (⟨xs, hS, hi, hl, _⟩ | ⟨pre, c, hi, hl⟩)⟩
      · exact ⟨none, _, by have := run_endLoop (P := P) hl (by rw [hrec]; simp); rw [hrec] at this; exact this, hdone xs _ hS (hI _ _ _ hi (Quiet.putObj _ (by omega) hl rfl))⟩
      · exact ⟨some c, _, by have := run_endLoop (P := P) hl (by rw [hrec]; simp); rw [hrec] at this; exact this, hstop c pre _ (hIx _ _ _ _ hi (Quiet.putObj _ (by omega) hl rfl))⟩


theorem wp_range_in2 {α : Type} {l0 : Nat} {r0 : Loop} {g : Operand} {ps : Array Tmp} {assign body : Code} {Q : Exit → Act → World → Prop} {a : Act} {w : World}
    (hl0 : w.heap[l0]? = some (.loop r0)) {gf : Nat} {lb : Array Value} (hg : a.eval g = .func (.func gf) #[] lb) (eg : ∀ args w, (callFunc gf args).run P w = .ok (.enter gf args) w)
    {encs : α → Array Value} {It : Nat → Prop} {G : List α → α → World → Prop} {S : List α → Prop} (hit : IterOk P gf lb encs It G S w) (hItlt : ∀ k, It k → k < w.heap.size)
    (hps : ∀ x, (encs x).size = ps.size)
    (I : List α → World → Prop) (Ix : Code → List α → World → Prop) (hI : ∀ pre A B, I pre A → Quiet w.heap.size A B → I pre B) (hIx : ∀ c pre A B, Ix c pre A → Quiet w.heap.size A B → Ix c pre B) (h0 : I [] w)
    (hround : ∀ (l : Nat) (pre : List α) (x : α) (W : World) (K : Act → World → Prop), I pre W → G pre x W →
      (∀ a' W', Pure W W' → (∀ (l' : Nat) (W2 : World), w.heap.size ≤ l' → (∃ r, W2.heap[l']? = some (.loop r)) → Quiet w.heap.size W' W2 → body.wpIn (Fence.wide.inRound l') 0 P (roundEnd w.heap.size It I Ix (pre ++ [x]) W2) a' W2) → K a' W') →
      assign.wpIn (Fence.wide.inRound l) 0 P (Exit.then K (fun _ _ _ => False)) { tmps := (ps.zip (encs x)).foldl (fun t (p, v) => t.setIfInBounds p v) a.tmps, defers := [] } W)
    (hdone : ∀ (xs : List α) (W : World), S xs → I xs W → Q .normal a W)
    (hstop : ∀ (c : Code) (pre : List α) (W : World), Ix c pre W → c.wpIn (Fence.wide.inRound l0) 0 P Q a W) :
    (Code.rangeFunc g ps assign body).wpIn (Fence.wide.inRound l0) 0 P Q a w :=
  wp_range_in hl0 hg eg hit hItlt hps I Ix hI hIx h0
    (fun pre x a' W' => ∀ (l' : Nat) (W2 : World), w.heap.size ≤ l' → (∃ r, W2.heap[l']? = some (.loop r)) → Quiet w.heap.size W' W2 → body.wpIn (Fence.wide.inRound l') 0 P (roundEnd w.heap.size It I Ix (pre ++ [x]) W2) a' W2)
    (fun _ _ _ _ _ h hq l' W2 hl hr hq2 => h l' W2 hl hr (hq.trans hq2)) hround (fun l _ _ _ W hl hr h => h l W hl hr (Quiet.refl _ _)) hdone hstop
end Go.Proofs.YtlalpenfgkfkpaaGreatDoor

/- A region that draws, within a round: its orders as outside one (but for 'defer'), so that what yields in whatever world can be taken first. -/
namespace Go.Proofs.YtlalpenfgkfkpaaGreatDoor
open Go.RowKit Go.Shelf
variable {P : Program}

theorem wpOpIn_inRound {l n : Nat} {ops : Array Oper} {Q : Exit → Act → World → Prop} (hd : ∀ (j : Nat) (o : Oper) c, ops[j]? = some o → o.op ≠ .defer c) {i : Nat} {K : Act → World → Prop} {a : Act} {w : World} (h : wpOpIn Fence.wide n P ops Q i K a w) : wpOpIn (Fence.wide.inRound l) n P ops Q i K a w := by
  unfold wpOpIn at *
  cases ho : ops[i]? with
  | none => rw [ho] at h; exact h
  | some o =>
    rw [ho] at h
    dsimp only at h ⊢
    split
    · rename_i hw
      rw [if_pos hw] at h
      unfold Oper.wpIn at *
      refine ⟨h.1, ?_⟩
      have h2 := h.2
      have e : Oper.semAt (Fence.wide.inRound l).round a.eval o = Oper.semAt Fence.wide.round a.eval o := by
        show Oper.semAt (some l) a.eval o = Oper.semAt none a.eval o
        rw [Oper.semAt_some l _ _ (fun c => hd i o c ho), Oper.semAt_none]
      rw [e]
      exact h2
    · rename_i hw
      rw [if_neg hw] at h
      exact h
theorem wpAnyIn_inRound {l n : Nat} {md : Region.Mode} {ops : Array Oper} {Q : Exit → Act → World → Prop} (hd : ∀ (j : Nat) (o : Oper) c, ops[j]? = some o → o.op ≠ .defer c) : ∀ (fuel : Nat) (listed : Array Bool) (a : Act) (w : World),
    wpAnyIn Fence.wide n P md ops Q fuel listed a w → wpAnyIn (Fence.wide.inRound l) n P md ops Q fuel listed a w
  | 0, _, _, _, h => h
  | fuel + 1, listed, _, _, h => ⟨h.1, fun i hi => wpOpIn_inRound hd (wpOpIn_mono (fun _ _ hk => wpAnyIn_inRound hd fuel _ _ _ hk) (h.2 i hi))⟩
def noDefer (ops : Array Oper) : Bool := ops.all (fun o => match o.op with | .defer _ => false | _ => true)
theorem noDefer_spec {ops : Array Oper} (h : noDefer ops = true) (j : Nat) (o : Oper) (ho : ops[j]? = some o) : ∀ c, o.op ≠ .defer c := by
  intro c e
  obtain ⟨hj, rfl⟩ := Array.getElem?_eq_some_iff.1 ho
  have := (Array.all_eq_true.1 h) j hj
  rw [e] at this
  cases this
/-- A region that draws, within a round: all its orders, at the fence that is wide. -/
theorem region_in {l id : Nat} {ops : Array Oper} {Q : Exit → Act → World → Prop} {a : Act} {w : World} (hm : P.follows .mixedOrders = true) (hd : noDefer ops = true)
    (h : wpAnyIn Fence.wide 0 P .any ops Q ops.size (Array.replicate ops.size false) a w.drew) : (Code.region id ops true).wpIn (Fence.wide.inRound l) 0 P Q a w :=
  wpIn_region_any hm (wpAnyIn_inRound (fun j o c ho => noDefer_spec hd j o ho c) _ _ _ _ h)
end Go.Proofs.YtlalpenfgkfkpaaGreatDoor
