/- Lemmas and contracts of functions, strung together out of 9 texts. No condition. -/
import Derived.Test.YtlalpenfgkfkpaaDoorJPfCascadePlays7
import Derived.Test.YtlalpenfgkfkpaaDoorJPfCascadePlays6
/- cascade: Schedule of what is scheduled already. Conditions: the cascade lies in memory. -/
namespace Go.Proofs.YtlalpenfgkfkpaaDoor
open Go.RowKit
set_option maxRecDepth 100000
section
variable {w w' : World} {D : Nat → Prop} {p now : Nat} {ws : List Nat} {bm bb : Nat} {Ds : Nat → Nat → Prop} {Dm Db : DataW Unit} {M : List Td} {Lss : List (List (List Nat))}
set_option maxHeartbeats 2000000 in
theorem csched_busy (h : CasMem w D p now ws bm bb Ds Dm Db M Lss) {x : Td} (hs : x.slot < 4194304) (hd : x.dl < 18446744073709551615) (hb : x.birth ≤ 18446744073709551615) (hb0 : x.birth ≠ 0) (hn : now < x.dl) (h1 : (∃ y ∈ M, y.slot = x.slot) ∨ ∃ y ∈ M, y.birth = x.birth) :
    Calls Tryd.prog 13 #[lkP p, tdV x] w fun e w' => e = .returned (.int .i64 11) ∧ Pure w w' := by
  have hal : Pure w (w.alloc (.cells #[.int .u32 x.slot, .int .u64 x.dl, .int .u64 x.birth] 31)) := (Mod.refl _ w).alloc _
  have h3 := heap_new (w := w) (o := .cells #[.int .u32 x.slot, .int .u64 x.dl, .int .u64 x.birth] 31 (0, 0)) rfl
  have HC := Lib.hid (h.pure hal)
  have HCk := Lib.hid (ccheck_ok (h.pure hal).box hs)
  have hat := cat_any (h.pure hal).box (s := x.slot) (dl := x.dl) (by omega) (by omega)
  unfold atE at hat
  rw [if_pos hs, if_neg (by omega), if_neg (by omega)] at hat
  have HAt := Lib.hid hat
  obtain ⟨z, b1, b2, hlk, hlb, hbz⟩ : ∃ (z : Td) (b1 b2 : Bool), (∀ W, Pure (w.alloc (.cells #[.int .u32 x.slot, .int .u64 x.dl, .int .u64 x.birth] 31)) W → (Instr.lookup 54 (.map (some bm)) (.int .u32 x.slot) true).run Tryd.prog W = .ok (.tuple #[tdV z, .bool b1]) W) ∧ (∀ W, Pure (w.alloc (.cells #[.int .u32 x.slot, .int .u64 x.dl, .int .u64 x.birth] 31)) W → (Instr.lookup 55 (.map (some bb)) (.int .u64 x.birth) true).run Tryd.prog W = .ok (.tuple #[.agg #[], .bool b2]) W) ∧ (b1 = true ∨ b1 = false ∧ b2 = true) := by
    have hlb := fun (W : World) (hW : Pure (w.alloc (.cells #[.int .u32 x.slot, .int .u64 x.dl, .int .u64 x.birth] 31)) W) => ((h.pure hal).pure hW).births.look (s := x.birth) hb
    by_cases hy : ∃ y ∈ M, y.slot = x.slot
    · obtain ⟨y, hy, e⟩ := hy
      refine ⟨y, true, _, fun W hW => ?_, hlb, .inl rfl⟩
      have := ((h.pure hal).pure hW).what.look hy (by omega)
      rw [e] at this
      exact this
    · refine ⟨⟨0, 0, 0⟩, false, _, fun W hW => ((h.pure hal).pure hW).what.look_no (s := x.slot) (by omega) (fun y hm e => hy ⟨y, hm, e⟩), hlb, .inr ⟨rfl, ?_⟩⟩
      rcases h1 with h1 | ⟨y, hm, e⟩
      · exact absurd h1 hy
      · exact (h.births.has _).2 ⟨y, hm, e⟩
  have HLK := Lib.hid hlk; have HLB := Lib.hid hlb; have HAL := Lib.hid hal
  have e0 : ((x.birth : Int) == 0) = false := by simp; omega
  clear h hal hat hlk hlb h1 hb0
  unfold tdV at HLK ⊢
  go_enter Tryd.func13, Tryd.ntmps13
  go_upto_region 1 with fail
  generalize w.alloc (.cells #[.int .u32 x.slot, .int .u64 x.dl, .int .u64 x.birth] 31) = W1 at *
  obtain ⟨b3, hb3⟩ : ∃ b3, w.heap.size = b3 := ⟨_, rfl⟩
  rw [hb3] at h3 ⊢
  have H3 := Lib.hid h3
  clear hb3
  have h3_0 := cell_of_row _ _ 0 _ _ _ h3; have h3_1 := cell_of_row _ _ 1 _ _ _ h3; have h3_2 := cell_of_row _ _ 2 _ _ _ h3; have h3_f := (fun j => frozen_of_row _ _ j _ _ h3); have h3_l := lt_of_block h3; simp at h3_0 h3_1 h3_2; have H_h3 := Lib.hid h3; clear h3
  obtain ⟨c0, c9, c10, _, _⟩ := HC.out.box.cells
  go_upto_region 9 with (first
    | (go_at_call 46; refine Calls.mono HCk.out ?_; rintro e w' ⟨rfl, rfl⟩)
    | (go_at_call 47; refine Calls.mono HAt.out ?_; rintro e w' ⟨rfl, rfl⟩))
  have hk1 := HLK.out W1 (Mod.refl _ _)
  have hk2 := HLK.out W1.drew (Mod.refl _ _).drew
  have hk3 := HLK.out (W1.alloc (.cells #[.int .u32 0, .int .u64 0, .int .u64 0] 31)) ((Mod.refl _ _).alloc _)
  have hk4 := HLK.out (W1.alloc (.cells #[.int .u32 0, .int .u64 0, .int .u64 0] 31)).drew ((Mod.refl _ _).alloc _).drew
  go_cut [8] (fun v wx => v = .bool b1 ∧ Pure W1 wx)
  case first =>
    go_region
    all_goals
      (try go_wp2)
      go_meet
      first
        | exact ⟨rfl, (Mod.refl _ _).alloc _⟩
        | exact ⟨rfl, ((Mod.refl _ _).alloc _).drew⟩
  case rest =>
    obtain ⟨rfl, hpx⟩ := hcut
    have h3x := hpx.heap (fun h => h) H3.out
    have HCx := Lib.hid (HC.out.pure hpx)
    have HPX := Lib.hid hpx
    have H3x := Lib.hid h3x
    clear h3_0 h3_1 h3_2 h3_f h3_l
    clear H_h3 c0 c9 c10 hk1 hk2 hk3 hk4
    have h3x_0 := cell_of_row _ _ 0 _ _ _ h3x; have h3x_1 := cell_of_row _ _ 1 _ _ _ h3x; have h3x_2 := cell_of_row _ _ 2 _ _ _ h3x; have h3x_f := (fun j => frozen_of_row _ _ j _ _ h3x); have h3x_l := lt_of_block h3x; simp at h3x_0 h3x_1 h3x_2; have H_h3x := Lib.hid h3x; clear h3x
    obtain ⟨c0, c9, c10, _, _⟩ := HCx.out.box.cells
    have hk1 := HLB.out wc hpx
    have hk2 := HLB.out wc.drew hpx.drew
    have hk3 := HLB.out (wc.alloc (.cells #[] 96)) (hpx.alloc _)
    have hk4 := HLB.out (wc.alloc (.cells #[] 96)).drew (hpx.alloc _).drew
    go_upto_region 10 with fail
    go_cut [10] (fun v wx => v = .bool b2 ∧ Pure W1 wx)
    case first =>
      go_region
      all_goals
        (try go_wp2)
        try go_meet
        first
          | exact ⟨rfl, hpx⟩
          | exact ⟨rfl, hpx.drew⟩
          | exact ⟨rfl, hpx.alloc _⟩
          | exact ⟨rfl, (hpx.alloc _).drew⟩
    case rest =>
      obtain ⟨rfl, hpy⟩ := hcut
      have h3y := hpy.heap (fun h => h) H3.out
      have HCy := Lib.hid (HC.out.pure hpy)
      have HPY := Lib.hid hpy
      have H3y := Lib.hid h3y
      clear h3x_0 h3x_1 h3x_2 h3x_f h3x_l
      clear H_h3x c0 c9 c10 hk1 hk2 hk3 hk4 HCx
      have h3y_0 := cell_of_row _ _ 0 _ _ _ h3y; have h3y_1 := cell_of_row _ _ 1 _ _ _ h3y; have h3y_2 := cell_of_row _ _ 2 _ _ _ h3y; have h3y_f := (fun j => frozen_of_row _ _ j _ _ h3y); have h3y_l := lt_of_block h3y; simp at h3y_0 h3y_1 h3y_2; have H_h3y := Lib.hid h3y; clear h3y
      obtain ⟨c0, c9, c10, _, _⟩ := HCy.out.box.cells
      have hpp := HAL.out.trans HPY.out
      rcases hbz with rfl | ⟨rfl, rfl⟩
      all_goals
        go_wp2
        exact bodyPost_ret (v := .int .i64 11) (by simp [results, Tryd.results13, go_sem]) rfl ⟨rfl, by first | exact hpp | exact hpp.drew⟩
end
end Go.Proofs.YtlalpenfgkfkpaaDoor

/- cascade: Reschedule's errors. Conditions: the cascade lies in memory. -/
namespace Go.Proofs.YtlalpenfgkfkpaaDoor
open Go.RowKit
set_option maxRecDepth 100000
section
variable {w w' : World} {D : Nat → Prop} {p now : Nat} {ws : List Nat} {bm bb : Nat} {Ds : Nat → Nat → Prop} {Dm Db : DataW Unit} {M : List Td} {Lss : List (List (List Nat))}
set_option maxHeartbeats 2000000 in
theorem cresched_er (h : CasMem w D p now ws bm bb Ds Dm Db M Lss) {s dl : Nat} (h32 : s ≤ 4294967295) (hd : dl ≤ 18446744073709551615) (he : atE now s dl ≠ 0) :
    Calls Tryd.prog 25 #[lkP p, .int .u32 s, .int .u64 dl] w fun e w' => e = .returned (.int .i64 (atE now s dl)) ∧ Pure w w' := by
  have HAt := Lib.hid (fun (W : World) (hW : Pure w W) => cat_any (h.pure hW).box (s := s) (dl := dl) h32 hd)
  obtain ⟨E, hE⟩ : ∃ E, atE now s dl = E := ⟨_, rfl⟩
  rw [hE] at he HAt ⊢
  have e1 : (E == 0) = false := by simpa using he
  clear h hE
  go_enter Tryd.func25, Tryd.ntmps25
  go_wp2_with (go_at_call 47; refine Calls.mono (HAt.out _ (by (repeat' (first | (with_reducible exact Mod.refl _ _) | (with_reducible refine Mod.alloc ?_ _) | (with_reducible refine Mod.drew ?_) | (with_reducible refine Mod.drewN ?_ _) | (with_reducible refine Mod.setCell ?_ ?_ _) | (refine Mod.then ?_ (by with_reducible assumption) ?_))))) ?_; rintro e w' ⟨rfl, rfl⟩)
  refine bodyPost_ret (v := .int .i64 E) (by simp [results, Tryd.results25, go_sem]) rfl ⟨rfl, ?_⟩
  first
    | exact Mod.refl _ _
    | exact (Mod.refl _ _).drew
set_option maxHeartbeats 2000000 in
theorem cresched_no (h : CasMem w D p now ws bm bb Ds Dm Db M Lss) {s dl : Nat} (h32 : s ≤ 4294967295) (hd : dl ≤ 18446744073709551615) (ha : atE now s dl = 0) {er : Int} (he : getT M s = (zTd, er)) (h0 : er ≠ 0) :
    Calls Tryd.prog 25 #[lkP p, .int .u32 s, .int .u64 dl] w fun e w' => e = .returned (.int .i64 er) ∧ Pure w w' := by
  have hat := cat_any h.box (s := s) (dl := dl) h32 hd
  rw [ha] at hat
  have HAt := Lib.hid hat
  have HCn := Lib.hid (ccancel_no h h32 he h0)
  have e1 : (er == 0) = false := by simpa using h0
  clear h hat ha he h0
  unfold tdV at HCn
  dsimp only at HCn
  go_enter Tryd.func25, Tryd.ntmps25
  go_upto_region 4 with (go_at_call 47; refine Calls.mono HAt.out ?_; rintro e w' ⟨rfl, rfl⟩)
  go_upto_region 5 with (go_at_call 24; refine Calls.mono HCn.out ?_; rintro e w2 ⟨rfl, hp2⟩)
  have HP2 := Lib.hid hp2
  clear hp2
  go_wp2
  have hpp := HP2.out
  refine bodyPost_ret (v := .int .i64 er) (by simp [results, Tryd.results25, go_sem]) rfl ⟨rfl, ?_⟩
  first
    | exact hpp
    | exact hpp.drew
    | exact hpp.alloc _
    | exact (hpp.alloc _).drew
end
end Go.Proofs.YtlalpenfgkfkpaaDoor

/- cascade: Reschedule. Conditions: the cascade lies in memory. -/
namespace Go.Proofs.YtlalpenfgkfkpaaDoor
open Go.RowKit
set_option maxRecDepth 100000
section
variable {w w' : World} {D : Nat → Prop} {p now : Nat} {ws : List Nat} {bm bb : Nat} {Ds : Nat → Nat → Prop} {Dm Db : DataW Unit} {M : List Td} {Lss : List (List (List Nat))}
set_option maxHeartbeats 2000000 in
theorem cresched_ok (h : CasMem w D p now ws bm bb Ds Dm Db M Lss) {x : Td} {M' : List Td} (hg : M.find? (fun y => y.slot == x.slot) = some x) (hs : x.slot < 4194304) (hd : x.dl < 18446744073709551616) (hb : x.birth ≤ 18446744073709551615) (hne : x.dl ≠ now) {Ls : List (List Nat)} {L : List Nat}
    (hL : Lss[lvl now x.dl]? = some Ls) (hK : Ls[bkt now x.dl]? = some L) (hf : x.slot ∈ L) (hM : ∀ y, y ∈ M' ↔ y ∈ M ∧ y.slot ≠ x.slot) (hM2 : ∀ y, y ∈ M' ↔ y ∈ M ∧ y.birth ≠ x.birth) (hl : M'.length + 1 = M.length) (hMl : M.length < maxLen)
    {dl : Nat} (hn : now < dl) (hdl : dl < 18446744073709551615) {Ls2 : List (List Nat)} {L2 : List Nat} {Lss1 : List (List (List Nat))} (hLs : Lss.set (lvl now x.dl) (Ls.set (bkt now x.dl) (L.erase x.slot)) = Lss1) (hL2 : Lss1[lvl now dl]? = some Ls2) (hK2 : Ls2[bkt now dl]? = some L2) (hf2 : ¬ inL Ls2 x.slot) :
    Calls Tryd.prog 25 #[lkP p, .int .u32 x.slot, .int .u64 dl] w fun e w' => e = .returned (.int .i64 0) ∧ (∃ D' Ds' Dm' Db', CasMem w' D' p now ws bm bb Ds' Dm' Db' (⟨x.slot, dl, x.birth⟩ :: M') (Lss1.set (lvl now dl) (Ls2.set (bkt now dl) (L2 ++ [x.slot]))) ∧ grewD D D' w) ∧ Mod D w w' := by
  have hat := cat_any h.box (s := x.slot) (dl := dl) (by omega) (by omega)
  unfold atE at hat
  rw [if_pos hs, if_neg (by omega), if_neg (by omega)] at hat
  have HAt := Lib.hid hat
  have hcn := ccancel_ok h hg hs hd hb hne hL hK hf hM hM2 hl
  rw [hLs] at hcn
  have HCn := Lib.hid hcn
  have HPu := Lib.hid (fun (W : World) (D1 : Nat → Prop) (Ds1 : Nat → Nat → Prop) (Dm1 Db1 : DataW Unit) (h : CasMem W D1 p now ws bm bb Ds1 Dm1 Db1 M' Lss1) => cput_ok h (x := ⟨x.slot, dl, x.birth⟩) (M' := ⟨x.slot, dl, x.birth⟩ :: M') hs (by show dl < _; omega) hb (by show dl ≠ _; omega) (by omega) hL2 hK2 hf2 (.inl ⟨fun y hy => ((hM y).1 hy).2, fun y hy => ((hM2 y).1 hy).2, rfl⟩))
  clear h hat hcn hg hd hb hne hL hK hf hM hM2 hl hLs hL2 hK2 hf2
  unfold tdV at HCn HPu
  dsimp only at HPu
  go_enter Tryd.func25, Tryd.ntmps25
  go_upto_region 4 with (go_at_call 47; refine Calls.mono HAt.out ?_; rintro e w' ⟨rfl, rfl⟩)
  go_upto_region 5 with (go_at_call 24; refine Calls.mono HCn.out ?_; rintro e w2 ⟨rfl, ⟨D1, Ds1, Dm1, Db1, hC1, hg1⟩, hm1⟩)
  have h8 := heap_new (w := w2) (o := .cells #[.int .u32 x.slot, .int .u64 x.dl, .int .u64 x.birth] 31 (0, 0)) rfl
  have hal : Pure w2 (w2.alloc (.cells #[.int .u32 x.slot, .int .u64 x.dl, .int .u64 x.birth] 31)) := (Mod.refl _ w2).alloc _
  have nD : ∀ k, D1 k → k ≠ w2.heap.size := fun k hk e => by have := hC1.lt hk; omega
  have HND := Lib.hid nD; have HAL := Lib.hid hal; have HC1 := Lib.hid hC1; have HG1 := Lib.hid hg1; have HM1 := Lib.hid hm1
  clear hC1 hg1 hm1 hal nD
  generalize w2.alloc (.cells #[.int .u32 x.slot, .int .u64 x.dl, .int .u64 x.birth] 31) = W3 at *
  obtain ⟨b8, hb8⟩ : ∃ b8, w2.heap.size = b8 := ⟨_, rfl⟩
  rw [hb8] at h8 HND ⊢
  have HB8 := Lib.hid hb8
  have H8 := Lib.hid h8
  clear hb8
  have h8_0 := cell_of_row _ _ 0 _ _ _ h8; have h8_1 := cell_of_row _ _ 1 _ _ _ h8; have h8_2 := cell_of_row _ _ 2 _ _ _ h8; have h8_f := (fun j => frozen_of_row _ _ j _ _ h8); have h8_l := lt_of_block h8; simp at h8_0 h8_1 h8_2; have H_h8 := Lib.hid h8; clear h8
  go_upto_region 8 with fail
  have h8s := heap_setCell_same W3 b8 1 _ _ (.int .u64 dl) H8.out
  have hmd : Mod (fun k => k = b8) W3 (W3.setCell ⟨b8, 1, none⟩ (.int .u64 dl)) := (Mod.refl (fun k => k = b8) W3).setCell (p := ⟨b8, 1, none⟩) (fun _ => rfl) _
  have h84 : (W3.setCell ⟨b8, 1, none⟩ (.int .u64 dl)).heap[b8]? = some (.cells #[.int .u32 x.slot, .int .u64 dl, .int .u64 x.birth] 31 (0, 0)) := by rw [h8s]; rfl
  have hC4 := (HC1.out.pure HAL.out).frame hmd (fun k hk e => HND.out k hk e)
  have HMD := Lib.hid hmd; have HC4 := Lib.hid hC4; have H84 := Lib.hid h84
  clear h8_0 h8_1 h8_2 h8_f h8_l
  clear H_h8 h8s hmd hC4
  generalize W3.setCell ⟨b8, 1, none⟩ (.int .u64 dl) = W4 at *
  have h84_0 := cell_of_row _ _ 0 _ _ _ h84; have h84_1 := cell_of_row _ _ 1 _ _ _ h84; have h84_2 := cell_of_row _ _ 2 _ _ _ h84; have h84_f := (fun j => frozen_of_row _ _ j _ _ h84); have h84_l := lt_of_block h84; simp at h84_0 h84_1 h84_2; have H_h84 := Lib.hid h84; clear h84
  have HPp := Lib.hid (fun W (hW : Pure W4 W) => HPu.out W _ _ _ _ (HC4.out.pure hW))
  go_upto_region 9 with (go_at_call 48; refine Calls.mono (HPp.out _ (by first | exact Mod.refl _ _ | exact (Mod.refl _ _).drew)) ?_; rintro e w' ⟨rfl, ⟨D', Ds', Dm', Db', hC, hg⟩, hm⟩)
  have hsz2 : w.heap.size ≤ w2.heap.size := HM1.out.size
  have hsz4 : w2.heap.size ≤ W4.heap.size := Nat.le_trans HAL.out.size HMD.out.size
  have hb8 : w.heap.size ≤ b8 := by have := HB8.out; omega
  have hm4 : Mod D1 W4 w' := by first | exact hm | exact Mod.of_drew hm
  have hm24 : Mod (fun k => k = b8) w2 W4 := (HAL.out.mono (fun _ _ h => h.elim)).trans HMD.out
  have hmD : ∀ k, k < w.heap.size → D1 k → D k := fun k hk h => by
    rcases HG1.out k h with e | e
    · exact e
    · omega
  have hm0 : Mod D w w' := (HM1.out.trans' hm24 (fun _ _ h => h) (fun k hk e => by omega)).trans' hm4 (fun _ _ h => h) hmD
  have hg0 : grewD D D' w := fun k hk => by
    rcases hg k hk with e | e
    · exact HG1.out k e
    · exact .inr (Nat.le_trans hsz2 (Nat.le_trans hsz4 e))
  have HF := Lib.hid hC
  have HM := Lib.hid hm0
  have HG := Lib.hid hg0
  clear hC hm hg hm0 hg0 hm4 hm24 hmD
  go_wp2
  exact bodyPost_ret (v := .int .i64 0) (by simp [results, Tryd.results25, go_sem]) rfl ⟨rfl, ⟨_, _, _, _, HF.out, HG.out⟩, HM.out⟩
end
end Go.Proofs.YtlalpenfgkfkpaaDoor

/- cascade: Where. Conditions: the cascade lies in memory. -/
namespace Go.Proofs.YtlalpenfgkfkpaaDoor
open Go.RowKit
set_option maxRecDepth 100000
section
variable {w w' : World} {D : Nat → Prop} {p now : Nat} {ws : List Nat} {bm bb : Nat} {Ds : Nat → Nat → Prop} {Dm Db : DataW Unit} {M : List Td} {Lss : List (List (List Nat))}
set_option maxHeartbeats 2000000 in
theorem cwhere_no (h : CasMem w D p now ws bm bb Ds Dm Db M Lss) {s : Nat} (h32 : s ≤ 4294967295) {er : Int} (he : getT M s = (zTd, er)) (h0 : er ≠ 0) :
    Calls Tryd.prog 63 #[lkP p, .int .u32 s] w fun e w' => e = .returned (.tuple #[.int .i64 0, .int .i64 0, .int .i64 er]) ∧ Pure w w' := by
  have hget := cget_ok h (s := s) h32
  rw [he] at hget
  have HGe := Lib.hid hget
  have e1 : (er == 0) = false := by simpa using h0
  clear h hget he h0
  unfold tdV at HGe
  dsimp only at HGe
  go_enter Tryd.func63, Tryd.ntmps63
  go_upto_region 2 with (go_at_call 19; refine Calls.mono HGe.out ?_; rintro e w2 ⟨rfl, hp2⟩)
  have HP2 := Lib.hid hp2
  clear hp2
  go_wp2
  have hpp := HP2.out
  refine bodyPost_ret (v := .tuple #[.int .i64 0, .int .i64 0, .int .i64 er]) (by simp [results, Tryd.results63, go_sem]) rfl ⟨rfl, ?_⟩
  first
    | exact hpp
    | exact hpp.drew
    | exact hpp.alloc _
    | exact (hpp.alloc _).drew
end
end Go.Proofs.YtlalpenfgkfkpaaDoor

/- cascade: Where of what is there. Conditions: the cascade lies in memory. -/
namespace Go.Proofs.YtlalpenfgkfkpaaDoor
open Go.RowKit
set_option maxRecDepth 100000
section
variable {w w' : World} {D : Nat → Prop} {p now : Nat} {ws : List Nat} {bm bb : Nat} {Ds : Nat → Nat → Prop} {Dm Db : DataW Unit} {M : List Td} {Lss : List (List (List Nat))}
set_option maxHeartbeats 2000000 in
theorem cwhere_ok (h : CasMem w D p now ws bm bb Ds Dm Db M Lss) {x : Td} (hg : getT M x.slot = (x, 0)) (hs : x.slot < 4194304) (hd : x.dl < 18446744073709551616) (hne : x.dl ≠ now) {Ls : List (List Nat)} {L : List Nat}
    (hL : Lss[lvl now x.dl]? = some Ls) (hK : Ls[bkt now x.dl]? = some L) (hf : x.slot ∈ L) :
    Calls Tryd.prog 63 #[lkP p, .int .u32 x.slot] w fun e w' => e = .returned (.tuple #[.int .i64 (lvl now x.dl), .int .i64 (bkt now x.dl), .int .i64 0]) ∧ Pure w w' := by
  have hget := cget_ok h (s := x.slot) (by omega)
  rw [hg] at hget
  have hl8 : lvl now x.dl < 8 := (lvl_spec h.box.now hd).1
  have hbk : bkt now x.dl < 256 := bkt_lt
  obtain ⟨q, hq⟩ : ∃ q, ws[lvl now x.dl]? = some q := ⟨_, List.getElem?_eq_getElem (by rw [h.box.len]; exact hl8)⟩
  have HPl := Lib.hid (fun (W : World) (hW : Pure w W) => cplace_ok (h.pure hW).box hd hne)
  have HBu := Lib.hid (fun (W : World) (hW : Pure w W) => wbucket_ok ((h.lev _ q Ls hq hL).pure hW) hs hK hf)
  have HC := Lib.hid h
  have HGe := Lib.hid hget
  obtain ⟨lv, hlv⟩ : ∃ lv, lvl now x.dl = lv := ⟨_, rfl⟩
  obtain ⟨bk, hbk2⟩ : ∃ bk, bkt now x.dl = bk := ⟨_, rfl⟩
  rw [hlv] at hl8 hq HPl ⊢
  rw [hbk2] at hbk HPl HBu ⊢
  have HQ := Lib.hid hq
  clear h hget hg hL hK hf hq hlv hbk2 hne
  unfold tdV at HGe
  dsimp only at HGe
  go_enter Tryd.func63, Tryd.ntmps63
  go_upto_region 2 with (go_at_call 19; refine Calls.mono HGe.out ?_; rintro e w2 ⟨rfl, hp2⟩)
  have h7 := heap_new (w := w2) (o := .cells #[.int .u32 x.slot, .int .u64 x.dl, .int .u64 x.birth] 31 (0, 0)) rfl
  have hp3 : Pure w (w2.alloc (.cells #[.int .u32 x.slot, .int .u64 x.dl, .int .u64 x.birth] 31)) := hp2.alloc _
  clear hp2 HGe
  generalize w2.alloc (.cells #[.int .u32 x.slot, .int .u64 x.dl, .int .u64 x.birth] 31) = W3 at *
  obtain ⟨b7, hb7⟩ : ∃ b7, w2.heap.size = b7 := ⟨_, rfl⟩
  rw [hb7] at h7 ⊢
  clear hb7
  have H7 := Lib.hid h7
  have HP3 := Lib.hid hp3
  have h7_0 := cell_of_row _ _ 0 _ _ _ h7; have h7_1 := cell_of_row _ _ 1 _ _ _ h7; have h7_2 := cell_of_row _ _ 2 _ _ _ h7; have h7_f := (fun j => frozen_of_row _ _ j _ _ h7); have h7_l := lt_of_block h7; simp at h7_0 h7_1 h7_2; have H_h7 := Lib.hid h7; clear h7
  have HPl3 := Lib.hid (HPl.out W3 hp3)
  go_upto_region 5 with (go_at_call 49; refine Calls.mono HPl3.out ?_; rintro e w4 ⟨rfl, hp4⟩)
  have HP4 := Lib.hid (hp3.trans hp4)
  have HBu4 := Lib.hid (HBu.out w4 (hp3.trans hp4))
  have hcl := ((HC.out.pure HP4.out).box).level HQ.out
  have l0 : (0 : Int) ≤ (lv : Int) := by omega
  have l1 : (lv : Int) < 8 := by omega
  have dl8 : decide (lv < 8) = true := decide_eq_true hl8
  go_wp2_with (go_at_call 84; refine Calls.mono HBu4.out ?_; rintro e w5 ⟨rfl, rfl⟩)
  have hpp := HP4.out
  refine bodyPost_ret (v := .tuple #[.int .i64 lv, .int .i64 bk, .int .i64 0]) (by simp [results, Tryd.results63, go_sem]) rfl ⟨rfl, ?_⟩
  first
    | exact hpp
    | exact hpp.drew
end
end Go.Proofs.YtlalpenfgkfkpaaDoor

/- cascade: its contracts on the list in order: Schedule, Get, Cancel, Reschedule, Where, Now, Len. Conditions: the cascade lies in memory. -/
namespace Go.Proofs.YtlalpenfgkfkpaaDoor
open Go.RowKit
set_option maxRecDepth 100000
section
variable {w w' : World} {D : Nat → Prop} {p now : Nat} {ws : List Nat} {bm bb : Nat} {Ds : Nat → Nat → Prop} {Dm Db : DataW Unit} {M M' L : List Td} {Lss : List (List (List Nat))}
theorem TMap.perm {b : Nat} {A : DataW Unit} (h : TMap w b M A) (hp : M.Perm M') : TMap w b M' A :=
  ⟨by rw [← hp.length_eq]; exact h.own, fun x hx => h.at_ x (hp.mem_iff.2 hx), fun s hs => by obtain ⟨x, hx, e⟩ := h.has s hs; exact ⟨x, hp.mem_iff.1 hx, e⟩, by rw [← hp.length_eq]; exact h.size⟩
theorem BMap.perm {b : Nat} {A : DataW Unit} (h : BMap w b M A) (hp : M.Perm M') : BMap w b M' A :=
  ⟨by rw [← hp.length_eq]; exact h.own, fun s => by rw [h.has]; exact ⟨fun ⟨x, hx, e⟩ => ⟨x, hp.mem_iff.1 hx, e⟩, fun ⟨x, hx, e⟩ => ⟨x, hp.mem_iff.2 hx, e⟩⟩, by rw [← hp.length_eq]; exact h.size⟩
theorem CasMem.perm (h : CasMem w D p now ws bm bb Ds Dm Db M Lss) (hp : M.Perm M') : CasMem w D p now ws bm bb Ds Dm Db M' Lss :=
  ⟨h.box, h.what.perm hp, h.births.perm hp, h.len, h.lev, h.apart, h.own, h.ne, h.dd⟩
/-- A cascade that holds L, in order, at a time: block p, its own blocks D. -/
def CasAt (w : World) (D : Nat → Prop) (p now : Nat) (L : List Td) : Prop :=
  ∃ ws bm bb Ds Dm Db Lss, CasMem w D p now ws bm bb Ds Dm Db L Lss ∧ PInv now L (fun _ => False) Lss ∧ L.Pairwise bef
theorem CasAt.frame {S : Nat → Prop} (h : CasAt w D p now L) (hm : Mod S w w') (hd : ∀ k, D k → ¬ S k) : CasAt w' D p now L := by
  obtain ⟨ws, bm, bb, Ds, Dm, Db, Lss, h1, h2⟩ := h
  exact ⟨ws, bm, bb, Ds, Dm, Db, Lss, h1.frame hm hd, h2⟩
theorem CasAt.pure (h : CasAt w D p now L) (hm : Pure w w') : CasAt w' D p now L := h.frame hm (fun _ _ h => h)
theorem CasAt.lt (h : CasAt w D p now L) {k : Nat} (hk : D k) : k < w.heap.size := by
  obtain ⟨ws, bm, bb, Ds, Dm, Db, Lss, h1, h2⟩ := h
  exact h1.lt hk
theorem CasAt.self (h : CasAt w D p now L) : D p := by
  obtain ⟨ws, bm, bb, Ds, Dm, Db, Lss, h1, h2⟩ := h
  exact (h1.dd p).2 (.inl rfl)
theorem CasAt.now64 (h : CasAt w D p now L) : now < 18446744073709551616 := by
  obtain ⟨ws, bm, bb, Ds, Dm, Db, Lss, h1, h2⟩ := h
  exact h1.box.now
theorem CasAt.rng (h : CasAt w D p now L) : ∀ x ∈ L, x.slot < 4194304 ∧ now < x.dl ∧ x.dl < 18446744073709551615 ∧ 0 < x.birth ∧ x.birth ≤ 18446744073709551615 := by
  obtain ⟨ws, bm, bb, Ds, Dm, Db, Lss, h1, h2, h3⟩ := h
  intro x hx
  obtain ⟨a, b, c⟩ := h2.rng x hx
  exact ⟨a, h2.after x hx (fun c => c), b, c⟩
theorem CasAt.uniq (h : CasAt w D p now L) : (∀ x ∈ L, ∀ y ∈ L, x.slot = y.slot → x = y) ∧ (∀ x ∈ L, ∀ y ∈ L, x.birth = y.birth → x = y) ∧ L.Pairwise bef := by
  obtain ⟨ws, bm, bb, Ds, Dm, Db, Lss, h1, h2, h3⟩ := h
  exact ⟨h2.slots, h2.births, h3⟩
def schR (now : Nat) (L : List Td) (x : Td) : Int := if schE now x = 0 then (if hasB L x.slot || bornB L x.birth then 11 else 0) else schE now x
def schL (now : Nat) (L : List Td) (x : Td) : List Td := if schR now L x = 0 then putL L x else L
theorem atE_zero {s dl : Nat} (h : atE now s dl = 0) (hd : dl ≤ 18446744073709551615) : s < 4194304 ∧ now < dl ∧ dl < 18446744073709551615 := by
  unfold atE at h
  split at h
  · split at h
    · cases h
    · split at h
      · cases h
      · refine ⟨by assumption, by omega, by omega⟩
  · cases h
theorem schE_zero {x : Td} (h : schE now x = 0) (hd : x.dl ≤ 18446744073709551615) : x.slot < 4194304 ∧ x.birth ≠ 0 ∧ now < x.dl ∧ x.dl < 18446744073709551615 := by
  unfold schE at h
  split at h
  · split at h
    · cases h
    · obtain ⟨_, a, b⟩ := atE_zero h hd
      exact ⟨by assumption, by assumption, a, b⟩
  · cases h
theorem CasAt.sched (h : CasAt w D p now L) {x : Td} (h32 : x.slot ≤ 4294967295) (hd : x.dl ≤ 18446744073709551615) (hb : x.birth ≤ 18446744073709551615) (hl : L.length < maxLen) :
    Calls Tryd.prog 13 #[lkP p, tdV x] w fun e w' => e = .returned (.int .i64 (schR now L x)) ∧ (∃ D', CasAt w' D' p now (schL now L x) ∧ grewD D D' w) ∧ Mod D w w' := by
  have h' := h
  obtain ⟨ws, bm, bb, Ds, Dm, Db, Lss, h1, h2, h3⟩ := h
  unfold schL
  by_cases e0 : schE now x = 0
  · obtain ⟨a1, a2, a3, a4⟩ := schE_zero e0 hd
    by_cases c : (hasB L x.slot || bornB L x.birth) = true
    · have er : schR now L x = 11 := by unfold schR; rw [if_pos e0, if_pos c]
      rw [er, if_neg (by decide)]
      rw [Bool.or_eq_true, hasB_iff, bornB_iff] at c
      refine (csched_busy h1 a1 a4 hb a2 a3 c).mono ?_
      rintro e w' ⟨rfl, hp⟩
      exact ⟨rfl, ⟨D, h'.pure hp, grewD.refl _ _⟩, Mod.of_pure hp⟩
    · have er : schR now L x = 0 := by unfold schR; rw [if_pos e0, if_neg c]
      rw [er, if_pos rfl]
      rw [Bool.or_eq_true, hasB_iff, bornB_iff, not_or] at c
      have c1 : ∀ y ∈ L, y.slot ≠ x.slot := fun y hy e => c.1 ⟨y, hy, e⟩
      have c2 : ∀ y ∈ L, y.birth ≠ x.birth := fun y hy e => c.2 ⟨y, hy, e⟩
      obtain ⟨Ls, B, hL, hK⟩ := h2.get (lvl_spec h1.box.now (dl := x.dl) (by omega)).1 (bkt_lt (now := now) (dl := x.dl))
      refine (csched_ok h1 a1 a4 hb a2 a3 hl hL hK (h2.notL (fun y hy e => absurd e (c1 y hy)) hL) c1 c2).mono ?_
      rintro e w' ⟨rfl, ⟨D', Ds', Dm', Db', hC, hg⟩, hm⟩
      exact ⟨rfl, ⟨D', ⟨_, _, _, _, _, _, _, hC.perm putL_perm.symm, h2.sched a3 ⟨a1, a4, by omega, hb⟩ c1 c2 hL hK, putL_sorted h3 c2⟩, hg⟩, hm⟩
  · have er : schR now L x = schE now x := by unfold schR; rw [if_neg e0]
    rw [er, if_neg e0]
    refine (csched_er h1 h32 hd hb e0).mono ?_
    rintro e w' ⟨rfl, hp⟩
    exact ⟨rfl, ⟨D, h'.pure hp, grewD.refl _ _⟩, Mod.of_pure hp⟩
theorem CasAt.get (h : CasAt w D p now L) {s : Nat} (h32 : s ≤ 4294967295) :
    Calls Tryd.prog 19 #[lkP p, .int .u32 s] w fun e w' => e = .returned (.tuple #[tdV (getT L s).1, .int .i64 (getT L s).2]) ∧ Pure w w' := by
  obtain ⟨ws, bm, bb, Ds, Dm, Db, Lss, h1, h2, h3⟩ := h
  exact cget_ok h1 h32
/-- What Get, Cancel say: by whether it is there. -/
theorem getT_cases (L : List Td) (s : Nat) : (s < 4194304 ∧ hasB L s = true ∧ ∃ x, getT L s = (x, 0) ∧ x.slot = s ∧ L[findI L s]? = some x ∧ L.find? (fun y => y.slot == s) = some x ∧ L.Perm (x :: outI L s)) ∨ ((¬ s < 4194304 ∨ hasB L s = false) ∧ ∃ er, getT L s = (zTd, er) ∧ er ≠ 0) := by
  by_cases hs : s < 4194304
  · cases hh : hasB L s with
    | true =>
      obtain ⟨x, h1, h2, h3, h4⟩ := findI_get (findI_lt.2 hh)
      exact .inl ⟨hs, rfl, x, getT_hit hs h3, h2, h1, h3, h4⟩
    | false => exact .inr ⟨.inr rfl, 9, getT_miss hs (find_none hh), by decide⟩
  · exact .inr ⟨.inl hs, 2, getT_arg hs, by decide⟩
/-- What is left behind Cancel. -/
def canL (L : List Td) (s : Nat) : List Td := if (getT L s).2 = 0 then outI L s else L
theorem CasAt.cancel (h : CasAt w D p now L) {s : Nat} (h32 : s ≤ 4294967295) :
    Calls Tryd.prog 24 #[lkP p, .int .u32 s] w fun e w' => e = .returned (.tuple #[tdV (getT L s).1, .int .i64 (getT L s).2]) ∧ (∃ D', CasAt w' D' p now (canL L s) ∧ grewD D D' w) ∧ Mod D w w' := by
  have h' := h
  obtain ⟨ws, bm, bb, Ds, Dm, Db, Lss, h1, h2, h3⟩ := h
  unfold canL
  rcases getT_cases L s with ⟨hs, _, x, e1, rfl, _, e3, e4⟩ | ⟨_, er, e1, e2⟩
  · rw [e1]
    obtain ⟨hx, w1, w2, w3, w4⟩ := h2.without e4
    obtain ⟨a1, a2, a3, a4⟩ := h2.rng x hx
    have a5 := h2.after x hx (fun c => c)
    obtain ⟨Ls, B, hL, hK⟩ := h2.get (lvl_spec h1.box.now (dl := x.dl) (by omega)).1 (bkt_lt (now := now) (dl := x.dl))
    have hf : x.slot ∈ B := by
      obtain ⟨A, C, b1, b2, b3⟩ := (h2.at_ (lvl now x.dl) (bkt now x.dl) x.slot).2 ⟨(fun c => c), x, hx, rfl, rfl, rfl⟩
      rw [hL] at b1; cases b1
      rw [hK] at b2; cases b2
      exact b3
    refine (ccancel_ok h1 e3 a1 (by omega) a4 (by omega) hL hK hf w1 w2 w4).mono ?_
    rintro e w' ⟨rfl, ⟨D', Ds', Dm', Db', hC, hg⟩, hm⟩
    exact ⟨rfl, ⟨D', ⟨_, _, _, _, _, _, _, hC, h2.cut hx w1 w3 hL hK, outI_sorted h3⟩, hg⟩, hm⟩
  · rw [e1]
    dsimp only
    rw [if_neg e2]
    refine (ccancel_no h1 h32 e1 e2).mono ?_
    rintro e w' ⟨rfl, hp⟩
    exact ⟨rfl, ⟨D, h'.pure hp, grewD.refl _ _⟩, Mod.of_pure hp⟩
def resR (now : Nat) (L : List Td) (s dl : Nat) : Int := if atE now s dl = 0 then (getT L s).2 else atE now s dl
def resL (now : Nat) (L : List Td) (s dl : Nat) : List Td := if resR now L s dl = 0 then putL (outI L s) ⟨s, dl, (getT L s).1.birth⟩ else L
theorem CasAt.resched (h : CasAt w D p now L) {s dl : Nat} (h32 : s ≤ 4294967295) (hd : dl ≤ 18446744073709551615) (hl : L.length < maxLen) :
    Calls Tryd.prog 25 #[lkP p, .int .u32 s, .int .u64 dl] w fun e w' => e = .returned (.int .i64 (resR now L s dl)) ∧ (∃ D', CasAt w' D' p now (resL now L s dl) ∧ grewD D D' w) ∧ Mod D w w' := by
  have h' := h
  obtain ⟨ws, bm, bb, Ds, Dm, Db, Lss, h1, h2, h3⟩ := h
  unfold resL
  by_cases e0 : atE now s dl = 0
  · obtain ⟨a1, a2, a3⟩ := atE_zero e0 hd
    have er0 : resR now L s dl = (getT L s).2 := by unfold resR; rw [if_pos e0]
    rw [er0]
    rcases getT_cases L s with ⟨hs, _, x, e1, rfl, _, e3, e4⟩ | ⟨_, er, e1, e2⟩
    · rw [e1]
      dsimp only
      rw [if_pos rfl]
      obtain ⟨hx, w1, w2, w3, w4⟩ := h2.without e4
      obtain ⟨b1, b2, b3, b4⟩ := h2.rng x hx
      have b5 := h2.after x hx (fun c => c)
      obtain ⟨Ls, B, hL, hK⟩ := h2.get (lvl_spec h1.box.now (dl := x.dl) (by omega)).1 (bkt_lt (now := now) (dl := x.dl))
      have hf : x.slot ∈ B := by
        obtain ⟨A, C, b1, b2, b3⟩ := (h2.at_ (lvl now x.dl) (bkt now x.dl) x.slot).2 ⟨(fun c => c), x, hx, rfl, rfl, rfl⟩
        rw [hL] at b1; cases b1
        rw [hK] at b2; cases b2
        exact b3
      have hc := h2.cut hx w1 w3 hL hK
      obtain ⟨Ls2, B2, hL2, hK2⟩ := hc.get (lvl_spec h1.box.now (dl := dl) (by omega)).1 (bkt_lt (now := now) (dl := dl))
      have n1 : ∀ y ∈ outI L x.slot, y.slot ≠ x.slot := fun y hy => ((w1 y).1 hy).2
      have n2 : ∀ y ∈ outI L x.slot, y.birth ≠ x.birth := fun y hy => ((w2 y).1 hy).2
      refine (cresched_ok h1 e3 b1 (by omega) b4 (by omega) hL hK hf w1 w2 w4 hl a2 a3 rfl hL2 hK2 (hc.notL (fun y hy e => absurd e (n1 y hy)) hL2)).mono ?_
      rintro e w' ⟨rfl, ⟨D', Ds', Dm', Db', hC, hg⟩, hm⟩
      exact ⟨rfl, ⟨D', ⟨_, _, _, _, _, _, _, hC.perm putL_perm.symm, hc.sched (x := ⟨x.slot, dl, x.birth⟩) a2 ⟨b1, a3, b3, b4⟩ n1 n2 hL2 hK2, putL_sorted (outI_sorted h3) n2⟩, hg⟩, hm⟩
    · rw [e1]
      dsimp only
      rw [if_neg e2]
      refine (cresched_no h1 h32 hd e0 e1 e2).mono ?_
      rintro e w' ⟨rfl, hp⟩
      exact ⟨rfl, ⟨D, h'.pure hp, grewD.refl _ _⟩, Mod.of_pure hp⟩
  · have er : resR now L s dl = atE now s dl := by unfold resR; rw [if_neg e0]
    rw [er, if_neg e0]
    refine (cresched_er h1 h32 hd e0).mono ?_
    rintro e w' ⟨rfl, hp⟩
    exact ⟨rfl, ⟨D, h'.pure hp, grewD.refl _ _⟩, Mod.of_pure hp⟩
/-- What Where says. -/
def whE (now : Nat) (L : List Td) (s : Nat) : Value := if (getT L s).2 = 0 then .tuple #[.int .i64 (lvl now (getT L s).1.dl : Nat), .int .i64 (bkt now (getT L s).1.dl : Nat), .int .i64 0] else .tuple #[.int .i64 0, .int .i64 0, .int .i64 (getT L s).2]
theorem CasAt.where_ (h : CasAt w D p now L) {s : Nat} (h32 : s ≤ 4294967295) :
    Calls Tryd.prog 63 #[lkP p, .int .u32 s] w fun e w' => e = .returned (whE now L s) ∧ Pure w w' := by
  obtain ⟨ws, bm, bb, Ds, Dm, Db, Lss, h1, h2, h3⟩ := h
  unfold whE
  rcases getT_cases L s with ⟨hs, _, x, e1, rfl, _, e3, e4⟩ | ⟨_, er, e1, e2⟩
  · rw [e1]
    have hx : x ∈ L := e4.mem_iff.2 List.mem_cons_self
    obtain ⟨b1, b2, b3, b4⟩ := h2.rng x hx
    have b5 := h2.after x hx (fun c => c)
    obtain ⟨A, B, hL, hK, hf⟩ := (h2.at_ (lvl now x.dl) (bkt now x.dl) x.slot).2 ⟨(fun c => c), x, hx, rfl, rfl, rfl⟩
    exact cwhere_ok h1 e1 b1 (by omega) (by omega) hL hK hf
  · rw [e1]
    dsimp only
    rw [if_neg e2]
    exact cwhere_no h1 h32 e1 e2
theorem CasAt.now_ (h : CasAt w D p now L) : Calls Tryd.prog 28 #[lkP p] w fun e w' => e = .returned (.int .u64 now) ∧ w = w' := by
  obtain ⟨ws, bm, bb, Ds, Dm, Db, Lss, h1, h2, h3⟩ := h
  exact cnow_ok h1
theorem CasAt.len_ (h : CasAt w D p now L) : Calls Tryd.prog 15 #[lkP p] w fun e w' => e = .returned (.int .i64 L.length) ∧ w = w' := by
  obtain ⟨ws, bm, bb, Ds, Dm, Db, Lss, h1, h2, h3⟩ := h
  exact clen_ok h1
end
end Go.Proofs.YtlalpenfgkfkpaaDoor

/- cascade: empty. Conditions: the cascade lies in memory, the table too. -/
namespace Go.Proofs.YtlalpenfgkfkpaaDoor
open Go.RowKit
set_option maxRecDepth 100000
theorem firstB_spec {f : Nat → Bool} {n b : Nat} (h : firstB f n = some b) : b < n ∧ f b = true ∧ ∀ j, j < b → f j = false := by
  unfold firstB at h
  rw [List.find?_range_eq_some] at h
  exact ⟨List.mem_range.1 h.2.1, h.1, fun j hj => by have := h.2.2 j hj; simpa using this⟩
theorem firstB_spec0 {f : Nat → Bool} {n : Nat} (h : firstB f n = none) : ∀ j, j < n → f j = false := fun j hj => by
  unfold firstB at h
  rw [List.find?_eq_none] at h
  have := h j (List.mem_range.2 hj)
  simpa using this
/-- What Next says: the first list that is not empty, or none. -/
def nextC (f : Nat → Bool) (b : Nat) (e : Int) : Prop := firstB f 256 = some b ∧ e = 0 ∨ firstB f 256 = none ∧ b = 0 ∧ e = 9
theorem nextE_cases (f : Nat → Bool) : ∃ (b : Nat) (e : Int), nextE f = .tuple #[.int .i64 b, .int .i64 e] ∧ nextC f b e := by
  unfold nextE nextC
  cases firstB f 256 with
  | some b => exact ⟨b, 0, rfl, .inl ⟨rfl, rfl⟩⟩
  | none => exact ⟨0, 9, rfl, .inr ⟨rfl, rfl, rfl⟩⟩
section
variable {w w' : World} {D : Nat → Prop} {p now : Nat} {ws : List Nat} {bm bb : Nat} {Ds : Nat → Nat → Prop} {Dm Db : DataW Unit} {M : List Td} {Lss : List (List (List Nat))}
theorem CasMem.level0 (h : CasMem w D p now ws bm bb Ds Dm Db M Lss) {l q : Nat} {Ls' : List (List Nat)} (hl : l < 8) (hq : ws[l]? = some q) (hw : WhAt w' (Ds l) q Ls') (hm : Mod (Ds l) w w') : CasMem w' D p now ws bm bb Ds Dm Db M (Lss.set l Ls') := by
  obtain ⟨D2, hC, _⟩ := h.level hl hq hw (grewD.refl _ _) hm
  have e1 : setF Ds l (Ds l) = Ds := by
    funext k
    unfold setF
    split
    · rename_i e; rw [e]
    · rfl
  rw [e1] at hC
  have e2 : D2 = D := by
    funext k
    exact propext ((hC.dd k).trans (h.dd k).symm)
  rw [e2] at hC
  exact hC
theorem CasMem.levelD (h : CasMem w D p now ws bm bb Ds Dm Db M Lss) {l : Nat} (hl : l < 8) : Ds l 0 → D 0 := fun k => (h.dd 0).2 (.inr (.inr (.inr ⟨l, hl, k⟩)))
/-- What is so in a round of empty. -/
structure EmI (w wr : World) (D : Nat → Prop) (p now : Nat) (ws : List Nat) (bm bb : Nat) (Ds : Nat → Nat → Prop) (Dm Db : DataW Unit) (M : List Td) (Lss : List (List (List Nat))) (lv n : Nat) (Ls cur : List (List Nat)) (a : Option Addr) (c : Nat) (out : List Nat) : Prop where
  mem : CasMem wr D p now ws bm bb Ds Dm Db M (Lss.set lv cur)
  row : NumRow wr a c out
  fresh : FreshV w (.slice a out.length c)
  mod : Mod D w wr
  sum : out ++ (cur.take n).flatten = flatN Ls n
  rest : cur.drop n = Ls.drop n
  len : cur.length = 256
set_option maxHeartbeats 2000000 in
theorem cempty_ok (h : CasMem w D p now ws bm bb Ds Dm Db M Lss) (hT : TabW w) (h0 : ¬ D 0) {lv m : Nat} (hm : m < 256) (hl8 : lv < 8) {Ls : List (List Nat)} (hL : Lss[lv]? = some Ls) (hb : (flatN Ls (m + 1)).length ≤ 4194304) :
    Calls Tryd.prog 50 #[lkP p, .int .i64 lv, .int .i64 m] w fun e w' => ∃ a c, e = .returned (.slice a (flatN Ls (m + 1)).length c) ∧ NumRow w' a c (flatN Ls (m + 1)) ∧ FreshV w (.slice a (flatN Ls (m + 1)).length c) ∧ CasMem w' D p now ws bm bb Ds Dm Db M (Lss.set lv (emptyL Ls (m + 1))) ∧ Mod D w w' := by
  obtain ⟨q, hq⟩ : ∃ q, ws[lv]? = some q := ⟨_, List.getElem?_eq_getElem (by rw [h.box.len]; exact hl8)⟩
  have hNx := fun (W : World) (cur : List (List Nat)) (hM : CasMem W D p now ws bm bb Ds Dm Db M (Lss.set lv cur)) (hW : Mod D w W) => wnext_ok (hM.lev lv q cur hq (List.getElem?_set_self (by rw [h.len]; exact hl8))) (hT.mod hW h0)
  have hlL : Lss.set lv Ls = Lss := by
    refine List.ext_getElem? (fun j => ?_)
    by_cases e : lv = j
    · subst e; rw [List.getElem?_set_self (by rw [h.len]; exact hl8), hL]
    · rw [List.getElem?_set_ne e]
  have hLs : Ls.length = 256 := (h.lev lv q Ls hq hL).len
  have hI : EmI w w D p now ws bm bb Ds Dm Db M Lss lv (m + 1) Ls Ls none 0 [] := ⟨by rw [hlL]; exact h, World.ownsRow_nil _ _ _ _, (fun g hg => by cases hg), Mod.refl _ _, rfl, rfl, hLs⟩
  obtain ⟨b0, e0, hne, hc0⟩ := nextE_cases (neB Ls)
  have hn0 := hNx w Ls hI.mem (Mod.refl _ _)
  rw [hne] at hn0
  have HN0 := Lib.hid hn0
  have HNx := Lib.hid hNx
  have hcl := h.box.level hq
  obtain ⟨c0, _, _, _, _⟩ := h.box.cells
  have HI := Lib.hid hI; have HQ := Lib.hid hq; have HB := Lib.hid hb; have HC0 := Lib.hid hc0; have HLS := Lib.hid hLs
  have hlss : ∀ cur, (Lss.set lv cur)[lv]? = some cur := fun cur => List.getElem?_set_self (by rw [h.len]; exact hl8)
  have HLSS := Lib.hid hlss
  have hset : ∀ A B, (Lss.set lv A).set lv B = Lss.set lv B := fun A B => List.set_set ..
  have HSET := Lib.hid hset
  have hDlt : ∀ k, D k → k < w.heap.size := fun k hk => h.lt hk
  have hlvD : ∀ k, Ds lv k → D k := fun k hk => (h.dd k).2 (.inr (.inr (.inr ⟨lv, hl8, hk⟩)))
  have HDLT := Lib.hid hDlt; have HLVD := Lib.hid hlvD
  clear h hT h0 hL hq hI hne hn0 hNx hlL hb hc0 hLs hlss hset hDlt hlvD
  have dl8 : decide (lv < 8) = true := decide_eq_true hl8
  have l0 : (0 : Int) ≤ (lv : Int) := by omega
  have l1 : (lv : Int) < 8 := by omega
  obtain ⟨i0, hi, iz0, iz1, iz2⟩ := info_parts info_n32
  go_enter Tryd.func50, Tryd.ntmps50
  go_upto_region 3 with (go_at_call 64; refine Calls.mono HN0.out ?_; rintro e w' ⟨rfl, rfl⟩)
  clear c0 hcl
  go_loopw [7, 8, 9] (fun v7 v8 v9 wr => ∃ cur a c out b er, v7 = .slice a out.length c ∧ v8 = .int .i64 (b : Nat) ∧ v9 = .int .i64 er ∧ nextC (neB cur) b er ∧ EmI w wr D p now ws bm bb Ds Dm Db M Lss lv (m + 1) Ls cur a c out) (fun _ v8 v9 _ => if intOf v9 = 0 then 256 - (intOf v8).toNat else 0)
  case atStart => exact ⟨Ls, none, 0, [], b0, e0, rfl, rfl, rfl, HC0.out, HI.out⟩
  case round =>
    obtain ⟨cur, a, c, out, b, er, rfl, rfl, rfl, hc, hI⟩ := hrel
    have HIr := Lib.hid hI
    have hcl := hI.mem.box.level HQ.out
    obtain ⟨c0, _, _, _, _⟩ := hI.mem.box.cells
    have fin : (∀ i, i < m + 1 → neB cur i = false) → out = flatN Ls (m + 1) ∧ cur = emptyL Ls (m + 1) := fun hz => by
      have e1 := take_flat_none (by rw [hI.len]; omega) hz
      have e2 := hI.sum
      rw [e1, flatten_rep, List.append_nil] at e2
      refine ⟨e2, ?_⟩
      unfold emptyL
      rw [← hI.rest, ← e1, List.take_append_drop]
    have FIN := Lib.hid fin
    clear fin hI
    rcases hc with ⟨hf, rfl⟩ | ⟨hf, rfl, rfl⟩
    · obtain ⟨f1, f2, f3⟩ := firstB_spec hf
      by_cases hbm : b ≤ m
      · have hbm' : (b : Int) ≤ (m : Int) := by omega
        obtain ⟨l, hl⟩ : ∃ l, cur[b]? = some l := ⟨_, List.getElem?_eq_getElem (by rw [HIr.out.len]; exact f1)⟩
        have hTk := wtake_ok (HIr.out.mem.lev lv q cur HQ.out (HLSS.out cur)) hl
        have hfl := take_flat_first (n := m + 1) (by omega) hl f3
        have hsum := HIr.out.sum
        rw [hfl, ← List.append_assoc] at hsum
        have hll : (out ++ l).length ≤ 4194304 := by
          have := HB.out
          rw [← hsum, List.length_append] at this
          omega
        rw [List.length_append] at hll
        have hrest : (cur.set b []).drop (m + 1) = Ls.drop (m + 1) := by
          rw [← HIr.out.rest, List.drop_set_of_lt (by omega)]
        obtain ⟨b1, e1, hne1, hc1⟩ := nextE_cases (neB (cur.set b []))
        have hneb : neB (cur.set b []) = setB (neB cur) b false := neB_set (by rw [HIr.out.len]; exact f1) []
        have hmeas : e1 = 0 → b < b1 ∧ b1 < 256 := fun hz => by
          rcases hc1 with ⟨g1, _⟩ | ⟨_, _, g2⟩
          · obtain ⟨g1, g2, _⟩ := firstB_spec g1
            refine ⟨?_, g1⟩
            rw [hneb] at g2
            unfold setB at g2
            rcases Nat.lt_trichotomy b1 b with k | k | k
            · rw [if_neg (by omega), f3 b1 k] at g2; cases g2
            · rw [if_pos k] at g2; cases g2
            · exact k
          · rw [g2] at hz; cases hz
        have HMEAS := Lib.hid hmeas; have HSUM := Lib.hid hsum; have HREST := Lib.hid hrest; have HC1 := Lib.hid hc1; have HNE1 := Lib.hid hne1
        obtain ⟨nl, hnl⟩ : ∃ nl, l.length = nl := ⟨_, rfl⟩
        obtain ⟨no, hno⟩ : ∃ no, out.length = no := ⟨_, rfl⟩
        rw [hnl] at hTk hll
        rw [hno] at hll ⊢
        have HTk := Lib.hid hTk; have HNL := Lib.hid hnl; have HNO := Lib.hid hno
        have hbl : b < 256 := f1
        clear hf f1 f2 f3 hl hTk hfl hsum hrest hc1 hne1 hneb hmeas hnl hno
        go_upto_region 6 with (go_at_call 79; refine Calls.mono HTk.out ?_; rintro e w2 ⟨a2, c2, rfl, hr2, hf2, hw2, hm2⟩)
        have hmem2 : CasMem w2 D p now ws bm bb Ds Dm Db M (Lss.set lv (cur.set b [])) := by
          have := HIr.out.mem.level0 hl8 HQ.out hw2 hm2
          rw [HSET.out] at this
          exact this
        have hmD2 : Mod D wr w2 := hm2.mono (fun k _ hk => HLVD.out k hk)
        have hro2 : w2.ownsRow 0 29 1 (.slice a no c) no (nums out) := by
          have := HIr.out.row
          unfold NumRow at this
          rw [HNO.out] at this
          exact owns_mod this hmD2 (fun g hg hk => by have := HIr.out.fresh g (by rw [HNO.out]; exact hg); have := HDLT.out g hk; omega)
        have hRD2 : ReadAt w2 (.slice a2 nl c2) 1 (nums l) := by have := num_read hr2; rw [HNL.out] at this; exact this
        have HRO2 := Lib.hid hro2; have HRD2 := Lib.hid hRD2; have HM2 := Lib.hid hmem2; have HMD2 := Lib.hid (HIr.out.mod.trans hmD2)
        clear hr2 hf2 hw2 hm2 hmem2 hmD2 hro2 hRD2 hcl c0
        go_upto_region 4 with (at_builtin; refine wpList_append_read _ rfl _ _ 74 rfl 29 i0 _ 1 4 Tryd.underlying74 hi iz0 iz1 iz2 rfl (by decide) (.slice a no c) no _ rfl HRO2.out _ (nums l) nl rfl HRD2.out (by rw [nums_length, HNL.out, Nat.mul_one]) (by unfold maxLen; omega) (by omega) ?_; intro a7 c7 w5 hr7 hg7 hb7)
        have hmg : Mod (fun k => (Value.slice a no c).ownBlock = some k) w2 w5 := Mod.of_grown (S := fun k' => (Value.slice a no c).ownBlock = some k') hg7 (fun k e _ => e)
        have hfa : ∀ k, (Value.slice a no c).ownBlock = some k → w.heap.size ≤ k := fun k e => HIr.out.fresh k (by rw [HNO.out]; exact e)
        have hmem5 := HM2.out.frame hmg (fun k hk e => by have := hfa k e; have := HDLT.out k hk; omega)
        have hm5 : Mod D w w5 := HMD2.out.then hmg (fun k hk e => by have := hfa k e; omega)
        have hf5 : FreshV w (.slice a7 (no + nl) c7) := fun k hk => by
          rcases hb7 with e | e
          · exact hfa k (e ▸ hk)
          · rw [e] at hk; cases hk; exact HMD2.out.size
        have hno2 : (out ++ l).length = no + nl := by rw [List.length_append, HNO.out, HNL.out]
        have hI5 : EmI w w5 D p now ws bm bb Ds Dm Db M Lss lv (m + 1) Ls (cur.set b []) a7 c7 (out ++ l) := ⟨hmem5, by unfold NumRow; rw [hno2, nums_append]; exact hr7, by rw [hno2]; exact hf5, hm5, HSUM.out, HREST.out, by rw [List.length_set]; exact HIr.out.len⟩
        have hn5 := HNx.out w5 _ hI5.mem hm5
        rw [HNE1.out] at hn5
        have HN5 := Lib.hid hn5; have HI5 := Lib.hid hI5; have HNO2 := Lib.hid hno2
        have hcl := hI5.mem.box.level HQ.out
        obtain ⟨c0, _, _, _, _⟩ := hI5.mem.box.cells
        clear hr7 hg7 hb7 hmg hfa hmem5 hm5 hf5 hno2 hI5 hn5
        go_wp2_with (go_at_call 64; refine Calls.mono HN5.out ?_; rintro e w' ⟨rfl, rfl⟩)
        go_roundw
        case rel => exact ⟨_, a7, c7, _, b1, e1, by rw [HNO2.out], rfl, rfl, HC1.out, HI5.out⟩
        case measure =>
          have hq := HMEAS.out
          by_cases hz : e1 = 0
          · have := hq hz
            simp [intOf, hz]; omega
          · simp [intOf, hz]; omega
      · have hbm' : ¬ ((b : Int) ≤ (m : Int)) := by omega
        obtain ⟨g1, g2⟩ := FIN.out (fun i hi => f3 i (by omega))
        have G1 := Lib.hid g1; have G2 := Lib.hid g2
        clear g1 g2 hf f1 f2 f3 hcl c0
        have hres := HIr.out
        rw [G1.out, G2.out] at hres
        have HRES := Lib.hid hres
        rw [G1.out]
        clear hres
        go_wp2
        go_ret
        exact ⟨a, c, rfl, HRES.out.row, HRES.out.fresh, HRES.out.mem, HRES.out.mod⟩
    · obtain ⟨g1, g2⟩ := FIN.out (fun i hi => firstB_spec0 hf i (by omega))
      have G1 := Lib.hid g1; have G2 := Lib.hid g2
      clear g1 g2 hf hcl c0
      have hres := HIr.out
      rw [G1.out, G2.out] at hres
      have HRES := Lib.hid hres
      rw [G1.out]
      clear hres
      go_wp2
      go_ret
      exact ⟨a, c, rfl, HRES.out.row, HRES.out.fresh, HRES.out.mem, HRES.out.mod⟩
end
end Go.Proofs.YtlalpenfgkfkpaaDoor

/- cascade: what Advance wants: bounds, the new time. Conditions: the cascade lies in memory. -/
namespace Go.Proofs.YtlalpenfgkfkpaaDoor
open Go.RowKit
set_option maxRecDepth 100000
section
variable {w w' : World} {D : Nat → Prop} {p now tt k lv n : Nat} {ws : List Nat} {bm bb : Nat} {Ds : Nat → Nat → Prop} {Dm Db : DataW Unit} {M L : List Td} {Lss : List (List (List Nat))} {P : Nat → Prop} {Ls : List (List Nat)}
theorem PInv.bound (h : PInv now M P Lss) {A : List Nat} (hA : A.Nodup) (hs : ∀ s ∈ A, ∃ l b, slotIn Lss l b s) : A.length ≤ 4194304 :=
  nodup_bound hA (fun s hs' => by
    obtain ⟨l, b, h1⟩ := hs s hs'
    obtain ⟨_, x, hx, e, _⟩ := (h.at_ _ _ _).1 h1
    have := (h.rng x hx).1
    rw [e] at this
    exact this)
theorem PInv.count (h : PInv now M P Lss) : M.length ≤ 4194304 := by
  have h1 : (M.map (fun x => x.slot)).Nodup := by
    unfold List.Nodup
    rw [List.pairwise_map]
    exact h.ndM.imp_of_mem (fun {a b} ha hb hne e => hne (h.slots a ha b hb e))
  have := nodup_bound (N := 4194304) h1 (fun s hs => by
    obtain ⟨x, hx, rfl⟩ := List.mem_map.1 hs
    exact (h.rng x hx).1)
  rw [List.length_map] at this
  exact this
theorem PInv.moved_le (h : PInv now M P Lss) (hL : Lss[lv]? = some Ls) : (movedK Lss lv ++ flatN Ls n).length ≤ 4194304 :=
  h.bound (h.nodup_moved hL) (fun s hs => by
    rcases List.mem_append.1 hs with hs | hs
    · obtain ⟨l, b, _, h1⟩ := mem_movedK.1 hs
      exact ⟨l, b, h1⟩
    · obtain ⟨b, B, _, h1, h2⟩ := mem_flatN.1 hs
      exact ⟨lv, b, Ls, B, hL, h1, h2⟩)
theorem emptyL_all (h : Ls.length = 256) : emptyL Ls 256 = List.replicate 256 [] := by
  unfold emptyL
  rw [List.drop_of_length_le (by omega), List.append_nil]
theorem flatN_all (h : Ls.length = 256) : flatN Ls 256 = Ls.flatten := by
  unfold flatN
  rw [List.take_of_length_le (by omega)]
theorem clearL_zero : clearL Lss 0 = Lss := rfl
theorem movedK_zero : movedK Lss 0 = [] := rfl
theorem CasMem.setNow (h : CasMem w D p now ws bm bb Ds Dm Db M Lss) (ht : tt < 18446744073709551616) : CasMem (w.setCell ⟨p, 0, none⟩ (.int .u64 tt)) D p tt ws bm bb Ds Dm Db M Lss ∧ Mod (fun k => k = p) w (w.setCell ⟨p, 0, none⟩ (.int .u64 tt)) := by
  have hm : Mod (fun k => k = p) w (w.setCell ⟨p, 0, none⟩ (.int .u64 tt)) := (Mod.refl (fun k => k = p) w).setCell (p := ⟨p, 0, none⟩) (fun _ => rfl) _
  obtain ⟨n1, n2, n3⟩ := h.ne
  refine ⟨⟨⟨?_, h.box.len, ht⟩, h.what.mod hm n2, h.births.mod hm n3, h.len, fun l q Ls hq hl => (h.lev l q Ls hq hl).frame hm (fun k hk e => ?_), h.apart, h.own, h.ne, h.dd⟩, hm⟩
  · rw [heap_setCell_same w p 0 _ _ (.int .u64 tt) h.box.box]
    congr 2
  · have hl8 : l < 8 := by have := (List.getElem?_eq_some_iff.1 hl).1; rw [h.len] at this; exact this
    exact (h.own l k hl8 hk).1 e
theorem info_td : (Tryd.prog.info? 31).map (fun i => (i.zero, i.size, i.bytes)) = some (some (.agg #[.int .u32 0, .int .u64 0, .int .u64 0]), 3, 24) := by kernel_rfl
/-- What is due up to a time, and what is left. -/
def dueL (tt : Nat) (L : List Td) : List Td := L.takeWhile (fun x => decide (x.dl ≤ tt))
def restL (tt : Nat) (L : List Td) : List Td := L.dropWhile (fun x => decide (x.dl ≤ tt))
/-- Advance to a time before, or to the time itself. -/
theorem CasAt.adv_no (h : CasAt w D p now L) (ht : tt ≤ now) : Calls Tryd.prog 16 #[lkP p, .int .u64 tt] w fun e w' => e = .returned (.tuple #[.slice none 0 0, .int .i64 (if tt < now then 3 else 0)]) ∧ w = w' := by
  obtain ⟨ws, bm, bb, Ds, Dm, Db, Lss, h1, h2, h3⟩ := h
  have HCk := Lib.hid (ccheck_ok h1.box (s := 0) (by omega))
  obtain ⟨c0, c9, c10, _, _⟩ := h1.box.cells
  clear h1 h2 h3
  by_cases hlt : tt < now
  · rw [if_pos hlt]
    have hlt' : (tt : Int) < (now : Int) := by omega
    clear hlt
    go_enter Tryd.func16, Tryd.ntmps16
    go_wp2_with (go_at_call 46; refine Calls.mono HCk.out ?_; rintro e w' ⟨rfl, rfl⟩)
    go_ret2
    exact ⟨rfl, rfl⟩
  · have e : tt = now := by omega
    subst e
    rw [if_neg hlt]
    have hlt' : ¬ (tt : Int) < (tt : Int) := by omega
    clear hlt
    go_enter Tryd.func16, Tryd.ntmps16
    go_wp2_with (go_at_call 46; refine Calls.mono HCk.out ?_; rintro e w' ⟨rfl, rfl⟩)
    go_ret2
    exact ⟨rfl, rfl⟩
end
end Go.Proofs.YtlalpenfgkfkpaaDoor

/- cascade: Next. Conditions: the cascade lies in memory, the table too. -/
namespace Go.Proofs.YtlalpenfgkfkpaaDoor
open Go.RowKit
set_option maxRecDepth 100000
def nextD (L : List Td) : Nat := match L with
  | [] => 18446744073709551615
  | x :: _ => x.dl
theorem idx_law {w : World} {A : Array Value} {i q : Nat} (hi : i < 8) (h : A[i]? = some (lkP q)) : (Instr.index 53 (.agg A) (.int .i64 i)).run Tryd.prog w = .ok (lkP q) w := by
  have h0 : (0 : Int) ≤ (i : Int) := by omega
  have h8 : (i : Int) < 8 := by omega
  have e1 := Tryd.underlying53
  have e2 := Tryd.isAgg52 w
  have e3 := Tryd.sizeOf52 w
  simp [Instr.index, run_underlying e1, asIntOf, part, h0, h8, e2, e3, h, go_sem]
  intro c
  omega
theorem fld_law (a b c : Value) (w : World) : (Instr.field 31 (.agg #[a, b, c]) 1).run Tryd.prog w = .ok b w := by kernel_rfl
section
variable {w w' : World} {D : Nat → Prop} {p now tt : Nat} {ws : List Nat} {bm bb : Nat} {Ds : Nat → Nat → Prop} {Dm Db : DataW Unit} {M L : List Td} {Lss : List (List (List Nat))} {P : Nat → Prop}
theorem lvl_lt_dl {a b : Nat} (hn : now < 18446744073709551616) (ha : a < 18446744073709551616) (hb : b < 18446744073709551616) (h2 : now < b) (h : lvl now a < lvl now b) : a < b := by
  obtain ⟨a1, a2, a3⟩ := lvl_spec hn ha
  have hd := lvl_diff hn hb h2
  have := div_pow_mono a2 (show lvl now a + 1 ≤ lvl now b by omega)
  exact lt_of_div (m := 256 ^ lvl now b) (by rw [this]; exact hd)
theorem bkt_lt_dl {a b : Nat} (hn : now < 18446744073709551616) (ha : a < 18446744073709551616) (hb : b < 18446744073709551616) (e : lvl now a = lvl now b) (h : bkt now a < bkt now b) : a < b := by
  obtain ⟨a1, a2, a3⟩ := lvl_spec hn ha
  obtain ⟨b1, b2, b3⟩ := lvl_spec hn hb
  unfold bkt at h
  rw [← e] at h b2
  have e2 : a / 256 ^ (lvl now a + 1) = b / 256 ^ (lvl now a + 1) := a2.trans b2.symm
  rw [Nat.pow_succ, ← Nat.div_div_eq_div_mul, ← Nat.div_div_eq_div_mul] at e2
  exact lt_of_div (m := 256 ^ lvl now a) (by omega)
/-- The head is in the first list that is not empty. -/
theorem head_in (h : PInv now L (fun _ => False) Lss) (hn : now < 18446744073709551616) (hs : L.Pairwise bef) {l b s : Nat} (h1 : slotIn Lss l b s) (h2 : ∀ b' s', b' < b → ¬ slotIn Lss l b' s') (h3 : ∀ l' b' s', l' < l → ¬ slotIn Lss l' b' s') :
    ∃ z L', L = z :: L' ∧ slotIn Lss l b z.slot ∧ ∀ y ∈ L, z.dl ≤ y.dl := by
  obtain ⟨_, x, hx, e1, e2, e3⟩ := (h.at_ _ _ _).1 h1
  cases L with
  | nil => cases hx
  | cons z L' =>
    have hz : ∀ y ∈ z :: L', z.dl ≤ y.dl := fun y hy => by
      rcases List.mem_cons.1 hy with rfl | hy
      · exact Nat.le_refl _
      · have := (List.pairwise_cons.1 hs).1 y hy
        unfold bef at this
        omega
    have hzm : z ∈ z :: L' := List.mem_cons_self
    have hzi : slotIn Lss (lvl now z.dl) (bkt now z.dl) z.slot := (h.at_ _ _ _).2 ⟨(fun c => c), z, hzm, rfl, rfl, rfl⟩
    have hzx := hz x hx
    obtain ⟨r1, r2, r3⟩ := h.rng x hx
    obtain ⟨t1, t2, t3⟩ := h.rng z hzm
    have hza := h.after z hzm (fun c => c)
    have hl : ¬ lvl now z.dl < l := fun c => h3 _ _ _ c hzi
    have hl2 : ¬ l < lvl now z.dl := fun c => by
      rw [← e2] at c
      have := lvl_lt_dl hn (a := x.dl) (b := z.dl) (by omega) (by omega) hza c
      omega
    have el : lvl now z.dl = l := by omega
    rw [el] at hzi
    have hb : ¬ bkt now z.dl < b := fun c => h2 _ _ c hzi
    have hb2 : ¬ b < bkt now z.dl := fun c => by
      rw [← e3] at c
      have := bkt_lt_dl hn (a := x.dl) (b := z.dl) (by omega) (by omega) (by omega) c
      omega
    have eb : bkt now z.dl = b := by omega
    rw [eb] at hzi
    exact ⟨z, L', rfl, hzi, hz⟩
theorem eight {ws : List Nat} (h : ws.length = 8) : ∃ a b c d e f g i, ws = [a, b, c, d, e, f, g, i] := by
  match ws, h with
  | [a, b, c, d, e, f, g, i], _ => exact ⟨a, b, c, d, e, f, g, i, rfl⟩
set_option maxHeartbeats 2000000 in
theorem CasAt.next (h : CasAt w D p now L) (hT : TabW w) : Calls Tryd.prog 27 #[lkP p] w fun e w' => e = .returned (.int .u64 (nextD L)) ∧ Pure w w' := by
  obtain ⟨ws, bm, bb, Ds, Dm, Db, Lss, h1, h2, h3⟩ := h
  have hnow := h1.box.now
  have HCk := Lib.hid (ccheck_ok h1.box (s := 0) (by omega))
  obtain ⟨c0, c9, c10, cf, cl⟩ := h1.box.cells
  have hlen := h1.box.len
  obtain ⟨q0, q1, q2, q3, q4, q5, q6, q7, hq⟩ := eight hlen
  have hcl := fun (l q : Nat) (hq : ws[l]? = some q) => h1.box.level hq
  have z0 := hcl 0 q0 (by rw [hq]; rfl)
  have z1 := hcl 1 q1 (by rw [hq]; rfl)
  have z2 := hcl 2 q2 (by rw [hq]; rfl)
  have z3 := hcl 3 q3 (by rw [hq]; rfl)
  have z4 := hcl 4 q4 (by rw [hq]; rfl)
  have z5 := hcl 5 q5 (by rw [hq]; rfl)
  have z6 := hcl 6 q6 (by rw [hq]; rfl)
  have z7 := hcl 7 q7 (by rw [hq]; rfl)
  simp only [Nat.reduceAdd] at z0 z1 z2 z3 z4 z5 z6 z7
  have HQ := Lib.hid hq
  have HC := Lib.hid h1; have HI := Lib.hid h2; have HS := Lib.hid h3; have HT := Lib.hid hT; have HLEN := Lib.hid hlen
  clear h1 h2 h3 hcl hq hT hlen
  go_enter Tryd.func27, Tryd.ntmps27
  go_upto_region 5 with (go_at_call 46; refine Calls.mono HCk.out ?_; rintro e w' ⟨rfl, rfl⟩)
  have hA : ∀ i q : Nat, ws[i]? = some q → (#[lkP q0, lkP q1, lkP q2, lkP q3, lkP q4, lkP q5, lkP q6, lkP q7] : Array Value)[i]? = some (lkP q) := fun i q h => by
    rw [HQ.out] at h
    have : (#[lkP q0, lkP q1, lkP q2, lkP q3, lkP q4, lkP q5, lkP q6, lkP q7] : Array Value) = ([q0, q1, q2, q3, q4, q5, q6, q7].map lkP).toArray := rfl
    rw [this, List.getElem?_toArray, List.getElem?_map, h]
    rfl
  have hAs : (#[lkP q0, lkP q1, lkP q2, lkP q3, lkP q4, lkP q5, lkP q6, lkP q7] : Array Value).size = 8 := rfl
  clear z0 z1 z2 z3 z4 z5 z6 z7
  generalize (#[lkP q0, lkP q1, lkP q2, lkP q3, lkP q4, lkP q5, lkP q6, lkP q7] : Array Value) = A at *
  have HA := Lib.hid hA
  clear hA
  go_loopw [3, 20] (fun v3 v20 wr => ∃ i : Nat, v3 = .int .u64 18446744073709551615 ∧ v20 = .int .i64 (i : Nat) ∧ i ≤ 8 ∧ Pure w wr ∧ ∀ l b s, l < i → ¬ slotIn Lss l b s) (fun _ v20 _ => 8 - (intOf v20).toNat)
  case atStart => exact ⟨0, rfl, rfl, Nat.zero_le _, Mod.refl _ _, fun l b s h => by omega⟩
  case round =>
    obtain ⟨i, rfl, rfl, hi8, hpu, hem⟩ := hrel
    have HPU := Lib.hid hpu; have HEM := Lib.hid hem
    by_cases hlt : i < 8
    · have hlt' : (i : Int) < 8 := by omega
      have i0 : (0 : Int) ≤ (i : Int) := by omega
      have wi : IntKind.i64.wrap ((i : Int) + 1) = (i : Int) + 1 := IntWalk.i64_in _ (by omega)
      have dl8 : decide (i < 8) = true := decide_eq_true hlt
      obtain ⟨q, hq⟩ : ∃ q, ws[i]? = some q := ⟨_, List.getElem?_eq_getElem (by rw [HLEN.out]; exact hlt)⟩
      have hAi := HA.out i q hq
      have hAi2 := idx_law (w := wr) hlt hAi
      obtain ⟨Ls, hLs⟩ : ∃ Ls, Lss[i]? = some Ls := ⟨_, List.getElem?_eq_getElem (by rw [HI.out.len]; exact hlt)⟩
      have hWh := (HC.out.pure hpu).lev i q Ls hq hLs
      have hNx := wnext_ok hWh (HT.out.pure hpu)
      obtain ⟨b, er, hne, hnc⟩ := nextE_cases (neB Ls)
      rw [hne] at hNx
      have HNx := Lib.hid hNx; have HNC := Lib.hid hnc; have HWh := Lib.hid hWh; have HLs := Lib.hid hLs
      clear hpu hem hq hNx hne hnc hWh hLs
      rcases HNC.out with ⟨hf, rfl⟩ | ⟨hf, rfl, rfl⟩
      · obtain ⟨f1, f2, f3⟩ := firstB_spec hf
        obtain ⟨l, hl⟩ : ∃ l, Ls[b]? = some l := ⟨_, List.getElem?_eq_getElem (by rw [HWh.out.len]; exact f1)⟩
        have hne : l ≠ [] := fun e => by
          unfold neB at f2
          rw [hl, e] at f2
          cases f2
        obtain ⟨s0, hs0⟩ := List.exists_mem_of_ne_nil l hne
        obtain ⟨z, L', hLz, hzi, hzm⟩ := head_in HI.out hnow HS.out (l := i) (b := b) (s := s0) ⟨Ls, l, HLs.out, hl, hs0⟩ (fun b' s' hb' hsl => by
            obtain ⟨A1, B1, g1, g2, g3⟩ := hsl
            rw [HLs.out] at g1
            cases g1
            have := f3 b' hb'
            unfold neB at this
            rw [g2] at this
            cases B1 with
            | nil => cases g3
            | cons y B1 => simp at this) HEM.out
        have hzl : z.slot ∈ l := by
          obtain ⟨A1, B1, g1, g2, g3⟩ := hzi
          rw [HLs.out] at g1; cases g1
          rw [hl] at g2; cases g2
          exact g3
        have hsl : ∀ s ∈ l, ∃ x ∈ L, x.slot = s := fun s hs => by
          obtain ⟨_, x, hx, e, _⟩ := (HI.out.at_ i b s).1 ⟨Ls, l, HLs.out, hl, hs⟩
          exact ⟨x, hx, e⟩
        have HZM2 := Lib.hid (show z ∈ L by rw [hLz]; exact List.mem_cons_self)
        have hnd : nextD L = z.dl := by rw [hLz]; rfl
        have hzr := HI.out.rng z (by rw [hLz]; exact List.mem_cons_self)
        have hll := (HWh.out.small hl).1
        have hLi := wlist_ok HWh.out hl
        obtain ⟨n, hn⟩ : ∃ n, l.length = n := ⟨_, rfl⟩
        rw [hn] at hLi hll
        have HLi := Lib.hid hLi; have HN := Lib.hid hn; have HZL := Lib.hid hzl; have HZM := Lib.hid hzm; have HSL := Lib.hid hsl; have HND := Lib.hid hnd; have HZR := Lib.hid hzr
        clear hf f1 f2 f3 hl hne hs0 hLz hzi hLi hn hzl hzm hsl hnd hzr HNC
        go_upto_region 11 with (first
          | (go_at_call 64; refine Calls.mono HNx.out ?_; rintro e w' ⟨rfl, rfl⟩)
          | (go_at_call 65; refine Calls.mono HLi.out ?_; rintro e w2 ⟨a, c, rfl, hr2, hf2, hp2⟩))
        have HR2 := Lib.hid hr2; have HP2 := Lib.hid (HPU.out.trans hp2)
        clear hr2 hf2 hp2
        go_loopw [3, 38] (fun v3 v38 wq => ∃ j m : Nat, v3 = .int .u64 (m : Nat) ∧ v38 = .int .i64 (j : Nat) ∧ j ≤ n ∧ z.dl ≤ m ∧ m ≤ 18446744073709551615 ∧ (z.slot ∈ l.take j → m = z.dl) ∧ Pure w wq ∧ NumRow wq a c l) (fun _ v38 _ => n - (intOf v38).toNat)
        case atStart => exact ⟨0, 18446744073709551615, rfl, rfl, Nat.zero_le _, by have := HZR.out.2.1; omega, Nat.le_refl _, (fun h => by simp at h), HP2.out, HR2.out⟩
        case round =>
          obtain ⟨j, m, rfl, rfl, hjn, hzm, hm64, hmz, hpq, hrq⟩ := hrel
          have HPQ := Lib.hid hpq; have HRQ := Lib.hid hrq
          by_cases hltj : j < n
          · have hlt2 : (j : Int) < (n : Int) := by omega
            have j0 : (0 : Int) ≤ (j : Int) := by omega
            have wj : IntKind.i64.wrap ((j : Int) + 1) = (j : Int) + 1 := IntWalk.i64_in _ (by omega)
            obtain ⟨s, hs⟩ : ∃ s, l[j]? = some s := ⟨_, List.getElem?_eq_getElem (by rw [HN.out]; exact hltj)⟩
            obtain ⟨x, hx, rfl⟩ := HSL.out s (List.mem_of_getElem? hs)
            obtain ⟨ad, had, y0⟩ := read_num (num_read hrq) hs
            obtain ⟨r1, r2, r3, r4⟩ := HI.out.rng x hx
            have hCq := HC.out.pure hpq
            have hlk := hCq.what.look1 hx (by omega)
            unfold tdV at hlk
            obtain ⟨c0', c9', c10', cf', cl'⟩ := hCq.box.cells
            have hzx := HZM.out x hx
            have htk : l.take (j + 1) = l.take j ++ [x.slot] := by rw [List.take_add_one, hs]; rfl
            have hxz : x.slot = z.slot → x.dl = z.dl := fun e => by
              rw [HI.out.slots x hx z HZM2.out e]
            have HPX := Lib.hid hxz; have HTK := Lib.hid htk
            subst had
            clear hs hx hxz htk hCq hpq hrq
            have hfl := fld_law (.int .u32 x.slot) (.int .u64 x.dl) (.int .u64 x.birth) wr
            go_wp2
            refine ⟨⟨j + 1, min m x.dl, ?_, by go_num, hltj, by omega, by omega, fun hz => ?_, HPQ.out, HRQ.out⟩, ?_⟩
            · rw [show ((min m x.dl : Nat) : Int) = min (m : Int) (x.dl : Int) by omega]
            · rw [HTK.out] at hz
              rcases List.mem_append.1 hz with hz | hz
              · have := hmz hz; omega
              · rw [List.mem_singleton] at hz
                have := HPX.out hz.symm
                omega
            · simp [intOf]; omega
          · have e : j = n := by omega
            subst e
            have hm : m = z.dl := hmz (by rw [List.take_of_length_le (by rw [HN.out]; exact Nat.le_refl _)]; exact HZL.out)
            have HM := Lib.hid hm
            clear hpq hrq hm hmz hzm
            go_wp2
            go_ret
            exact ⟨by rw [HND.out, HM.out]; rfl, HPQ.out⟩
      · have hz := firstB_spec0 hf
        have hz2 : ∀ b s, ¬ slotIn Lss i b s := fun b s hsl => by
          obtain ⟨A1, B1, g1, g2, g3⟩ := hsl
          rw [HLs.out] at g1
          cases g1
          have hb : b < 256 := by have := (List.getElem?_eq_some_iff.1 g2).1; rw [HWh.out.len] at this; exact this
          have := hz b hb
          unfold neB at this
          rw [g2] at this
          cases B1 with
          | nil => cases g3
          | cons y B1 => simp at this
        have HZ2 := Lib.hid hz2
        clear hf hz hz2 HNC
        go_wp2_with (go_at_call 64; refine Calls.mono HNx.out ?_; rintro e w' ⟨rfl, rfl⟩)
        go_roundw
        case rel => exact ⟨i + 1, rfl, by go_num, hlt, HPU.out, fun l b s hl => by
          rcases Nat.lt_or_ge l i with h | h
          · exact HEM.out l b s h
          · have : l = i := by omega
            subst this
            exact HZ2.out b s⟩
        case measure => simp [intOf]; omega
    · have e : i = 8 := by omega
      subst e
      have hL0 : L = [] := by
        cases hL : L with
        | nil => rfl
        | cons z L' =>
          exfalso
          have hzm : z ∈ L := by rw [hL]; exact List.mem_cons_self
          have hr := HI.out.rng z hzm
          have hz := (HI.out.at_ (lvl now z.dl) (bkt now z.dl) z.slot).2 ⟨(fun c => c), z, hzm, rfl, rfl, rfl⟩
          exact HEM.out _ _ _ (lvl_spec hnow (dl := z.dl) (by omega)).1 hz
      have hnd : nextD L = 18446744073709551615 := by rw [hL0]; rfl
      have HN0 := Lib.hid hnd
      clear hpu hem hL0 hnd
      go_wp2
      go_ret
      exact ⟨by rw [HN0.out]; rfl, HPU.out⟩
end
end Go.Proofs.YtlalpenfgkfkpaaDoor
