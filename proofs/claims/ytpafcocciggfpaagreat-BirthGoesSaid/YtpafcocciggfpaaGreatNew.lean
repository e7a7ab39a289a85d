/- swiss.New, swiss.Index.Copy. -/
import Derived.Test.YtpafcocciggfpaaGreatIns
import Derived.OwnWalk
namespace Go.Proofs.YtpafcocciggfpaaGreat
open Go.RowKit Go.Shelf
set_option maxRecDepth 100000

def blankG : Grp := ([128, 128, 128, 128, 128, 128, 128, 128], [0, 0, 0, 0, 0, 0, 0, 0])
def zeroG : Grp := ([0, 0, 0, 0, 0, 0, 0, 0], [0, 0, 0, 0, 0, 0, 0, 0])
def newG (g : Nat) : List Grp := List.replicate g blankG
theorem blankG_ok : GrpOk blankG := ⟨⟨rfl, by decide⟩, rfl, by decide⟩
theorem newG_length (g : Nat) : (newG g).length = g := List.length_replicate
theorem newG_ok {g : Nat} (hg : Pow g) : IxOk (newG g) := ⟨by rw [newG_length]; exact hg, fun c hc => by rw [(List.mem_replicate.1 hc).2]; exact blankG_ok⟩
theorem newG_used (g : Nat) : usedN (newG g) = 0 := by
  unfold usedN newG
  rw [List.map_replicate, show blankG.1.countP (· < 128) = 0 from by decide]
  simp
theorem newG_tomb (g : Nat) : tombN (newG g) = 0 := by
  unfold tombN newG
  rw [List.map_replicate, show blankG.1.countP (· == 254) = 0 from by decide]
  simp
/-- The groups while they are made: i of them are blank. -/
def midG (g i : Nat) : List Grp := List.replicate i blankG ++ List.replicate (g - i) zeroG
theorem midG_length {g i : Nat} (h : i ≤ g) : (midG g i).length = g := by unfold midG; simp; omega
theorem midG_last (g : Nat) : midG g g = newG g := by unfold midG newG; simp
theorem made_zero (g : Nat) : (madeCells #[.int .u64 0, .int .u32 0, .int .u32 0, .int .u32 0, .int .u32 0, .int .u32 0, .int .u32 0, .int .u32 0, .int .u32 0] (g * 9)).toList = (midG g 0).flatMap groupCells := by
  have e : groupCells zeroG = [.int .u64 0, .int .u32 0, .int .u32 0, .int .u32 0, .int .u32 0, .int .u32 0, .int .u32 0, .int .u32 0, .int .u32 0] := rfl
  unfold madeCells midG
  simp only [List.replicate_zero, List.nil_append, Nat.sub_zero]
  apply List.ext_getElem?
  intro k
  by_cases hk : k < g * 9
  · have h1 := flat_get groupCells 9 groupCells_length (k % 9) (by omega) (List.replicate g zeroG) (k / 9)
    rw [show k / 9 * 9 + k % 9 = k by omega] at h1
    have h2 : (List.replicate g zeroG)[k / 9]? = some zeroG := by rw [List.getElem?_replicate, if_pos (by omega)]
    rw [h2] at h1
    rw [h1]
    show _ = (groupCells zeroG)[k % 9]?
    rw [e]
    rw [List.getElem?_eq_getElem (by simpa using hk)]
    simp
    have : k % 9 < 9 := Nat.mod_lt _ (by decide)
    generalize k % 9 = r at *
    have : r = 0 ∨ r = 1 ∨ r = 2 ∨ r = 3 ∨ r = 4 ∨ r = 5 ∨ r = 6 ∨ r = 7 ∨ r = 8 := by omega
    rcases this with rfl | rfl | rfl | rfl | rfl | rfl | rfl | rfl | rfl <;> rfl
  · rw [List.getElem?_eq_none (by simpa using hk), List.getElem?_eq_none]
    have : ∀ r ∈ (List.replicate g zeroG), (groupCells r).length = 9 := fun r _ => groupCells_length r
    rw [List.length_flatMap, List.map_congr_left this]
    simp
    omega
theorem mid_step {g i : Nat} (h : i < g) : ((midG g i).flatMap groupCells).set (i * 9) (.int .u64 (word8 [128, 128, 128, 128, 128, 128, 128, 128])) = (midG g (i + 1)).flatMap groupCells := by
  have e1 : midG g i = List.replicate i blankG ++ zeroG :: List.replicate (g - (i + 1)) zeroG := by
    unfold midG
    rw [show g - i = g - (i + 1) + 1 by omega, List.replicate_succ]
  have e2 : midG g (i + 1) = List.replicate i blankG ++ blankG :: List.replicate (g - (i + 1)) zeroG := by
    unfold midG
    rw [List.replicate_succ', List.append_assoc]; rfl
  rw [e1, e2, List.flatMap_append, List.flatMap_append, List.flatMap_cons, List.flatMap_cons]
  have hl : ((List.replicate i blankG).flatMap groupCells).length = i * 9 := by
    rw [List.length_flatMap, List.map_congr_left (fun r _ => groupCells_length r)]
    simp
  rw [List.set_append_right _ _ (by omega), hl, Nat.sub_self]
  rfl

theorem infoGroup : (Tryz.prog.info? 190).map (fun i => (i.zero, i.size, i.bytes)) = some (some (.agg #[.int .u64 0, .int .u32 0, .int .u32 0, .int .u32 0, .int .u32 0, .int .u32 0, .int .u32 0, .int .u32 0, .int .u32 0]), 9, 40) := by kernel_rfl
/-- What New gives. -/
def newPost (w : World) (g : Nat) (e : Ending) (w' : World) : Prop :=
  ∃ p sv, e = .returned (.tuple #[.pointer (some ⟨p, 0, none⟩), .int .i64 0]) ∧ IxRow w' (fun k => k = p ∨ sv.ownBlock = some k) p sv (newG g) ∧ Pure w w' ∧ w.heap.size ≤ p ∧ ∀ k, sv.ownBlock = some k → w.heap.size ≤ k
structure NewInv (w : World) (g p i : Nat) (W : World) : Prop where
  pu : Pure w W
  box : W.heap[p]? = some (.cells #[.slice (some ⟨w.heap.size, 0, none⟩) g g, .int .i64 0, .int .i64 0] 187 (0, 0))
  row : W.ownsRow 0 190 9 (.slice (some ⟨w.heap.size, 0, none⟩) g g) g ((midG g i).flatMap groupCells)
  wp : w.heap.size ≤ p
theorem NewInv.step {w : World} {g p i : Nat} {W W' W'' : World} (h : NewInv w g p i W) (hi : i < g) (hp : p ≠ w.heap.size) (hW : Pure W W') (e : W'.setCell ⟨w.heap.size, i * 9, none⟩ (.int .u64 (word8 [128, 128, 128, 128, 128, 128, 128, 128] : Nat)) = W'') : NewInv w g p (i + 1) W'' := by
  subst e
  have hm : Mod (fun k => k = w.heap.size) W' (W'.setCell ⟨w.heap.size, i * 9, none⟩ (.int .u64 (word8 [128, 128, 128, 128, 128, 128, 128, 128] : Nat))) := Mod.set1 _ _ _
  refine ⟨(h.pu.trans hW).then hm (fun k hk e => by omega), hm.heap hp (hW.heap (fun h => h) h.box), ?_, h.wp⟩
  have := owns_setCell (owns_mod h.row hW (fun _ _ h => h)) (i * 9) (.int .u64 (word8 [128, 128, 128, 128, 128, 128, 128, 128] : Nat)) (by omega)
  rwa [mid_step hi] at this
set_option maxHeartbeats 1000000 in
theorem New_ok (g : Nat) (w : World) (hg : Pow g) : Calls Tryz.prog 62 #[.int .i64 g] w (newPost w g) := by
  have hg0 := hg.pos
  have hg1 := hg.le
  have HV := Lib.hid (fun W => PValid_ok g W hg)
  have HB := Lib.hid (fun W => Blank_ok W)
  obtain ⟨i0, hi, hz0, hz1, hz2⟩ := info_parts infoGroup
  go_enter Tryz.func62, Tryz.ntmps62
  go_upto_region 3 with (go_at_call 124; refine Calls.mono (HV.out _) ?_; rintro e w' ⟨rfl, rfl⟩)
  go_upto_region 4 with (at_make; refine wpList_make_full _ rfl _ _ 185 rfl 0 190 i0 _ 9 Tryz.underlying185 hi hz0 hz1 .i64 .i64 _ _ g rfl rfl rfl rfl (by rw [hz2]; omega) (by unfold maxLen; omega) (Nat.zero_le _) ?_; intro w1 hown hgrow)
  have hpw : Pure w (w1.alloc (.cells #[.slice (some ⟨w.heap.size, 0, none⟩) g g, .int .i64 0, .int .i64 0] 187)) := (Mod.of_grown hgrow (fun k e _ => by cases e)).alloc _
  have hown2 := owns_mod hown ((Mod.refl (fun _ => False) w1).alloc (.cells #[.slice (some ⟨w.heap.size, 0, none⟩) g g, .int .i64 0, .int .i64 0] 187)) (fun _ _ h => h)
  have hbox : (w1.alloc (.cells #[.slice (some ⟨w.heap.size, 0, none⟩) g g, .int .i64 0, .int .i64 0] 187)).heap[w1.heap.size]? = some (.cells #[.slice (some ⟨w.heap.size, 0, none⟩) g g, .int .i64 0, .int .i64 0] 187 (0, 0)) := heap_new rfl
  have hw1 : w.heap.size < w1.heap.size := by
    obtain ⟨B', c', hsv, _, hB', _⟩ := owns_at hown hg0
    cases hsv
    exact hB'
  rw [show (Value.agg #[.int .u64 0, .int .u32 0, .int .u32 0, .int .u32 0, .int .u32 0, .int .u32 0, .int .u32 0, .int .u32 0, .int .u32 0]).cells = #[.int .u64 0, .int .u32 0, .int .u32 0, .int .u32 0, .int .u32 0, .int .u32 0, .int .u32 0, .int .u32 0, .int .u32 0] from rfl, made_zero] at hown2
  clear hown hgrow hi hz0 hz1 hz2
  generalize w1.alloc (.cells #[.slice (some ⟨w.heap.size, 0, none⟩) g g, .int .i64 0, .int .i64 0] 187) = W2 at *
  have hwp : w.heap.size ≤ w1.heap.size := Nat.le_of_lt hw1
  generalize w1.heap.size = p at *
  have zp := hbox
  have HPW := Lib.hid hpw; have HO := Lib.hid hown2; have HX := Lib.hid hbox
  clear hpw hown2 hbox
  have wg : IntKind.i64.wrap (g : Int) = g := IntWalk.i64_in _ (by omega)
  have zp_0 := cell_of_row _ _ 0 _ _ _ zp; have zp_1 := cell_of_row _ _ 1 _ _ _ zp; have zp_2 := cell_of_row _ _ 2 _ _ _ zp; have zp_f := (fun j => frozen_of_row _ _ j _ _ zp); have zp_l := lt_of_block zp; simp at zp_0 zp_1 zp_2; have H_zp := Lib.hid zp; clear zp
  go_upto_region 5 with fail
  go_loopw [18] (fun k wr => ∃ i, k = .int .i64 (i : Nat) ∧ i ≤ g ∧ NewInv w g p i wr) (fun k _ => g - (intOf k).toNat)
  case atStart => exact ⟨0, rfl, Nat.zero_le _, HPW.out, HX.out, HO.out, hwp⟩
  case round =>
    obtain ⟨i, rfl, hi, hinv⟩ := hrel
    have zp := hinv.box
    have HI := Lib.hid hinv
    clear zp_0 zp_1 zp_2 zp_f zp_l
    clear H_zp hinv
    have zp_0 := cell_of_row _ _ 0 _ _ _ zp; have zp_1 := cell_of_row _ _ 1 _ _ _ zp; have zp_2 := cell_of_row _ _ 2 _ _ _ zp; have zp_f := (fun j => frozen_of_row _ _ j _ _ zp); have zp_l := lt_of_block zp; simp at zp_0 zp_1 zp_2; have H_zp := Lib.hid zp; clear zp
    by_cases hlt : i < g
    · have hlt' : (i : Int) < (g : Int) := by omega
      have hl : (midG g i).length = g := midG_length hi
      obtain ⟨B', c', hsv, _, hB', hcc, hf', _⟩ := owns_at HI.out.row hg0
      cases hsv
      have zg0 : ∃ u, wr.cell? ⟨w.heap.size, i * 9, none⟩ = some u := by
        have h1 := HI.out.row.1
        exact ⟨_, hcc (i * 9) _ (List.getElem?_eq_getElem (by rw [h1]; omega))⟩
      obtain ⟨u0, zg⟩ := zg0
      have HS := Lib.hid (mid_step hlt)
      clear hcc
      go_upto_region 7 with fail
      go_region_law ((go_simp; go_at_call 125; refine Calls.mono (HB.out _) ?_; rintro e w' ⟨rfl, rfl⟩))
      all_goals
        have hst := HI.out.step hlt (by omega) (Mod.refl (fun _ => False) wr).drew rfl
        have HST := Lib.hid hst
        clear hst
        go_wp2
        go_roundw
        case rel => exact ⟨i + 1, by go_num, by omega, HST.out⟩
        case measure => simp [intOf]; omega
    · have hlt' : (g : Int) ≤ (i : Int) := by omega
      have e : i = g := by omega
      subst e
      go_wp2
      exact bodyPost_ret (v := .tuple #[.pointer (some ⟨p, 0, none⟩), .int .i64 0]) (by simp [results, Tryz.results62, go_sem]) rfl
        ⟨p, .slice (some ⟨w.heap.size, 0, none⟩) i i, rfl, ⟨by rw [newG_used, newG_tomb]; exact HI.out.box, by rw [newG_length, ← midG_last]; exact HI.out.row, fun k => Iff.rfl, newG_ok hg⟩, HI.out.pu, HI.out.wp, fun k hk => by simp [Value.ownBlock] at hk; omega⟩
end Go.Proofs.YtpafcocciggfpaaGreat
