/- Lemmas and contracts of functions, strung together out of 6 texts. No condition. -/
import Derived.Test.YtapplindfijngaaJPfDictHolds8
import Derived.OwnWalk
import Derived.Deep.RegionHeld3
/- swiss.New, swiss.Index.Copy. -/
namespace Go.Proofs.Ytapplindfijngaa
open Go.RowKit Go.Shelf
set_option maxRecDepth 100000

def blankG : Grp := ([128, 128, 128, 128, 128, 128, 128, 128], [0, 0, 0, 0, 0, 0, 0, 0])
def zeroG : Grp := ([0, 0, 0, 0, 0, 0, 0, 0], [0, 0, 0, 0, 0, 0, 0, 0])
def newG (g : Nat) : List Grp := List.replicate g blankG
theorem blankG_ok : GrpOk blankG := ⟨⟨rfl, by decide⟩, rfl, by decide⟩
theorem newG_length (g : Nat) : (newG g).length = g := List.length_replicate
theorem newG_ok {g : Nat} (hg : Pow g) : IxOk (newG g) := ⟨by rw [newG_length]; exact hg, fun c hc => by rw [(List.mem_replicate.1 hc).2]; exact blankG_ok⟩
theorem newG_used (g : Nat) : usedN (newG g) = 0 := by
  unfold usedN newG
  rw [List.map_replicate, show blankG.1.countP (· < 128) = 0 from by decide]
  simp
theorem newG_tomb (g : Nat) : tombN (newG g) = 0 := by
  unfold tombN newG
  rw [List.map_replicate, show blankG.1.countP (· == 254) = 0 from by decide]
  simp
/-- The groups while they are made: i of them are blank. -/
def midG (g i : Nat) : List Grp := List.replicate i blankG ++ List.replicate (g - i) zeroG
theorem midG_length {g i : Nat} (h : i ≤ g) : (midG g i).length = g := by unfold midG; simp; omega
theorem midG_last (g : Nat) : midG g g = newG g := by unfold midG newG; simp
theorem made_zero (g : Nat) : (madeCells #[.int .u64 0, .int .u32 0, .int .u32 0, .int .u32 0, .int .u32 0, .int .u32 0, .int .u32 0, .int .u32 0, .int .u32 0] (g * 9)).toList = (midG g 0).flatMap groupCells := by
  have e : groupCells zeroG = [.int .u64 0, .int .u32 0, .int .u32 0, .int .u32 0, .int .u32 0, .int .u32 0, .int .u32 0, .int .u32 0, .int .u32 0] := rfl
  unfold madeCells midG
  simp only [List.replicate_zero, List.nil_append, Nat.sub_zero]
  apply List.ext_getElem?
  intro k
  by_cases hk : k < g * 9
  · have h1 := flat_get groupCells 9 groupCells_length (k % 9) (by omega) (List.replicate g zeroG) (k / 9)
    rw [show k / 9 * 9 + k % 9 = k by omega] at h1
    have h2 : (List.replicate g zeroG)[k / 9]? = some zeroG := by rw [List.getElem?_replicate, if_pos (by omega)]
    rw [h2] at h1
    rw [h1]
    show _ = (groupCells zeroG)[k % 9]?
    rw [e]
    rw [List.getElem?_eq_getElem (by simpa using hk)]
    simp
    have : k % 9 < 9 := Nat.mod_lt _ (by decide)
    generalize k % 9 = r at *
    have : r = 0 ∨ r = 1 ∨ r = 2 ∨ r = 3 ∨ r = 4 ∨ r = 5 ∨ r = 6 ∨ r = 7 ∨ r = 8 := by omega
    rcases this with rfl | rfl | rfl | rfl | rfl | rfl | rfl | rfl | rfl <;> rfl
  · rw [List.getElem?_eq_none (by simpa using hk), List.getElem?_eq_none]
    have : ∀ r ∈ (List.replicate g zeroG), (groupCells r).length = 9 := fun r _ => groupCells_length r
    rw [List.length_flatMap, List.map_congr_left this]
    simp
    omega
theorem mid_step {g i : Nat} (h : i < g) : ((midG g i).flatMap groupCells).set (i * 9) (.int .u64 (word8 [128, 128, 128, 128, 128, 128, 128, 128])) = (midG g (i + 1)).flatMap groupCells := by
  have e1 : midG g i = List.replicate i blankG ++ zeroG :: List.replicate (g - (i + 1)) zeroG := by
    unfold midG
    rw [show g - i = g - (i + 1) + 1 by omega, List.replicate_succ]
  have e2 : midG g (i + 1) = List.replicate i blankG ++ blankG :: List.replicate (g - (i + 1)) zeroG := by
    unfold midG
    rw [List.replicate_succ', List.append_assoc]; rfl
  rw [e1, e2, List.flatMap_append, List.flatMap_append, List.flatMap_cons, List.flatMap_cons]
  have hl : ((List.replicate i blankG).flatMap groupCells).length = i * 9 := by
    rw [List.length_flatMap, List.map_congr_left (fun r _ => groupCells_length r)]
    simp
  rw [List.set_append_right _ _ (by omega), hl, Nat.sub_self]
  rfl

theorem infoGroup : (Try.prog.info? 89).map (fun i => (i.zero, i.size, i.bytes)) = some (some (.agg #[.int .u64 0, .int .u32 0, .int .u32 0, .int .u32 0, .int .u32 0, .int .u32 0, .int .u32 0, .int .u32 0, .int .u32 0]), 9, 40) := by kernel_rfl
/-- What New gives. -/
def newPost (w : World) (g : Nat) (e : Ending) (w' : World) : Prop :=
  ∃ p sv, e = .returned (.tuple #[.pointer (some ⟨p, 0, none⟩), .int .i64 0]) ∧ IxRow w' (fun k => k = p ∨ sv.ownBlock = some k) p sv (newG g) ∧ Pure w w' ∧ w.heap.size ≤ p ∧ ∀ k, sv.ownBlock = some k → w.heap.size ≤ k
structure NewInv (w : World) (g p i : Nat) (W : World) : Prop where
  pu : Pure w W
  box : W.heap[p]? = some (.cells #[.slice (some ⟨w.heap.size, 0, none⟩) g g, .int .i64 0, .int .i64 0] 85 (0, 0))
  row : W.ownsRow 0 89 9 (.slice (some ⟨w.heap.size, 0, none⟩) g g) g ((midG g i).flatMap groupCells)
  wp : w.heap.size ≤ p
theorem NewInv.step {w : World} {g p i : Nat} {W W' W'' : World} (h : NewInv w g p i W) (hi : i < g) (hp : p ≠ w.heap.size) (hW : Pure W W') (e : W'.setCell ⟨w.heap.size, i * 9, none⟩ (.int .u64 (word8 [128, 128, 128, 128, 128, 128, 128, 128] : Nat)) = W'') : NewInv w g p (i + 1) W'' := by
  subst e
  have hm : Mod (fun k => k = w.heap.size) W' (W'.setCell ⟨w.heap.size, i * 9, none⟩ (.int .u64 (word8 [128, 128, 128, 128, 128, 128, 128, 128] : Nat))) := Mod.set1 _ _ _
  refine ⟨(h.pu.trans hW).then hm (fun k hk e => by omega), hm.heap hp (hW.heap (fun h => h) h.box), ?_, h.wp⟩
  have := owns_setCell (owns_mod h.row hW (fun _ _ h => h)) (i * 9) (.int .u64 (word8 [128, 128, 128, 128, 128, 128, 128, 128] : Nat)) (by omega)
  rwa [mid_step hi] at this
set_option maxHeartbeats 1000000 in
theorem New_ok (g : Nat) (w : World) (hg : Pow g) : Calls Try.prog 19 #[.int .i64 g] w (newPost w g) := by
  have hg0 := hg.pos
  have hg1 := hg.le
  have HV := Lib.hid (fun W => PValid_ok g W hg)
  have HB := Lib.hid (fun W => Blank_ok W)
  obtain ⟨i0, hi, hz0, hz1, hz2⟩ := info_parts infoGroup
  go_enter Try.func19, Try.ntmps19
  go_upto_region 3 with (go_at_call 44; refine Calls.mono (HV.out _) ?_; rintro e w' ⟨rfl, rfl⟩)
  go_upto_region 4 with (at_make; refine wpList_make_full _ rfl _ _ 83 rfl 0 89 i0 _ 9 Try.underlying83 hi hz0 hz1 .i64 .i64 _ _ g rfl rfl rfl rfl (by rw [hz2]; omega) (by unfold maxLen; omega) (Nat.zero_le _) ?_; intro w1 hown hgrow)
  have hpw : Pure w (w1.alloc (.cells #[.slice (some ⟨w.heap.size, 0, none⟩) g g, .int .i64 0, .int .i64 0] 85)) := (Mod.of_grown hgrow (fun k e _ => by cases e)).alloc _
  have hown2 := owns_mod hown ((Mod.refl (fun _ => False) w1).alloc (.cells #[.slice (some ⟨w.heap.size, 0, none⟩) g g, .int .i64 0, .int .i64 0] 85)) (fun _ _ h => h)
  have hbox : (w1.alloc (.cells #[.slice (some ⟨w.heap.size, 0, none⟩) g g, .int .i64 0, .int .i64 0] 85)).heap[w1.heap.size]? = some (.cells #[.slice (some ⟨w.heap.size, 0, none⟩) g g, .int .i64 0, .int .i64 0] 85 (0, 0)) := heap_new rfl
  have hw1 : w.heap.size < w1.heap.size := by
    obtain ⟨B', c', hsv, _, hB', _⟩ := owns_at hown hg0
    cases hsv
    exact hB'
  rw [show (Value.agg #[.int .u64 0, .int .u32 0, .int .u32 0, .int .u32 0, .int .u32 0, .int .u32 0, .int .u32 0, .int .u32 0, .int .u32 0]).cells = #[.int .u64 0, .int .u32 0, .int .u32 0, .int .u32 0, .int .u32 0, .int .u32 0, .int .u32 0, .int .u32 0, .int .u32 0] from rfl, made_zero] at hown2
  clear hown hgrow hi hz0 hz1 hz2
  generalize w1.alloc (.cells #[.slice (some ⟨w.heap.size, 0, none⟩) g g, .int .i64 0, .int .i64 0] 85) = W2 at *
  have hwp : w.heap.size ≤ w1.heap.size := Nat.le_of_lt hw1
  generalize w1.heap.size = p at *
  have zp := hbox
  have HPW := Lib.hid hpw; have HO := Lib.hid hown2; have HX := Lib.hid hbox
  clear hpw hown2 hbox
  have wg : IntKind.i64.wrap (g : Int) = g := IntWalk.i64_in _ (by omega)
  have zp_0 := cell_of_row _ _ 0 _ _ _ zp; have zp_1 := cell_of_row _ _ 1 _ _ _ zp; have zp_2 := cell_of_row _ _ 2 _ _ _ zp; have zp_f := (fun j => frozen_of_row _ _ j _ _ zp); have zp_l := lt_of_block zp; simp at zp_0 zp_1 zp_2; have H_zp := Lib.hid zp; clear zp
  go_upto_region 5 with fail
  go_loopw [18] (fun k wr => ∃ i, k = .int .i64 (i : Nat) ∧ i ≤ g ∧ NewInv w g p i wr) (fun k _ => g - (intOf k).toNat)
  case atStart => exact ⟨0, rfl, Nat.zero_le _, HPW.out, HX.out, HO.out, hwp⟩
  case round =>
    obtain ⟨i, rfl, hi, hinv⟩ := hrel
    have zp := hinv.box
    have HI := Lib.hid hinv
    clear zp_0 zp_1 zp_2 zp_f zp_l
    clear H_zp hinv
    have zp_0 := cell_of_row _ _ 0 _ _ _ zp; have zp_1 := cell_of_row _ _ 1 _ _ _ zp; have zp_2 := cell_of_row _ _ 2 _ _ _ zp; have zp_f := (fun j => frozen_of_row _ _ j _ _ zp); have zp_l := lt_of_block zp; simp at zp_0 zp_1 zp_2; have H_zp := Lib.hid zp; clear zp
    by_cases hlt : i < g
    · have hlt' : (i : Int) < (g : Int) := by omega
      have hl : (midG g i).length = g := midG_length hi
      obtain ⟨B', c', hsv, _, hB', hcc, hf', _⟩ := owns_at HI.out.row hg0
      cases hsv
      have zg0 : ∃ u, wr.cell? ⟨w.heap.size, i * 9, none⟩ = some u := by
        have h1 := HI.out.row.1
        exact ⟨_, hcc (i * 9) _ (List.getElem?_eq_getElem (by rw [h1]; omega))⟩
      obtain ⟨u0, zg⟩ := zg0
      have HS := Lib.hid (mid_step hlt)
      clear hcc
      go_upto_region 7 with fail
      go_region_law ((go_simp; go_at_call 45; refine Calls.mono (HB.out _) ?_; rintro e w' ⟨rfl, rfl⟩))
      all_goals
        have hst := HI.out.step hlt (by omega) (Mod.refl (fun _ => False) wr).drew rfl
        have HST := Lib.hid hst
        clear hst
        go_wp2
        go_roundw
        case rel => exact ⟨i + 1, by go_num, by omega, HST.out⟩
        case measure => simp [intOf]; omega
    · have hlt' : (g : Int) ≤ (i : Int) := by omega
      have e : i = g := by omega
      subst e
      go_wp2
      exact bodyPost_ret (v := .tuple #[.pointer (some ⟨p, 0, none⟩), .int .i64 0]) (by simp [results, Try.results19, go_sem]) rfl
        ⟨p, .slice (some ⟨w.heap.size, 0, none⟩) i i, rfl, ⟨by rw [newG_used, newG_tomb]; exact HI.out.box, by rw [newG_length, ← midG_last]; exact HI.out.row, fun k => Iff.rfl, newG_ok hg⟩, HI.out.pu, HI.out.wp, fun k hk => by simp [Value.ownBlock] at hk; omega⟩
end Go.Proofs.Ytapplindfijngaa

/- Plain laws of the index: what was put in and not taken out is found, and nothing else. -/
namespace Go.Proofs.Ytapplindfijngaa
open Go.RowKit Go.Shelf

/-! ### a probe sequence reaches every group -/
theorem tri_two (i : Nat) : 2 * (i * (i + 1) / 2) = i * (i + 1) := by
  rcases Nat.mod_two_eq_zero_or_one i with h | h
  · have : i * (i + 1) % 2 = 0 := by simp [Nat.mul_mod, h]
    omega
  · have : i * (i + 1) % 2 = 0 := by simp [Nat.mul_mod, Nat.add_mod, h]
    omega
theorem tri_flip {a i i' : Nat} (h : i' + i + 1 = 2 * a) : i' * (i' + 1) / 2 + a * (2 * i + 1) = 2 * (a * a) + i * (i + 1) / 2 := by
  have h1 := tri_two i
  have h2 := tri_two i'
  have e1 : 2 * (a * (2 * i + 1)) = (i' + i + 1) * (2 * i + 1) := by rw [h, Nat.mul_assoc]
  have e2 : 2 * (2 * (a * a)) = (i' + i + 1) * (i' + i + 1) := by rw [h]; simp only [Nat.mul_assoc, Nat.mul_left_comm]
  have c : i' * i = i * i' := Nat.mul_comm _ _
  simp only [Nat.mul_add, Nat.add_mul, Nat.mul_one, Nat.one_mul] at *
  have c1 : i' * (2 * i) = 2 * (i * i') := by rw [Nat.mul_left_comm, c]
  have c2 : i * (2 * i) = 2 * (i * i) := by rw [Nat.mul_left_comm]
  omega
theorem at_all (part : Nat) : ∀ (k t : Nat), t < 2 ^ k → ∃ i, i < 2 ^ k ∧ (part + i * (i + 1) / 2) % 2 ^ k = t
  | 0, t, h => ⟨0, by decide, by simp at h; subst h; simp [Nat.mod_one]⟩
  | k + 1, t, h => by
    obtain ⟨i, hi, e⟩ := at_all part k (t % 2 ^ k) (Nat.mod_lt _ (Nat.pow_pos (by decide)))
    have hp : 2 ^ (k + 1) = 2 ^ k * 2 := Nat.pow_succ 2 k
    have hf := @tri_flip (2 ^ k) i (2 * 2 ^ k - 1 - i) (by omega)
    generalize 2 ^ k = a at *
    rw [hp] at h ⊢
    have hm : (part + i * (i + 1) / 2) % (a * 2) = t ∨ (part + i * (i + 1) / 2) % (a * 2) + a = t ∨ (part + i * (i + 1) / 2) % (a * 2) = t + a := by
      have h1 := Nat.mod_mul_right_mod (part + i * (i + 1) / 2) a 2
      rw [e] at h1
      have h2 : (part + i * (i + 1) / 2) % (a * 2) < a * 2 := Nat.mod_lt _ (by omega)
      generalize (part + i * (i + 1) / 2) % (a * 2) = y at *
      have hy : y = y % a ∨ y = y % a + a := by
        by_cases c : y < a
        · left; rw [Nat.mod_eq_of_lt c]
        · right; rw [Nat.mod_eq_sub_mod (by omega), Nat.mod_eq_of_lt (by omega)]; omega
      have ht : t = t % a ∨ t = t % a + a := by
        by_cases c : t < a
        · left; rw [Nat.mod_eq_of_lt c]
        · right; rw [Nat.mod_eq_sub_mod (by omega), Nat.mod_eq_of_lt (by omega)]; omega
      omega
    by_cases hd : (part + i * (i + 1) / 2) % (a * 2) = t
    · exact ⟨i, by omega, hd⟩
    · refine ⟨2 * a - 1 - i, by omega, ?_⟩
      generalize (2 * a - 1 - i) * (2 * a - 1 - i + 1) / 2 = u at *
      have hz : (part + i * (i + 1) / 2) % (a * 2) + a = t ∨ (part + i * (i + 1) / 2) % (a * 2) = t + a := by
        rcases hm with h | h | h
        · exact absurd h hd
        · exact .inl h
        · exact .inr h
      generalize hT : i * (i + 1) / 2 = T at *
      -- part + u + a*(2i+1) = part + T + 2a*a
      have h3 : part + u + a + (a * 2) * i = part + T + (a * 2) * a := by
        have e1 : a * (2 * i + 1) = a * 2 * i + a := by rw [Nat.mul_add, Nat.mul_one, Nat.mul_assoc]
        have e2 : a * 2 * a = 2 * (a * a) := by rw [Nat.mul_comm a 2, Nat.mul_assoc]
        omega
      have h4 : (part + u + a) % (a * 2) = (part + T) % (a * 2) := by
        have := congrArg (· % (a * 2)) h3
        simpa [Nat.add_mul_mod_self_left] using this
      have h5 := Nat.div_add_mod (part + u) (a * 2)
      have h6 : (part + u) % (a * 2) < a * 2 := Nat.mod_lt _ (by omega)
      generalize (part + u) % (a * 2) = v at *
      rw [← h5, Nat.add_assoc, Nat.mul_add_mod_self_left] at h4
      generalize (part + T) % (a * 2) = y at *
      by_cases c : v + a < a * 2
      · rw [Nat.mod_eq_of_lt c] at h4; omega
      · rw [Nat.mod_eq_sub_mod (by omega), Nat.mod_eq_of_lt (by omega)] at h4; omega
theorem probes_all {g : Nat} (hg : Pow g) (part : Nat) {i : Nat} (hi : i < g) : i ∈ probes part g := by
  obtain ⟨k, _, rfl⟩ := hg
  obtain ⟨n, hn, e⟩ := at_all part k i hi
  exact List.mem_map.2 ⟨n, List.mem_range.2 hn, e⟩
theorem probes_lt {g : Nat} (hg : 0 < g) (part : Nat) {i : Nat} (hi : i ∈ probes part g) : i < g := by
  obtain ⟨n, _, rfl⟩ := List.mem_map.1 hi
  exact Nat.mod_lt _ hg

/-! ### what is seen -/
structure FullAt (Gs : List Grp) (i j t s : Nat) : Prop where
  hi : i < Gs.length
  hj : j < 8
  tag : (grpAt Gs i).1[j]? = some t
  full : t < 128
  slot : slotAt Gs (i, j) = s
theorem seenIn_mem {c : Grp} (h : GrpOk c) (tag j : Nat) : j ∈ seenIn c tag ↔ j < 8 ∧ c.1[j]? = some tag := by
  unfold seenIn
  rw [lanes_mask (by simp [h.ctl.1])]
  simp only [List.mem_filter, List.mem_range, List.getD_eq_getElem?_getD, List.getElem?_map]
  cases c.1[j]? <;> simp
theorem seenFrom_mem {Gs : List Grp} {tag : Nat} : ∀ {L : List Nat} {x : Nat × Nat}, x ∈ seenFrom Gs tag L → x.1 ∈ L ∧ x.2 ∈ seenIn (grpAt Gs x.1) tag
  | [], _, h => by simp [seenFrom] at h
  | i :: r, x, h => by
    simp only [seenFrom, List.mem_append, List.mem_map] at h
    rcases h with ⟨j, hj, rfl⟩ | h
    · exact ⟨by simp, hj⟩
    · split at h
      · simp at h
      · have := seenFrom_mem h
        exact ⟨by simp [this.1], this.2⟩
theorem seen_full {Gs : List Grp} (h : IxOk Gs) {sum : Nat} {x : Nat × Nat} (hx : x ∈ seenM Gs sum) : FullAt Gs x.1 x.2 (sum % 128) (slotAt Gs x) := by
  obtain ⟨h1, h2⟩ := seenFrom_mem hx
  have hi := probes_lt h.pow.pos _ h1
  obtain ⟨h3, h4⟩ := (seenIn_mem (h.at hi) _ _).1 h2
  exact ⟨hi, h3, h4, Nat.mod_lt _ (by decide), rfl⟩
theorem full_seen {Gs : List Grp} (h : IxOk Gs) {sum i j s : Nat} (hf : FullAt Gs i j (sum % 128) s) {pre post : List Nat} (hp : probes (sum / 128) Gs.length = pre ++ i :: post) (hb : ∀ k ∈ pre, blanks (grpAt Gs k) = false) : (i, j) ∈ seenM Gs sum := by
  unfold seenM
  rw [hp, seen_pre pre i post hb]
  simp only [List.mem_append, List.mem_map]
  exact .inr (.inl ⟨j, (seenIn_mem (h.at hf.hi) _ _).2 ⟨hf.hj, hf.tag⟩, rfl⟩)

/-- The index holds just the slot numbers in S, each one with its own hash. -/
structure Holds (H : Nat → Nat) (S : Nat → Prop) (Gs : List Grp) : Prop where
  ok : IxOk Gs
  tag : ∀ i j t s, FullAt Gs i j t s → t = H s % 128
  reach : ∀ i j t s, FullAt Gs i j t s → ∃ pre post, probes (H s / 128) Gs.length = pre ++ i :: post ∧ ∀ k ∈ pre, blanks (grpAt Gs k) = false
  uniq : ∀ i j t i' j' t' s, FullAt Gs i j t s → FullAt Gs i' j' t' s → i = i' ∧ j = j'
  mem : ∀ s, S s ↔ ∃ i j t, FullAt Gs i j t s
theorem Holds.of_iff {H : Nat → Nat} {S S' : Nat → Prop} {Gs : List Grp} (h : Holds H S Gs) (hs : ∀ s, S s ↔ S' s) : Holds H S' Gs :=
  ⟨h.ok, h.tag, h.reach, h.uniq, fun s => (hs s).symm.trans (h.mem s)⟩
section
variable {H : Nat → Nat} {S : Nat → Prop} {Gs : List Grp}
theorem Holds.find_none (h : Holds H S Gs) {s : Nat} (hs : ¬ S s) : findM Gs (H s) (fun x => x == s) = none := by
  unfold findM
  refine List.find?_eq_none.2 (fun x hx => ?_)
  intro e
  have e' : slotAt Gs x = s := by simpa using e
  exact hs ((h.mem s).2 ⟨_, _, _, e' ▸ seen_full h.ok hx⟩)
theorem Holds.find_some (h : Holds H S Gs) {s : Nat} (hs : S s) : ∃ i j, findM Gs (H s) (fun x => x == s) = some (i, j) ∧ FullAt Gs i j (H s % 128) s := by
  obtain ⟨i, j, t, hf⟩ := (h.mem s).1 hs
  have ht := h.tag _ _ _ _ hf
  subst ht
  obtain ⟨pre, post, hp, hb⟩ := h.reach _ _ _ _ hf
  have hm := full_seen h.ok hf hp hb
  unfold findM
  cases hc : (seenM Gs (H s)).find? (fun x => slotAt Gs x == s) with
  | none =>
    have := List.find?_eq_none.1 hc _ hm
    rw [hf.slot] at this
    simp at this
  | some x =>
    have h1 := List.find?_some hc
    have h2 := seen_full h.ok (List.mem_of_find?_eq_some hc)
    have h3 : slotAt Gs x = s := by simpa using h1
    exact ⟨x.1, x.2, rfl, h3 ▸ h2⟩
theorem full_set {i j t s : Nat} (hi : i < Gs.length) (hg : GrpOk (grpAt Gs i)) (hj : j < 8) (i' j' t' s' : Nat) :
    FullAt (setG Gs i j t s) i' j' t' s' ↔ (i' = i ∧ j' = j ∧ t' = t ∧ t < 128 ∧ s' = s) ∨ (¬ (i' = i ∧ j' = j) ∧ FullAt Gs i' j' t' s') := by
  have hl1 : j < (grpAt Gs i).1.length := by rw [hg.ctl.1]; exact hj
  have hl2 : j < (grpAt Gs i).2.length := by rw [hg.len]; exact hj
  constructor
  · rintro ⟨h1, h2, h3, h4, h5⟩
    rw [setG_length] at h1
    unfold slotAt at h5
    rw [grpAt_setG hi] at h3 h5
    dsimp only at h5
    by_cases e : i' = i
    · rw [if_pos e] at h3 h5
      unfold putG at h3 h5
      dsimp only at h3 h5
      by_cases ej : j' = j
      · subst ej
        rw [List.getElem?_set_self hl1] at h3
        rw [List.getD_eq_getElem?_getD, List.getElem?_set_self hl2] at h5
        cases h3
        exact .inl ⟨e, rfl, rfl, h4, by simpa using h5.symm⟩
      · rw [List.getElem?_set_ne (fun c => ej c.symm)] at h3
        rw [List.getD_eq_getElem?_getD, List.getElem?_set_ne (fun c => ej c.symm)] at h5
        refine .inr ⟨fun c => ej c.2, ⟨h1, h2, by rw [e]; exact h3, h4, ?_⟩⟩
        unfold slotAt
        dsimp only
        rw [e, List.getD_eq_getElem?_getD]; exact h5
    · rw [if_neg e] at h3 h5
      exact .inr ⟨fun c => e c.1, ⟨h1, h2, h3, h4, h5⟩⟩
  · rintro (⟨rfl, rfl, rfl, h4, rfl⟩ | ⟨hn, h1, h2, h3, h4, h5⟩)
    · refine ⟨by rw [setG_length]; exact hi, hj, ?_, h4, ?_⟩
      · rw [grpAt_setG hi, if_pos rfl]; exact List.getElem?_set_self hl1
      · unfold slotAt
        dsimp only
        rw [grpAt_setG hi, if_pos rfl, List.getD_eq_getElem?_getD]
        unfold putG
        dsimp only
        rw [List.getElem?_set_self hl2]
        rfl
    · refine ⟨by rw [setG_length]; exact h1, h2, ?_, h4, ?_⟩
      · rw [grpAt_setG hi]
        by_cases e : i' = i
        · rw [if_pos e]
          unfold putG
          dsimp only
          rw [List.getElem?_set_ne (fun c => hn ⟨e, c.symm⟩), ← e]; exact h3
        · rw [if_neg e]; exact h3
      · unfold slotAt at h5 ⊢
        dsimp only at h5 ⊢
        rw [grpAt_setG hi]
        by_cases e : i' = i
        · rw [if_pos e]
          unfold putG
          dsimp only
          rw [List.getD_eq_getElem?_getD, List.getElem?_set_ne (fun c => hn ⟨e, c.symm⟩), ← e, ← List.getD_eq_getElem?_getD]; exact h5
        · rw [if_neg e]; exact h5
theorem blanks_set {i j t s k : Nat} (hi : i < Gs.length) (ht : t = 128 → blanks (grpAt Gs i) = true) (hb : blanks (grpAt Gs k) = false) : blanks (grpAt (setG Gs i j t s) k) = false := by
  rw [grpAt_setG hi]
  by_cases e : k = i
  · subst e
    rw [if_pos rfl]
    unfold blanks putG at *
    dsimp only
    rw [List.any_eq_false] at hb ⊢
    intro x hx
    rcases List.mem_or_eq_of_mem_set hx with h | rfl
    · exact hb x h
    · intro c
      have := ht (by simpa using c)
      rw [List.any_eq_true] at this
      obtain ⟨y, hy, hy2⟩ := this
      exact hb y hy hy2
  · rw [if_neg e]; exact hb

theorem insFrom_some {tag slot : Nat} : ∀ {L : List Nat} {Gs' : List Grp}, insFrom Gs tag slot L = some Gs' →
    ∃ pre i post, L = pre ++ i :: post ∧ (∀ k ∈ pre, freeOf (grpAt Gs k) = 8) ∧ freeOf (grpAt Gs i) ≠ 8 ∧ Gs' = setG Gs i (freeOf (grpAt Gs i)) tag slot
  | [], _, h => by simp [insFrom] at h
  | i :: r, Gs', h => by
    unfold insFrom at h
    by_cases e : freeOf (grpAt Gs i) = 8
    · rw [if_pos e] at h
      obtain ⟨pre, i', post, rfl, h2, h3, h4⟩ := insFrom_some h
      exact ⟨i :: pre, i', post, rfl, fun k hk => by
        rcases List.mem_cons.1 hk with rfl | hk
        · exact e
        · exact h2 k hk, h3, h4⟩
    · rw [if_neg e] at h
      cases h
      exact ⟨[], i, r, rfl, by simp, e, rfl⟩
theorem insFrom_none {tag slot : Nat} : ∀ {L : List Nat}, insFrom Gs tag slot L = none ↔ ∀ k ∈ L, freeOf (grpAt Gs k) = 8
  | [] => by simp [insFrom]
  | i :: r => by
    unfold insFrom
    by_cases e : freeOf (grpAt Gs i) = 8
    · rw [if_pos e, insFrom_none]; simp [e]
    · rw [if_neg e]; simp [e]
theorem free_lt {c : Grp} (h : GrpOk c) (hf : freeOf c ≠ 8) : freeOf c < 8 := by
  have : freeOf c ≤ c.1.length := List.findIdx_le_length
  rw [h.ctl.1] at this
  omega
theorem free_eight {c : Grp} (h : GrpOk c) : freeOf c = 8 ↔ ∀ x ∈ c.1, x < 128 := by
  unfold freeOf
  rw [← h.ctl.1, List.findIdx_eq_length]
  simp
theorem no_blanks {c : Grp} (h : GrpOk c) (hf : freeOf c = 8) : blanks c = false := by
  unfold blanks
  rw [List.any_eq_false]
  intro x hx
  have := (free_eight h).1 hf x hx
  simp; omega
theorem ins_counts {sum slot : Nat} {Gs' : List Grp} (h : IxOk Gs) (hs : slot ≤ 4294967295) (he : insM Gs sum slot = some Gs') : usedN Gs' = usedN Gs + 1 ∧ Gs'.length = Gs.length ∧ IxOk Gs' ∧ tombN Gs' ≤ tombN Gs := by
  obtain ⟨pre, i, post, hp, hpre, hf, rfl⟩ := insFrom_some he
  have hi : i < Gs.length := probes_lt h.pow.pos (sum / 128) (by rw [hp]; simp)
  have hg := h.at hi
  have hj := free_lt hg hf
  have h128 := free_at hg.ctl rfl hj
  have ht : sum % 128 < 128 := Nat.mod_lt _ (by decide)
  refine ⟨?_, setG_length .., h.put (.inl ht) hs, ?_⟩
  · unfold freeOf
    rcases h128 with e | e
    · simpa [ht] using usedN_put (t := sum % 128) (s := slot) hi e
    · simpa [ht] using usedN_put (t := sum % 128) (s := slot) hi e
  · have n254 : (sum % 128 == 254) = false := by simp; omega
    rcases h128 with e | e
    · have := tombN_put (t := sum % 128) (s := slot) hi e
      rw [n254] at this; simp at this; unfold freeOf at *; omega
    · have := tombN_put (t := sum % 128) (s := slot) hi e
      rw [n254] at this; simp at this; unfold freeOf at *; omega
theorem Holds.ins (h : Holds H S Gs) {s : Nat} (hs : s ≤ 4294967295) (hn : ¬ S s) {Gs' : List Grp} (he : insM Gs (H s) s = some Gs') : Holds H (fun x => x = s ∨ S x) Gs' := by
  have hok := (ins_counts h.ok hs he).2.2.1
  obtain ⟨pre, i, post, hp, hpre, hf, rfl⟩ := insFrom_some he
  have hi : i < Gs.length := probes_lt h.ok.pow.pos (H s / 128) (by rw [hp]; simp)
  have hg := h.ok.at hi
  have hj := free_lt hg hf
  have ht : H s % 128 < 128 := Nat.mod_lt _ (by decide)
  have hfull := fun i' j' t' s' => full_set (t := H s % 128) (s := s) hi hg hj i' j' t' s'
  have hbl := fun k => blanks_set (j := freeOf (grpAt Gs i)) (t := H s % 128) (s := s) (k := k) hi (fun c => by omega)
  have hpr : ∀ k ∈ pre, blanks (grpAt Gs k) = false := fun k hk => no_blanks (h.ok.at (probes_lt h.ok.pow.pos (H s / 128) (by rw [hp]; simp [hk]))) (hpre k hk)
  refine ⟨hok, ?_, ?_, ?_, ?_⟩
  · intro i' j' t' s' hF
    rcases (hfull _ _ _ _).1 hF with ⟨_, _, rfl, _, rfl⟩ | ⟨_, hF⟩
    · rfl
    · exact h.tag _ _ _ _ hF
  · intro i' j' t' s' hF
    rw [setG_length]
    rcases (hfull _ _ _ _).1 hF with ⟨rfl, _, rfl, _, rfl⟩ | ⟨_, hF⟩
    · exact ⟨pre, post, hp, fun k hk => hbl k (hpr k hk)⟩
    · obtain ⟨pre', post', h1, h2⟩ := h.reach _ _ _ _ hF
      exact ⟨pre', post', h1, fun k hk => hbl k (h2 k hk)⟩
  · intro i1 j1 t1 i2 j2 t2 s' hF1 hF2
    rcases (hfull _ _ _ _).1 hF1 with ⟨a1, a2, a3, _, a4⟩ | ⟨_, hG1⟩ <;> rcases (hfull _ _ _ _).1 hF2 with ⟨b1, b2, b3, _, b4⟩ | ⟨_, hG2⟩
    · exact ⟨a1.trans b1.symm, a2.trans b2.symm⟩
    · exact absurd ((h.mem _).2 ⟨_, _, _, a4 ▸ hG2⟩) hn
    · exact absurd ((h.mem _).2 ⟨_, _, _, b4 ▸ hG1⟩) hn
    · exact h.uniq _ _ _ _ _ _ _ hG1 hG2
  · intro x
    constructor
    · rintro (rfl | hx)
      · exact ⟨_, _, _, (hfull _ _ _ _).2 (.inl ⟨rfl, rfl, rfl, ht, rfl⟩)⟩
      · obtain ⟨i', j', t', hF⟩ := (h.mem x).1 hx
        refine ⟨i', j', t', (hfull _ _ _ _).2 (.inr ⟨?_, hF⟩)⟩
        rintro ⟨rfl, rfl⟩
        have h128 := free_at hg.ctl rfl hj
        have := hF.full
        rcases h128 with e | e
        · have := hF.tag; unfold freeOf at this; rw [e] at this; cases this; omega
        · have := hF.tag; unfold freeOf at this; rw [e] at this; cases this; omega
    · rintro ⟨i', j', t', hF⟩
      rcases (hfull _ _ _ _).1 hF with ⟨_, _, _, _, rfl⟩ | ⟨_, hF⟩
      · exact .inl rfl
      · exact .inr ((h.mem _).2 ⟨_, _, _, hF⟩)
/-- The index without what one lane holds. -/
def delG (Gs : List Grp) (i j : Nat) : List Grp := setG Gs i j (erased (grpAt Gs i).1) 0
theorem erased_128 {l : List Nat} (h : erased l = 128) : l.any (· == 128) = true := by
  unfold erased at h
  split at h
  · assumption
  · cases h
theorem erased_or (l : List Nat) : erased l = 128 ∨ erased l = 254 := by unfold erased; split <;> simp
theorem del_counts (h : IxOk Gs) {i j t s : Nat} (hf : FullAt Gs i j t s) : usedN (delG Gs i j) + 1 = usedN Gs ∧ (delG Gs i j).length = Gs.length ∧ IxOk (delG Gs i j) := by
  have h1 := usedN_put (t := erased (grpAt Gs i).1) (s := 0) hf.hi hf.tag
  have h2 := erased_or (grpAt Gs i).1
  have h3 : decide (erased (grpAt Gs i).1 < 128) = false := by simp; omega
  rw [h3] at h1
  refine ⟨?_, setG_length .., h.put (.inr h2) (by omega)⟩
  unfold delG
  simpa [hf.full] using h1
theorem Holds.del (h : Holds H S Gs) {i j t s : Nat} (hf : FullAt Gs i j t s) : Holds H (fun x => x ≠ s ∧ S x) (delG Gs i j) := by
  have hok := (del_counts h.ok hf).2.2
  have hfull := fun i' j' t' s' => full_set (t := erased (grpAt Gs i).1) (s := 0) hf.hi (h.ok.at hf.hi) hf.hj i' j' t' s'
  have hbl := fun k => blanks_set (j := j) (t := erased (grpAt Gs i).1) (s := 0) (k := k) hf.hi (fun c => erased_128 c)
  have h2 := erased_or (grpAt Gs i).1
  have back : ∀ i' j' t' s', FullAt (delG Gs i j) i' j' t' s' → ¬ (i' = i ∧ j' = j) ∧ FullAt Gs i' j' t' s' := fun i' j' t' s' hF => by
    rcases (hfull _ _ _ _).1 hF with ⟨_, _, _, h128, _⟩ | hF
    · omega
    · exact hF
  refine ⟨hok, fun i' j' t' s' hF => h.tag _ _ _ _ (back _ _ _ _ hF).2, fun i' j' t' s' hF => ?_, fun i1 j1 t1 i2 j2 t2 s' hF1 hF2 => h.uniq _ _ _ _ _ _ _ (back _ _ _ _ hF1).2 (back _ _ _ _ hF2).2, fun x => ?_⟩
  · obtain ⟨pre', post', h3, h4⟩ := h.reach _ _ _ _ (back _ _ _ _ hF).2
    unfold delG
    rw [setG_length]
    exact ⟨pre', post', h3, fun k hk => hbl k (h4 k hk)⟩
  · constructor
    · rintro ⟨hx, hS⟩
      obtain ⟨i', j', t', hF⟩ := (h.mem x).1 hS
      refine ⟨i', j', t', (hfull _ _ _ _).2 (.inr ⟨?_, hF⟩)⟩
      rintro ⟨rfl, rfl⟩
      have e1 := hF.slot; have e2 := hf.slot
      exact hx (e1.symm.trans e2)
    · rintro ⟨i', j', t', hF⟩
      obtain ⟨hne, hF⟩ := back _ _ _ _ hF
      refine ⟨?_, (h.mem x).2 ⟨_, _, _, hF⟩⟩
      rintro rfl
      exact hne (h.uniq _ _ _ _ _ _ _ hF hf)

/-! ### room -/
theorem count_full {p : Nat → Bool} : ∀ {Gs : List Grp}, (∀ c ∈ Gs, GrpOk c) → ((Gs.map (fun c => c.1.countP p)).sum = 8 * Gs.length ↔ ∀ c ∈ Gs, ∀ x ∈ c.1, p x = true)
  | [], _ => by simp
  | c :: Gs, h => by
    have h1 := count_full (p := p) (Gs := Gs) (fun c hc => h c (by simp [hc]))
    have h2 : c.1.countP p ≤ c.1.length := List.countP_le_length
    have h3 := count_le p (Gs := Gs) (fun c hc => h c (by simp [hc]))
    have h4 : c.1.countP p = c.1.length ↔ ∀ x ∈ c.1, p x = true := List.countP_eq_length
    rw [(h c (by simp)).ctl.1] at h2 h4
    simp only [List.map_cons, List.sum_cons, List.length_cons, List.forall_mem_cons]
    rw [← h1, ← h4]
    omega
theorem ins_none (h : IxOk Gs) (sum slot : Nat) : insM Gs sum slot = none ↔ usedN Gs = 8 * Gs.length := by
  unfold insM
  rw [insFrom_none]
  unfold usedN
  rw [count_full h.grp]
  constructor
  · intro hk c hc x hx
    obtain ⟨i, hi⟩ := List.getElem?_of_mem hc
    have hl : i < Gs.length := (List.getElem?_eq_some_iff.1 hi).1
    have e : grpAt Gs i = c := by have := grpAt_some hl; rw [hi] at this; cases this; rfl
    have := (free_eight (h.at hl)).1 (hk i (probes_all h.pow _ hl))
    rw [e] at this
    simpa using this x hx
  · intro hk i hi
    have hl := probes_lt h.pow.pos _ hi
    refine (free_eight (h.at hl)).2 (fun x hx => ?_)
    simpa using hk _ (List.mem_of_getElem? (grpAt_some hl)) x hx
theorem used_le8 (h : IxOk Gs) : usedN Gs ≤ 8 * Gs.length := count_le _ h.grp
end

/-! ### the new index -/
theorem newG_at {g i : Nat} (hi : i < g) : grpAt (newG g) i = blankG := by
  unfold grpAt newG
  rw [List.getD_eq_getElem?_getD]
  simp [hi]
theorem newG_empty {g i j t s : Nat} : ¬ FullAt (newG g) i j t s := fun h => by
  have hi : i < g := by have := h.hi; simpa [newG] using this
  have h1 := h.tag
  rw [newG_at hi] at h1
  have := List.mem_of_getElem? h1
  have h2 : ∀ x ∈ blankG.1, x = 128 := by decide
  have := h2 _ this
  have := h.full
  omega
theorem newG_holds (H : Nat → Nat) {g : Nat} (hg : Pow g) : Holds H (fun _ => False) (newG g) :=
  ⟨newG_ok hg, fun _ _ _ _ h => absurd h newG_empty, fun _ _ _ _ h => absurd h newG_empty, fun _ _ _ _ _ _ _ h => absurd h newG_empty, fun _ => ⟨fun h => h.elim, fun ⟨_, _, _, h⟩ => newG_empty h⟩⟩
end Go.Proofs.Ytapplindfijngaa

/- swiss.Index: Find, Remove, Replace. -/
namespace Go.Proofs.Ytapplindfijngaa
open Go.RowKit Go.Shelf
set_option maxRecDepth 100000

/-- What find's results mean for a function of the slot number alone, at one closure. -/
theorem find1_ok {w : World} {D : Nat → Prop} {p : Nat} {sv : Value} {Gs : List Grp} (h : IxRow w D p sv Gs) (sum : Nat) (hsum : sum < 18446744073709551616) {gf : Nat} {lb : Array Value} {g : Nat → Bool} {J : List Nat → World → Prop}
    (hs : SameOk Try.prog gf lb (fun _ s => g s) (fun _ => False) J w) {B c : Nat} (hsv : sv = .slice (some ⟨B, 0, none⟩) Gs.length c) :
    Calls Try.prog 54 #[.pointer (some ⟨p, 0, none⟩), .int .u64 sum, .func (.func gf) #[] lb] w (foundPost w D p sv Gs sum g B) :=
  (find_ok h sum hsum hs).mono (fun e w' ⟨B', c', e1, hp⟩ => by
    rw [hsv] at e1
    cases e1
    exact found_of hp)
/-- The end of a change of one lane. -/
theorem lane_fin {W2 W3 W5 : World} {D : Nat → Prop} {p B c i j t s : Nat} {Gs : List Grp} {n' t' : Int} (h : IxRow W2 D p (.slice (some ⟨B, 0, none⟩) Gs.length c) Gs) (hi : i < Gs.length) (hj : j < 8)
    (ht : t < 128 ∨ t = 128 ∨ t = 254) (hsl : s ≤ 4294967295) (hu : n' = usedN (setG Gs i j t s)) (hu2 : t' = tombN (setG Gs i j t s)) (h3 : Mod (fun k => k = B) W2 W3)
    (h3r : W3.ownsRow 0 89 9 (.slice (some ⟨B, 0, none⟩) Gs.length c) Gs.length (((Gs.flatMap groupCells).set (i * 9) (.int .u64 (word8 ((grpAt Gs i).1.set j t)))).set (i * 9 + 1 + j) (.int .u32 s)))
    (h5 : Mod (fun k => k = p) W3 W5) (h5b : W5.heap[p]? = some (.cells #[.slice (some ⟨B, 0, none⟩) Gs.length c, .int .i64 n', .int .i64 t'] 85 (0, 0))) :
    IxRow W5 D p (.slice (some ⟨B, 0, none⟩) Gs.length c) (setG Gs i j t s) ∧ Mod D W2 W5 := by
  have hpB : p ≠ B := fun e => by
    obtain ⟨cc, e2⟩ := owns_type h.row (g := B) rfl
    have := h.box
    rw [e, e2] at this; cases this
  refine ⟨⟨?_, ?_, h.dd, h.ok.put ht hsl⟩, ?_⟩
  · rw [h5b, hu, hu2]
  · rw [setG_length, ← flat_put2 (t := t) (s := s) (h.ok.at hi) hi hj _ rfl]
    exact owns_mod h3r h5 (fun g hg e => by
      have : B = g := by simpa [Value.ownBlock] using hg
      exact hpB (e.symm.trans this.symm))
  · exact (h3.mono (fun k _ e => by subst e; exact (h.dd k).2 (.inr rfl)) : Mod D W2 W3).then h5 (fun k _ e => by subst e; exact (h.dd k).2 (.inl rfl))

def IFindPost (w : World) (D : Nat → Prop) (p : Nat) (sv : Value) (Gs : List Grp) (sum : Nat) (f : List Nat → Nat → Bool) (C : TypeId → Prop) (J : List Nat → World → Prop) (e : Ending) (w' : World) : Prop :=
  ModC C w w' ∧ IxRow w' D p sv Gs ∧
  ((∃ a x post, seenM Gs sum = a ++ x :: post ∧ falses f (a.map (slotAt Gs)) ∧ f (a.map (slotAt Gs)) (slotAt Gs x) = true ∧
    e = .returned (.tuple #[.int .u32 (slotAt Gs x), .int .i64 0]) ∧ J ((a ++ [x]).map (slotAt Gs)) w') ∨
   (falses f ((seenM Gs sum).map (slotAt Gs)) ∧ e = .returned (.tuple #[.int .u32 0, .int .i64 9]) ∧ J ((seenM Gs sum).map (slotAt Gs)) w'))
theorem run_equal_func {P : Program} (w : World) (d : Nat) (t : TypeId) {ps rs : Array TypeId} {v : Bool} (fn : Fn) (fi ca : Array Value) (h : P.underlying t = some (.func ps rs v)) : (Op.equalIn (d + 1) t (.func fn fi ca) .nilFunc).run P w = .ok false w := by
  simp [Op.equalIn, run_underlying h]
@[go_sem] theorem eql_same (w : World) (fn : Fn) (fi ca : Array Value) : (binOp .eql 75 (.func fn fi ca) .nilFunc).run Try.prog w = .ok (.bool false) w := by
  simp only [binOp]
  simp [Op.equal, Op.maxDepth, run_equal_func w 9999 _ fn fi ca Try.underlying75]
theorem IFind_ok {w : World} {D : Nat → Prop} {p : Nat} {sv : Value} {Gs : List Grp} (h : IxRow w D p sv Gs) (sum : Nat) (hsum : sum < 18446744073709551616) {gf : Nat} {lb : Array Value} {f : List Nat → Nat → Bool} {C : TypeId → Prop} {J : List Nat → World → Prop}
    (hs : SameOk Try.prog gf lb f C J w) :
    Calls Try.prog 28 #[.pointer (some ⟨p, 0, none⟩), .int .u64 sum, .func (.func gf) #[] lb] w (IFindPost w D p sv Gs sum f C J) := by
  have HF := Lib.hid (find_ok h sum hsum hs)
  obtain ⟨B, c, rfl, hc, hB, hDB, hBf, hcells⟩ := h.at
  have zp := h.box
  have HZ := Lib.hid (fun (hW : w.cell? ⟨p, 0, none⟩ = _) => izero_ok (w := w) (c := c) (a := some ⟨B, 0, none⟩) hW h.ok.pow.pos h.ok.pow.le)
  clear hcells h hs hBf
  have zp_0 := cell_of_row _ _ 0 _ _ _ zp; have zp_1 := cell_of_row _ _ 1 _ _ _ zp; have zp_2 := cell_of_row _ _ 2 _ _ _ zp; have zp_f := (fun j => frozen_of_row _ _ j _ _ zp); have zp_l := lt_of_block zp; simp at zp_0 zp_1 zp_2; have H_zp := Lib.hid zp; clear zp
  go_enter Try.func28, Try.ntmps28
  go_upto_region 3 with (go_at_call 53; refine Calls.mono (HZ.out zp_0) ?_; rintro e w' ⟨rfl, rfl⟩)
  go_upto_region 5 with fail
  go_upto_region 6 with (go_at_call 54; refine Calls.mono HF.out ?_; rintro e w2 ⟨B', c', hsv, hm, hix, ⟨a, x, post, h1, h2, h3, h4, h5, rfl, h7⟩ | ⟨h1, rfl, h7⟩⟩)
  · obtain ⟨B3, c3, hsv3, _, hB3, hDB3, hBf3, hcells3⟩ := hix.at
    cases hsv3
    have zs := (hcells3 x.1 h4).2 x.2 h5
    rw [show x.1 * 9 + (x.2 + 1) = x.1 * 9 + 1 + x.2 by omega] at zs
    have x0 : (0 : Int) ≤ x.2 := by omega
    have x1 : (x.2 : Int) < 8 := by omega
    have HP := Lib.hid (And.intro h1 (And.intro h2 (And.intro h3 (And.intro h7 (And.intro hm hix)))))
    have e6 : slotAt Gs x = (grpAt Gs x.1).2.getD x.2 0 := rfl
    rw [← e6] at zs
    clear h1 h2 h3 h7 hcells3 hm hix e6
    obtain ⟨sx, hsx⟩ : ∃ sx, slotAt Gs x = sx := ⟨_, rfl⟩
    rw [hsx] at zs
    go_wp2
    rw [← hsx]
    exact bodyPost_ret (v := .tuple #[.int .u32 (slotAt Gs x), .int .i64 0]) (by simp [results, Try.results28, go_sem]) rfl ⟨HP.out.2.2.2.2.1, HP.out.2.2.2.2.2, .inl ⟨a, x, post, HP.out.1, HP.out.2.1, HP.out.2.2.1, rfl, HP.out.2.2.2.1⟩⟩
  · have HP := Lib.hid (And.intro h1 (And.intro h7 (And.intro hm hix)))
    clear h1 h7 hm hix
    go_wp2
    exact bodyPost_ret (v := .tuple #[.int .u32 0, .int .i64 9]) (by simp [results, Try.results28, go_sem]) rfl ⟨HP.out.2.2.1, HP.out.2.2.2, .inr ⟨HP.out.1, rfl, HP.out.2.1⟩⟩

/-! ### Remove, Replace -/
theorem found_some {w w' : World} {D : Nat → Prop} {p : Nat} {sv : Value} {Gs : List Grp} {sum : Nat} {g : Nat → Bool} {B : Nat} {e : Ending} (h : foundPost w D p sv Gs sum g B e w') {i j : Nat} (hf : findM Gs sum g = some (i, j)) :
    e = .returned (.tuple #[.pointer (some ⟨B, i * 9, none⟩), .int .i64 j, .int .i64 0]) ∧ Pure w w' ∧ IxRow w' D p sv Gs ∧ FullAt Gs i j (sum % 128) (slotAt Gs (i, j)) := by
  obtain ⟨h1, h2, h3⟩ := h
  rw [hf] at h3
  exact ⟨h3.2.2.2.2, h1, h2, seen_full h2.ok h3.2.2.1⟩
theorem found_none {w w' : World} {D : Nat → Prop} {p : Nat} {sv : Value} {Gs : List Grp} {sum : Nat} {g : Nat → Bool} {B : Nat} {e : Ending} (h : foundPost w D p sv Gs sum g B e w') (hf : findM Gs sum g = none) :
    e = .returned (.tuple #[.pointer none, .int .i64 0, .int .i64 9]) ∧ Pure w w' ∧ IxRow w' D p sv Gs := by
  obtain ⟨h1, h2, h3⟩ := h
  rw [hf] at h3
  exact ⟨h3, h1, h2⟩
/-- What a lane that is freed leaves. -/
theorem erase_law {Gs : List Grp} (h : IxOk Gs) {i j t s : Nat} (hf : FullAt Gs i j t s) :
    (mask (((grpAt Gs i).1.set j (erased (grpAt Gs i).1)).map (· == 128)) = 0 ∧ tombN (setG Gs i j (erased (grpAt Gs i).1) 0) = tombN Gs + 1) ∨
    (1 ≤ mask (((grpAt Gs i).1.set j (erased (grpAt Gs i).1)).map (· == 128)) ∧ tombN (setG Gs i j (erased (grpAt Gs i).1) 0) = tombN Gs) := by
  have hg := h.at hf.hi
  have h2 := tombN_put (t := erased (grpAt Gs i).1) (s := 0) hf.hi hf.tag
  have n254 : (t == 254) = false := by simp; have := hf.full; omega
  rw [n254] at h2
  have h3 := mask_zero (p := ((grpAt Gs i).1.set j (erased (grpAt Gs i).1)).map (· == 128)) (by simp [hg.ctl.1])
  have hlj : j < (grpAt Gs i).1.length := by rw [hg.ctl.1]; exact hf.hj
  by_cases hb : (grpAt Gs i).1.any (· == 128) = true
  · have he : erased (grpAt Gs i).1 = 128 := by unfold erased; rw [if_pos hb]
    rw [he] at h2 h3 ⊢
    right
    refine ⟨?_, by simpa using h2⟩
    have : ¬ (mask (((grpAt Gs i).1.set j 128).map (· == 128)) = 0) := by
      intro c
      rw [c] at h3
      have h4 : (((grpAt Gs i).1.set j 128).map (· == 128)).any id = false := by simpa using h3
      rw [List.any_eq_false] at h4
      have hm : (128 : Nat) ∈ (grpAt Gs i).1.set j 128 := List.mem_of_getElem? (i := j) (List.getElem?_set_self hlj)
      exact h4 true (List.mem_map.2 ⟨128, hm, rfl⟩) rfl
    omega
  · have he : erased (grpAt Gs i).1 = 254 := by unfold erased; rw [if_neg hb]
    rw [he] at h2 h3 ⊢
    left
    refine ⟨?_, by simpa using h2⟩
    have h5 : (((grpAt Gs i).1.set j 254).map (· == 128)).any id = false := by
      rw [List.any_eq_false]
      intro x hx c
      obtain ⟨y, hy, rfl⟩ := List.mem_map.1 hx
      rcases List.mem_or_eq_of_mem_set hy with h6 | rfl
      · exact hb (List.any_eq_true.2 ⟨y, h6, by simpa using c⟩)
      · simp at c
    rw [h5] at h3
    simpa using h3
def remPost (w : World) (D : Nat → Prop) (p : Nat) (sv : Value) (Gs : List Grp) (sum slot : Nat) (e : Ending) (w' : World) : Prop :=
  match findM Gs sum (fun x => x == slot) with
  | some x => e = .returned (.int .i64 0) ∧ IxRow w' D p sv (setG Gs x.1 x.2 (erased (grpAt Gs x.1).1) 0) ∧ Mod D w w'
  | none => e = .returned (.int .i64 9) ∧ IxRow w' D p sv Gs ∧ Mod D w w'
theorem Remove_ok {w : World} {D : Nat → Prop} {p : Nat} {sv : Value} {Gs : List Grp} (h : IxRow w D p sv Gs) (sum slot : Nat) (hsum : sum < 18446744073709551616) (hslot : slot ≤ 4294967295) :
    Calls Try.prog 33 #[.pointer (some ⟨p, 0, none⟩), .int .u64 sum, .int .u32 slot] w (remPost w D p sv Gs sum slot) := by
  have hlp : p < w.heap.size := lt_of_block h.box
  obtain ⟨B, c, rfl, hc, hB, hDB, hBf, hcells⟩ := h.at
  have hp1 : Pure w (w.alloc (.cells #[.int .u32 slot] 32)) := (Mod.refl _ w).alloc _
  have hix := h.pure hp1
  have hbx := heap_new (w := w) (o := (.cells #[.int .u32 slot] 32 (0, 0))) rfl
  go_enter Try.func33, Try.ntmps33
  go_upto_region 1 with fail
  generalize w.alloc (.cells #[.int .u32 slot] 32) = W1 at *
  have hwb : w.heap.size < W1.heap.size := lt_of_block hbx
  generalize w.heap.size = b at *
  have HF := Lib.hid (find1_ok hix sum hsum (same_of (enters_of Try.func57 (by kernel_rfl) rfl) hwb hbx (fun W s hs hW => rem1_ok (x := slot) hW s hs hslot)) rfl)
  have zp := hix.box
  have HZ := Lib.hid (fun (hW : W1.cell? ⟨p, 0, none⟩ = _) => izero_ok (w := W1) (c := c) (a := some ⟨B, 0, none⟩) hW h.ok.pow.pos h.ok.pow.le)
  clear hcells hBf hbx
  have zp_0 := cell_of_row _ _ 0 _ _ _ zp; have zp_1 := cell_of_row _ _ 1 _ _ _ zp; have zp_2 := cell_of_row _ _ 2 _ _ _ zp; have zp_f := (fun j => frozen_of_row _ _ j _ _ zp); have zp_l := lt_of_block zp; simp at zp_0 zp_1 zp_2; have H_zp := Lib.hid zp; clear zp
  go_upto_region 3 with (go_at_call 53; refine Calls.mono (HZ.out zp_0) ?_; rintro e w' ⟨rfl, rfl⟩)
  rcases hfm : findM Gs sum (fun x => x == slot) with _ | ⟨i, j⟩
  · go_wp2_with (go_at_call 54; refine Calls.mono HF.out ?_; rintro e w2 hfp; obtain ⟨rfl, hpu, hix2⟩ := found_none hfp hfm; clear hfp)
    go_ret
    unfold remPost
    rw [hfm]
    exact ⟨rfl, hix2, .of_pure (hp1.trans hpu)⟩
  · go_upto_region 6 with (go_at_call 54; refine Calls.mono HF.out ?_; rintro e w2 hfp; obtain ⟨rfl, hpu, hix2, hfull⟩ := found_some hfp hfm; clear hfp)
    have HM := Lib.hid hfm; have HI := Lib.hid hix2; have HP := Lib.hid (hp1.trans hpu); have HFL := Lib.hid hfull
    clear hfm hix hp1 hpu HF HZ
    clear zp_0 zp_1 zp_2 zp_f zp_l
    clear H_zp
    have hi := hfull.hi; have hj := hfull.hj
    obtain ⟨B3, c3, hsv3, _, hB3, hDB3, hBf3, hcells3⟩ := hix2.at
    cases hsv3
    have zg := (hcells3 i hi).1
    have hg := hix2.ok.at hi
    have HE := Lib.hid (fun W => Erase_ok hg.ctl j _ W hfull.tag hfull.full)
    have x0 : (0 : Int) ≤ j := by omega
    have x1 : (j : Int) < 8 := by omega
    clear hcells3 hix2 hfull
    go_upto_region 7 with (go_at_call 58; refine Calls.mono (HE.out _) ?_; rintro e w3 ⟨rfl, rfl⟩)
    have hbytes : Bytes8 ((grpAt Gs i).1.set j (erased (grpAt Gs i).1)) := (hg.put (j := j) (t := erased (grpAt Gs i).1) (s := 0) (.inr (erased_or _)) (by omega)).ctl.bytes
    have HEm := Lib.hid (fun W => Empties_ok hbytes W)
    have HLaw := Lib.hid (erase_law HI.out.ok HFL.out)
    have HUs := Lib.hid (del_counts HI.out.ok HFL.out).1
    obtain ⟨z, hz⟩ : ∃ z, word8 ((grpAt Gs i).1.set j (erased (grpAt Gs i).1)) = z := ⟨_, rfl⟩
    obtain ⟨m, hmk⟩ : ∃ m, mask (((grpAt Gs i).1.set j (erased (grpAt Gs i).1)).map (· == 128)) = m := ⟨_, rfl⟩
    rw [hz, hmk] at HEm
    rw [hmk] at HLaw
    rw [hz]
    have hm1 : Mod (fun k => k = B) w2 ((w2.setCell ⟨B, i * 9, none⟩ (.int .u64 z)).drew) := (Mod.set1 B (i * 9) _).drew
    have hr1 : ((w2.setCell ⟨B, i * 9, none⟩ (.int .u64 z)).drew).ownsRow 0 89 9 (.slice (some ⟨B, 0, none⟩) Gs.length c) Gs.length ((Gs.flatMap groupCells).set (i * 9) (.int .u64 z)) :=
      owns_mod (owns_setCell HI.out.row (i * 9) (.int .u64 z) (by omega)) (Mod.drew (Mod.refl (fun _ => False) _)) (fun _ _ h => h)
    have hlen : 0 < Gs.length := by omega
    obtain ⟨B4, c4, hsv4, _, hB4, hc4, hf4, _⟩ := owns_at hr1 hlen
    cases hsv4
    have hl9 : i * 9 + 1 + j < ((Gs.flatMap groupCells).set (i * 9) (.int .u64 z)).length := by rw [hr1.1]; omega
    have zs0 : ∃ u, ((w2.setCell ⟨B, i * 9, none⟩ (.int .u64 z)).drew).cell? ⟨B, i * 9 + 1 + j, none⟩ = some u := ⟨_, hc4 _ _ (List.getElem?_eq_getElem hl9)⟩
    obtain ⟨u0, zs⟩ := zs0
    have HM1 := Lib.hid hm1; have HR1 := Lib.hid hr1
    clear hc4 hl9 hm1 hr1 HE hbytes
    generalize (w2.setCell ⟨B, i * 9, none⟩ (.int .u64 z)).drew = W4 at *
    go_upto_region 8 with fail
    have hm2 : Mod (fun k => k = B) w2 (W4.setCell ⟨B, i * 9 + 1 + j, none⟩ (.int .u32 0)) := HM1.out.trans (Mod.set1 B (i * 9 + 1 + j) _)
    have hr2 := owns_setCell HR1.out (i * 9 + 1 + j) (.int .u32 0) (by omega)
    have hpB : p ≠ B := fun e => by
      obtain ⟨cc, e2⟩ := owns_type HI.out.row (g := B) rfl
      have := HI.out.box
      rw [e, e2] at this; cases this
    have zp := hm2.heap hpB HI.out.box
    have HM2 := Lib.hid hm2; have HR2 := Lib.hid hr2
    clear hm2 hr2 zs hf4 HM1 HR1
    generalize W4.setCell ⟨B, i * 9 + 1 + j, none⟩ (.int .u32 0) = W5 at *
    have hul := HI.out.ok.used_le
    have htl := HI.out.ok.tomb_le
    have zp_0 := cell_of_row _ _ 0 _ _ _ zp; have zp_1 := cell_of_row _ _ 1 _ _ _ zp; have zp_2 := cell_of_row _ _ 2 _ _ _ zp; have zp_f := (fun j => frozen_of_row _ _ j _ _ zp); have zp_l := lt_of_block zp; simp at zp_0 zp_1 zp_2; have H_zp := Lib.hid zp; clear zp
    obtain ⟨un, hun⟩ : ∃ un, usedN Gs = un + 1 := ⟨usedN Gs - 1, by have := HUs.out; omega⟩
    rw [hun] at zp_1 hul
    have wu : IntKind.i64.wrap (((un + 1 : Nat) : Int) - 1) = (un : Int) := by rw [show (((un + 1 : Nat) : Int) - 1) = (un : Int) by omega]; exact IntWalk.i64_in _ (by omega)
    have HUN := Lib.hid hun
    clear hun
    go_upto_region 9 with fail
    have hm3 : Mod (fun k => k = p) W5 (W5.setCell ⟨p, 1, none⟩ (.int .i64 un)) := Mod.set1 p 1 _
    have hr3 := owns_mod HR2.out hm3 (fun g hg e => hpB (by
      have : B = g := by simpa [Value.ownBlock] using hg
      exact e.symm.trans this.symm))
    have zp2 := heap_set1 (j := 1) (v := .int .i64 un) H_zp.out
    simp at zp2
    obtain ⟨B6, c6, hsv6, _, hB6, hc6, hf6, _⟩ := owns_at hr3 hlen
    cases hsv6
    have zg : (W5.setCell ⟨p, 1, none⟩ (.int .i64 un)).cell? ⟨B, i * 9, none⟩ = some (.int .u64 z) := by
      refine hc6 _ _ ?_
      rw [List.getElem?_set_ne (by omega), List.getElem?_set_self]
      have := HI.out.row.1
      omega
    have HM3 := Lib.hid hm3
    clear hm3 hr3 hc6 hBf3
    clear zp_0 zp_1 zp_2 zp_f zp_l
    clear H_zp
    generalize W5.setCell ⟨p, 1, none⟩ (.int .i64 un) = W6 at *
    have zp2_0 := cell_of_row _ _ 0 _ _ _ zp2; have zp2_1 := cell_of_row _ _ 1 _ _ _ zp2; have zp2_2 := cell_of_row _ _ 2 _ _ _ zp2; have zp2_f := (fun j => frozen_of_row _ _ j _ _ zp2); have zp2_l := lt_of_block zp2; simp at zp2_0 zp2_1 zp2_2; have H_zp2 := Lib.hid zp2; clear zp2
    have hml : m ≤ 255 := by rw [← hmk]; have := mask_lt (p := ((grpAt Gs i).1.set j (erased (grpAt Gs i).1)).map (· == 128)) (by simp [hg.ctl.1]); omega
    have HMK := Lib.hid hmk; have HZ := Lib.hid hz
    clear hmk hz
    have fin : ∀ (W7 : World) (t' : Int), Mod (fun k => k = p) W6 W7 → W7.heap[p]? = some (.cells #[.slice (some ⟨B, 0, none⟩) Gs.length c, .int .i64 un, .int .i64 t'] 85 (0, 0)) → t' = tombN (setG Gs i j (erased (grpAt Gs i).1) 0) → remPost w D p (.slice (some ⟨B, 0, none⟩) Gs.length c) Gs sum slot (.returned (.int .i64 0)) W7 := fun W7 t' h7 hb7 ht' => by
      unfold remPost
      rw [HM.out]
      have h1 : (un : Int) = usedN (setG Gs i j (erased (grpAt Gs i).1) 0) := by
        have e1 : usedN (setG Gs i j (erased (grpAt Gs i).1) 0) + 1 = usedN Gs := HUs.out
        have e2 := HUN.out
        omega
      obtain ⟨k1, k2⟩ := lane_fin (n' := un) (t' := t') HI.out hi hj (.inr (erased_or _)) (by omega) h1 ht' HM2.out (by rw [HZ.out]; exact HR2.out) (HM3.out.trans h7) hb7
      exact ⟨rfl, k1, (Mod.of_pure HP.out : Mod D w w2).trans k2⟩
    have FIN := Lib.hid fin
    clear fin
    rcases HLaw.out with ⟨hm0, htm⟩ | ⟨hm0, htm⟩
    · subst hm0
      have HTM := Lib.hid htm
      clear htm HLaw HUs
      obtain ⟨tn, htn⟩ : ∃ tn, tombN Gs = tn := ⟨_, rfl⟩
      rw [htn] at zp2_2 htl
      have wt : IntKind.i64.wrap ((tn : Int) + 1) = (tn : Int) + 1 := IntWalk.i64_in _ (by omega)
      have HTN := Lib.hid htn
      clear htn
      go_wp2_with (go_at_call 59; refine Calls.mono (HEm.out _) ?_; rintro e w' ⟨rfl, rfl⟩)
      go_ret
      refine FIN.out _ ((tn : Int) + 1) (Mod.set1 p 2 _) ?_ ?_
      · have := heap_set1 (j := 2) (v := .int .i64 ((tn : Int) + 1)) H_zp2.out
        simpa using this
      · have := HTM.out; have := HTN.out; omega
    · have HTM := Lib.hid htm
      clear htm HLaw HUs
      have hm1 : (1 : Int) ≤ m := by omega
      have hm2 : ((m : Int) == 0) = false := by simp; omega
      go_wp2_with (go_at_call 59; refine Calls.mono (HEm.out _) ?_; rintro e w' ⟨rfl, rfl⟩)
      go_ret
      exact FIN.out _ (tombN Gs) (Mod.refl _ _) H_zp2.out (by have := HTM.out; omega)
/-- Replace. -/
def repPost (w : World) (D : Nat → Prop) (p : Nat) (sv : Value) (Gs : List Grp) (sum old slot : Nat) (e : Ending) (w' : World) : Prop :=
  match findM Gs sum (fun x => x == old) with
  | some x => e = .returned (.int .i64 0) ∧ IxRow w' D p sv (setG Gs x.1 x.2 (sum % 128) slot) ∧ Mod D w w'
  | none => e = .returned (.int .i64 9) ∧ IxRow w' D p sv Gs ∧ Mod D w w'
end Go.Proofs.Ytapplindfijngaa

/- A region that draws, within a round, by the laws of the plain walk (a condition S on the world that every operation keeps): its reads can be taken first. -/
namespace Go.Proofs.Ytapplindfijngaa
open Go.RowKit Go.Shelf
variable {P : Program}

theorem wpOpIn_of_plain {ops : Array Oper} {Q : Exit → Act → World → Prop} (hL : ¬ LetsOut Q) {i : Nat} {K : Act → World → Prop} {a : Act} {w : World} (h : wpOp P ops Q i K a w) : wpOpIn Fence.wide 0 P ops Q i K a w := by
  unfold wpOp at h
  unfold wpOpIn
  cases ho : ops[i]? with
  | none => rw [ho] at h; exact h
  | some o =>
    rw [ho] at h
    dsimp only at h ⊢
    split
    · rename_i hw
      rw [if_pos hw] at h
      rcases h with h | h
      · unfold Oper.wpIn
        refine ⟨fun f _ => trivial, ?_⟩
        rw [show Fence.wide.round = none from rfl, Oper.semAt_none]
        unfold Oper.wp at h
        generalize (execOp a.eval o).run P w = r at h ⊢
        cases r with
        | ok x w' =>
          cases x <;> simp only [Oper.upon, Oper.uponIn] at h ⊢
          all_goals first | exact h | exact h.elim | exact ⟨fun hc => (by cases hc), callsIn_wide.2 h⟩ | exact ⟨fun hc => (by cases hc), fun c cs _ => let ⟨v, w', r, s⟩ := h c cs; ⟨v, w', r, stepsIn_wide.2 s⟩⟩
        | halt x w' =>
          cases x <;> simp only [Oper.upon, Oper.uponIn] at h ⊢
          all_goals first | exact h | exact h.elim
      · exact absurd h.2 hL
    · rename_i hw
      rw [if_neg hw] at h
      exact ⟨fun f _ => trivial, h⟩
theorem wpAnyIn_of_plain {md : Region.Mode} {ops : Array Oper} {Q : Exit → Act → World → Prop} (hL : ¬ LetsOut Q) : ∀ (fuel : Nat) (listed : Array Bool) (a : Act) (w : World),
    wpAny P md ops Q fuel listed a w → wpAnyIn Fence.wide 0 P md ops Q fuel listed a w
  | 0, _, _, _, h => h
  | fuel + 1, listed, _, _, h => ⟨h.1, fun i hi => wpOpIn_of_plain hL (wpOp_mono (fun _ _ hk => wpAnyIn_of_plain hL fuel _ _ _ hk) (h.2 i hi))⟩
/-- A region that draws, within a round, by a condition on the world. -/
theorem region_held {l id : Nat} {ops : Array Oper} {Q : Exit → Act → World → Prop} {a : Act} {w : World} (S : World → Prop) (hm : P.follows .mixedOrders = true) (hd : noDefer ops = true) (hL : ¬ LetsOut Q) (hS : S w.drew)
    (h : S w.drew → wpAnyH P .any ops Q S ops.size (Array.replicate ops.size false) a w.drew) : (Code.region id ops true).wpIn (Fence.wide.inRound l) 0 P Q a w :=
  region_in hm hd (wpAnyIn_of_plain hL _ _ _ _ (wpAny_of_held _ _ _ _ (h hS)))

/-! ### a function's end behind several ranges over a function -/
def marksOf (ls : List Nat) : List Deferred := ls.map (fun l => { target := .collected l, args := #[] })
theorem bodyPostM_marks {fn : Func} {R : Ending → World → Prop} {tmps : Array Value} {N : Nat} {v : Value} : ∀ {ls : List Nat} {W : World} (_ : ∀ l ∈ ls, W.heap[l]? = some (.deferred (some []))) (_ : ls.Nodup) (_ : ∀ l ∈ ls, N ≤ l)
    (_ : ∀ W', (results fn tmps).run P W' = .ok v W') (_ : ∀ W', Quiet N W W' → R (.returned v) W'), bodyPostM Fence.wide 0 P fn R .ret { tmps := tmps, defers := marksOf ls } W
  | [], W, _, _, _, hr, hR => ⟨v, hr W, hR W (Quiet.refl _ _)⟩
  | l :: ls, W, hm, hn, hN, hr, hR => by
    have hk := hm l (by simp)
    refine ⟨by simp, .inl ⟨_, _, rfl, run_takeDeferred hk, ?_⟩⟩
    have hq : Quiet N W (W.putObj l (.deferred none)) := Quiet.putObj (.deferred none) (hN l (by simp)) hk rfl
    refine bodyPostM_marks (ls := ls) (fun l' hl' => ?_) (List.nodup_cons.1 hn).2 (fun l' hl' => hN l' (by simp [hl'])) hr (fun W' hW' => hR W' (hq.trans hW'))
    have hne : l' ≠ l := fun e => (List.nodup_cons.1 hn).1 (e ▸ hl')
    exact (World.putObj_heap_other hne).trans (hm l' (by simp [hl']))
end Go.Proofs.Ytapplindfijngaa

/- swiss.Index.Rehash. -/
namespace Go.Proofs.Ytapplindfijngaa
open Go.RowKit Go.Shelf
set_option maxRecDepth 100000
attribute [local go_sem] Oper.semAt_some

/-- The lanes of a group that hold a slot number; these, in order. -/
def fullIn (c : Grp) : List Nat := lanesOf (mask (c.1.map (fun x => decide (x < 128))))
def fullS (c : Grp) : List Nat := (fullIn c).map (fun j => c.2.getD j 0)
def insD (H : Nat → Nat) (o : List Grp) (s : Nat) : List Grp := (insM o (H s) s).getD o
def rehM (H : Nat → Nat) (g : Nat) (Gs : List Grp) : List Grp := (Gs.flatMap fullS).foldl (insD H) (newG g)
/-- THE CONTRACT OF THE FUNCTION THAT IS CALLED BACK for the hash of a slot number in S. -/
structure SumOk (P : Program) (gf : Nat) (fb lb : Array Value) (H : Nat → Nat) (S : Nat → Prop) (J : World → Prop) (w : World) : Prop where
  enters : ∀ args w, (callFunc gf args).run P w = .ok (.enter gf args) w
  call : ∀ (s : Nat) W, s ≤ 4294967295 → S s → J W → CallsIn Fence.wide 0 P gf (fb.push (.int .u32 s) ++ lb) W fun e w' => e = .returned (.int .u64 (H s)) ∧ Pure W w'
  lt : ∀ s, H s < 18446744073709551616
  keep : ∀ A B, J A → Mod (fun k => w.heap.size ≤ k) A B → J B
  start : J w
theorem insD_ok {H : Nat → Nat} {o : List Grp} {s : Nat} (h : IxOk o) (hs : s ≤ 4294967295) : IxOk (insD H o s) ∧ (insD H o s).length = o.length := by
  unfold insD
  cases e : insM o (H s) s with
  | none => exact ⟨h, rfl⟩
  | some o' => exact ⟨(ins_counts h hs e).2.2.1, (ins_counts h hs e).2.1⟩
theorem fullS_lt {c : Grp} (h : GrpOk c) : ∀ s ∈ fullS c, s ≤ 4294967295 := by
  intro s hs
  obtain ⟨j, _, rfl⟩ := List.mem_map.1 hs
  exact h.slot j
/-- What is known while Rehash runs. -/
structure RhO (w : World) (D : Nat → Prop) (p : Nat) (sv : Value) (Gs : List Grp) (gf : Nat) (fb lb : Array Value) (J : World → Prop) (b5 b8 p2 : Nat) (sv2 : Value) (o : List Grp) (ls : List Nat) (W : World) : Prop where
  pu : Pure w W
  h5 : W.heap[b5]? = some (.cells #[.func (.func gf) fb lb] 79 (0, 0))
  h8 : W.heap[b8]? = some (.cells #[.pointer (some ⟨p2, 0, none⟩)] 57 (0, 0))
  ix : IxRow W D p sv Gs
  out : IxRow W (fun k => k = p2 ∨ sv2.ownBlock = some k) p2 sv2 o
  j : J W
  mks : ∀ l ∈ ls, W.heap[l]? = some (.deferred (some []))
section
variable {w : World} {D : Nat → Prop} {p : Nat} {sv : Value} {Gs : List Grp} {gf : Nat} {fb lb : Array Value} {H : Nat → Nat} {S : Nat → Prop} {J : World → Prop} {b5 b8 p2 : Nat} {sv2 : Value} {o : List Grp} {ls : List Nat}
theorem RhO.pure (hs : SumOk Try.prog gf fb lb H S J w) {A B : World} (h : RhO w D p sv Gs gf fb lb J b5 b8 p2 sv2 o ls A) (hq : Pure A B) : RhO w D p sv Gs gf fb lb J b5 b8 p2 sv2 o ls B :=
  ⟨h.pu.trans hq, hq.heap (fun h => h) h.h5, hq.heap (fun h => h) h.h8, h.ix.pure hq, h.out.pure hq, hs.keep _ _ h.j (Mod.of_pure hq), fun l hl => hq.heap (fun h => h) (h.mks l hl)⟩
theorem RhO.quiet (hs : SumOk Try.prog gf fb lb H S J w) {N : Nat} (hN : w.heap.size ≤ N) (hls : ∀ l ∈ ls, l < N) {A B : World} (h : RhO w D p sv Gs gf fb lb J b5 b8 p2 sv2 o ls A) (hq : Quiet N A B) : RhO w D p sv Gs gf fb lb J b5 b8 p2 sv2 o ls B :=
  ⟨hq.mod h.pu hN, hq.cells h.h5, hq.cells h.h8, h.ix.quiet hq, h.out.quiet hq, hs.keep _ _ h.j (Mod.mono hq (fun k _ hk => by have := hk.1; omega)), fun l hl => Mod.heap hq (fun hk => by have := hk.1; have := hls l hl; omega) (h.mks l hl)⟩
end
theorem ins_any {H : Nat → Nat} {w w' : World} {D : Nat → Prop} {p : Nat} {sv : Value} {o : List Grp} {s hh : Nat} {e : Ending} (hh0 : H s = hh) (h : insPost w D p sv o hh s e w') : ∃ z, e = .returned (.int .i64 z) ∧ IxRow w' D p sv (insD H o s) ∧ Mod D w w' := by
  subst hh0
  unfold insPost at h
  unfold insD
  cases hm : insM o (H s) s with
  | none => rw [hm] at h; exact ⟨_, h.1, h.2.1, h.2.2⟩
  | some o' => rw [hm] at h; exact ⟨_, h.1, h.2.1, h.2.2⟩
/-- Between two lanes of a group q. -/
structure RhI (w : World) (D : Nat → Prop) (p : Nat) (sv : Value) (Gs : List Grp) (gf : Nat) (fb lb : Array Value) (J : World → Prop) (b5 b8 p2 : Nat) (sv2 : Value) (o : List Grp) (ls : List Nat) (H : Nat → Nat) (q : Grp) (b11 BL m : Nat) (pre : List Nat) (W : World) : Prop where
  ro : RhO w D p sv Gs gf fb lb J b5 b8 p2 sv2 ((pre.map (fun j => q.2.getD j 0)).foldl (insD H) o) ls W
  bx : W.heap[b11]? = some (.cells #[.int .u64 (word8 q.1 : Nat), .int .u32 (q.2[0]?.getD 0 : Nat), .int .u32 (q.2[1]?.getD 0 : Nat), .int .u32 (q.2[2]?.getD 0 : Nat), .int .u32 (q.2[3]?.getD 0 : Nat), .int .u32 (q.2[4]?.getD 0 : Nat), .int .u32 (q.2[5]?.getD 0 : Nat), .int .u32 (q.2[6]?.getD 0 : Nat), .int .u32 (q.2[7]?.getD 0 : Nat)] 89 (0, 0))
  la : LanesAt W BL m
@[go_sem] theorem eql_sum (w : World) (fn : Fn) (fi ca : Array Value) : (binOp .eql 79 (.func fn fi ca) .nilFunc).run Try.prog w = .ok (.bool false) w := by
  simp only [binOp]
  simp [Op.equal, Op.maxDepth, run_equal_func w 9999 _ fn fi ca Try.underlying79]
set_option maxHeartbeats 4000000 in
theorem Rehash_ok {w : World} {D : Nat → Prop} {p : Nat} {sv : Value} {Gs : List Grp} (h : IxRow w D p sv Gs) (g : Nat) (hg : Pow g) (hu : usedN Gs ≤ 8 * g) {gf : Nat} {fb lb : Array Value} {H : Nat → Nat} {S : Nat → Prop} {J : World → Prop}
    (hs : SumOk Try.prog gf fb lb H S J w) (hS : ∀ s ∈ Gs.flatMap fullS, S s) :
    Calls Try.prog 62 #[.pointer (some ⟨p, 0, none⟩), .int .i64 g, .func (.func gf) fb lb] w (fun e w' => ∃ p2 sv2, e = .returned (.tuple #[.pointer (some ⟨p2, 0, none⟩), .int .i64 0]) ∧
      IxRow w' (fun k => k = p2 ∨ sv2.ownBlock = some k) p2 sv2 (rehM H g Gs) ∧ Pure w w' ∧ w.heap.size ≤ p2 ∧ (∀ k, sv2.ownBlock = some k → w.heap.size ≤ k) ∧ IxRow w' D p sv Gs ∧ J w') := by
  have hp : Pure w (w.alloc (.cells #[.func (.func gf) fb lb] 79)) := (Mod.refl _ w).alloc _
  have hb5 := heap_new (w := w) (o := (.cells #[.func (.func gf) fb lb] 79 (0, 0))) rfl
  obtain ⟨B, c, rfl, hc, hB, hDB, hBf, hcells⟩ := h.at
  have zp := hp.heap (fun h => h) h.box
  have hgl := h.ok.pow.le; have hgl1 := h.ok.pow.pos
  have HZ := Lib.hid (fun (W : World) (hW : W.cell? ⟨p, 0, none⟩ = _) => izero_ok (w := W) (c := c) (a := some ⟨B, 0, none⟩) hW h.ok.pow.pos h.ok.pow.le)
  have HN := Lib.hid (fun W => New_ok g W hg)
  have HX := Lib.hid h; have HS := Lib.hid hs; have HSS := Lib.hid hS
  have HP := Lib.hid hp
  clear hcells h hBf hp hs hS
  (refine (callsIn_wide (n := 0)).1 (callsIn_of_wp_marks Try.func62 rfl trivial (wpIn_wide.2 ?_) rfl); simp only [Try.ntmps62, List.size_toArray, List.length_cons, List.length_nil, Nat.reduceAdd, Nat.reduceSub, Array.replicate_succ, Array.replicate_zero, List.push_toArray, List.append_toArray, List.nil_append, List.cons_append])
  go_upto_region 1 with fail
  generalize w.alloc (.cells #[.func (.func gf) fb lb] 79) = W1 at *
  obtain ⟨b5, hb5e⟩ : ∃ b5, w.heap.size = b5 := ⟨_, rfl⟩
  rw [hb5e] at hb5 ⊢
  have zp_0 := cell_of_row _ _ 0 _ _ _ zp; have zp_1 := cell_of_row _ _ 1 _ _ _ zp; have zp_2 := cell_of_row _ _ 2 _ _ _ zp; have zp_f := (fun j => frozen_of_row _ _ j _ _ zp); have zp_l := lt_of_block zp; simp at zp_0 zp_1 zp_2; have H_zp := Lib.hid zp; clear zp
  go_upto_region 3 with (go_at_call 53; refine Calls.mono (HZ.out _ zp_0) ?_; rintro e w' ⟨rfl, rfl⟩)
  go_upto_region 4 with (go_at_call 19; refine Calls.mono (HN.out _) ?_; rintro e w2 ⟨p2, sv2, rfl, hix2, hp2, hl2, hs2⟩)
  have hp3 : Pure w2 (w2.alloc (.cells #[.pointer (some ⟨p2, 0, none⟩)] 57)) := (Mod.refl _ w2).alloc _
  have z8 := heap_new (w := w2) (o := (.cells #[.pointer (some ⟨p2, 0, none⟩)] 57 (0, 0))) rfl
  have hb8 : w.heap.size ≤ w2.heap.size := Nat.le_trans HP.out.size hp2.size
  have z5 := (hp2.trans hp3).heap (fun h => h) hb5
  have zp2 := (hp2.trans hp3).heap (fun h => h) H_zp.out
  have HO := Lib.hid (RhO.mk (J := J) (ls := []) ((HP.out.trans hp2).trans hp3) z5 z8 (HX.out.pure ((HP.out.trans hp2).trans hp3)) (hix2.pure hp3) (HS.out.keep _ _ HS.out.start (Mod.of_pure ((HP.out.trans hp2).trans hp3))) (by simp))
  have hw1 : w.heap.size ≤ W1.heap.size := HP.out.size
  have hlp2 : w.heap.size ≤ p2 := Nat.le_trans hw1 hl2
  have hls2 : ∀ k, sv2.ownBlock = some k → w.heap.size ≤ k := fun k hk => Nat.le_trans hw1 (hs2 k hk)
  have HL2 := Lib.hid hls2
  clear zp_0 zp_1 zp_2 zp_f zp_l
  clear H_zp HZ HN hix2 hp2 hp3 hb5 hl2 hs2 hls2 HP
  generalize w2.alloc (.cells #[.pointer (some ⟨p2, 0, none⟩)] 57) = W3 at *
  obtain ⟨b8, hb8e⟩ : ∃ b8, w2.heap.size = b8 := ⟨_, rfl⟩
  rw [hb8e] at HO z8 hb8 ⊢
  clear hb8e hw1
  have hgu : g ≤ 1048576 := hg.le
  have w8 : IntKind.i64.wrap ((g : Int) * 8) = (g : Int) * 8 := IntWalk.i64_in _ (by omega)
  have hu' : (usedN Gs : Int) ≤ (g : Int) * 8 := by omega
  have wg : IntKind.i64.wrap (Gs.length : Int) = Gs.length := IntWalk.i64_in _ (by omega)
  have z5_0 := cell_of_row _ _ 0 _ _ _ z5; have z5_f := (fun j => frozen_of_row _ _ j _ _ z5); have z5_l := lt_of_block z5; simp at z5_0; have H_z5 := Lib.hid z5; clear z5
  have z8_0 := cell_of_row _ _ 0 _ _ _ z8; have z8_f := (fun j => frozen_of_row _ _ j _ _ z8); have z8_l := lt_of_block z8; simp at z8_0; have H_z8 := Lib.hid z8; clear z8
  have zp2_0 := cell_of_row _ _ 0 _ _ _ zp2; have zp2_1 := cell_of_row _ _ 1 _ _ _ zp2; have zp2_2 := cell_of_row _ _ 2 _ _ _ zp2; have zp2_f := (fun j => frozen_of_row _ _ j _ _ zp2); have zp2_l := lt_of_block zp2; simp at zp2_0 zp2_1 zp2_2; have H_zp2 := Lib.hid zp2; clear zp2
  go_upto_region 11 with fail
  refine wp_loop (fun a' wr => ∃ (i : Nat) (ls : List Nat) (u11 u12 u41 u42 u43 u44 u45 u46 u47 u48 u49 u50 u51 u52 u53 u54 u55 u56 u57 u58 u59 u60 u61 : Value), i ≤ Gs.length ∧ RhO w D p (.slice (some ⟨B, 0, none⟩) Gs.length c) Gs gf fb lb J b5 b8 p2 sv2 (((Gs.take i).flatMap fullS).foldl (insD H) (newG g)) ls wr ∧ ls.Nodup ∧ (∀ l ∈ ls, w.heap.size ≤ l) ∧ a' = { tmps := #[.pointer (some ⟨p, 0, none⟩), .int .i64 g, .func (.func gf) fb lb, undef, undef, .pointer (some ⟨b5, 0, none⟩), .pointer none, .int .i64 0, .pointer (some ⟨b8, 0, none⟩), .int .i64 0, undef, u11, u12, .pointer (some ⟨p, 0, none⟩), .bool false, .tuple #[.pointer (some ⟨p2, 0, none⟩), .int .i64 0], .int .i64 g, .tuple #[.pointer (some ⟨p2, 0, none⟩), .int .i64 0], .pointer (some ⟨p2, 0, none⟩), .int .i64 0, .bool false, .int .i64 0, .bool false, undef, .bool false, .func (.func gf) fb lb, .bool false, .bool (decide ((g : Int) * 8 < (usedN Gs : Int))), .pointer (some ⟨p, 0, none⟩), .pointer (some ⟨p, 0, none⟩), .pointer (some ⟨p, 1, none⟩), .int .i64 (usedN Gs), .int .i64 g, .int .i64 ((g : Int) * 8), .bool (decide ((g : Int) * 8 < (usedN Gs : Int))), .pointer (some ⟨p, 0, none⟩), .pointer (some ⟨p, 0, none⟩), .pointer (some ⟨p, 0, none⟩), .slice (some ⟨B, 0, none⟩) Gs.length c, .int .i64 Gs.length, .int .i64 (i : Nat), u41, u42, u43, u44, u45, u46, u47, u48, u49, u50, u51, u52, u53, u54, u55, u56, u57, u58, u59, u60, u61, undef], defers := marksOf ls }) (fun a' _ => Gs.length - (intOf (a'.tmps.getD 40 undef)).toNat) ?_ ?_
  · refine ⟨0, [], undef, undef, undef, undef, undef, undef, undef, undef, undef, undef, undef, undef, undef, undef, undef, undef, undef, undef, undef, undef, undef, undef, undef, Nat.zero_le _, ?_, List.nodup_nil, by simp, rfl⟩
    simpa using HO.out
  · rintro a' wr ⟨i, ls, u11, u12, u41, u42, u43, u44, u45, u46, u47, u48, u49, u50, u51, u52, u53, u54, u55, u56, u57, u58, u59, u60, u61, hi, hro, hnd, hlsw, rfl⟩
    have HR := Lib.hid hro; have HND := Lib.hid hnd; have HLW := Lib.hid hlsw
    clear z5_0 z5_f z5_l
    clear z8_0 z8_f z8_l
    clear zp2_0 zp2_1 zp2_2 zp2_f zp2_l
    clear H_z5 H_z8 H_zp2 hro hnd hlsw HO
    by_cases hlt : i < Gs.length
    · have hlt' : (i : Int) < (Gs.length : Int) := by omega
      obtain ⟨B3, c3, hsv3, _, hB3, hDB3, hBf3, hcells3⟩ := HR.out.ix.at
      cases hsv3
      obtain ⟨zg, zsl⟩ := hcells3 i hlt
      have z0 := zsl 0 (by omega); have z1 := zsl 1 (by omega); have z2 := zsl 2 (by omega); have z3 := zsl 3 (by omega); have z4 := zsl 4 (by omega); have z5 := zsl 5 (by omega); have z6 := zsl 6 (by omega); have z7 := zsl 7 (by omega)
      have HG := Lib.hid (HR.out.ix.ok.at hlt)
      clear hcells3 zsl
      obtain ⟨q, hq⟩ : ∃ q, grpAt Gs i = q := ⟨_, rfl⟩
      rw [hq] at zg z0 z1 z2 z3 z4 z5 z6 z7 HG
      have HGG := Lib.hid hq
      clear hq
      go_upto_region 13 with fail
      have hp7 : Pure wr (wr.alloc (.cells #[.int .u64 (word8 q.1 : Nat), .int .u32 (q.2[0]?.getD 0 : Nat), .int .u32 (q.2[1]?.getD 0 : Nat), .int .u32 (q.2[2]?.getD 0 : Nat), .int .u32 (q.2[3]?.getD 0 : Nat), .int .u32 (q.2[4]?.getD 0 : Nat), .int .u32 (q.2[5]?.getD 0 : Nat), .int .u32 (q.2[6]?.getD 0 : Nat), .int .u32 (q.2[7]?.getD 0 : Nat)] 89)) := (Mod.refl _ wr).alloc _
      have h7 := heap_new (w := wr) (o := .cells #[.int .u64 (word8 q.1 : Nat), .int .u32 (q.2[0]?.getD 0 : Nat), .int .u32 (q.2[1]?.getD 0 : Nat), .int .u32 (q.2[2]?.getD 0 : Nat), .int .u32 (q.2[3]?.getD 0 : Nat), .int .u32 (q.2[4]?.getD 0 : Nat), .int .u32 (q.2[5]?.getD 0 : Nat), .int .u32 (q.2[6]?.getD 0 : Nat), .int .u32 (q.2[7]?.getD 0 : Nat)] 89 (0, 0)) rfl
      have HFU := Lib.hid (fun W => Full_ok HG.out.ctl.bytes W)
      obtain ⟨m, hm⟩ : ∃ m, mask (q.1.map (fun x => decide (x < 128))) = m := ⟨_, rfl⟩
      rw [hm] at HFU
      have hml : m < 256 := by rw [← hm]; exact mask_lt (by rw [List.length_map]; exact HG.out.ctl.1)
      have HLA := Lib.hid (fun W => Lanes_ok m W)
      have HM := Lib.hid hm
      have HR7 := Lib.hid (HR.out.pure HS.out hp7)
      have hn11 : ∀ k, (k = p2 ∨ sv2.ownBlock = some k) → k ≠ wr.heap.size := by
        rintro k (rfl | hk) e
        · have := lt_of_block HR.out.out.box; omega
        · obtain ⟨_, e2⟩ := owns_type HR.out.out.row hk
          have := lt_of_block e2; omega
      have HN11 := Lib.hid hn11
      have hlsr : ∀ l ∈ ls, l < wr.heap.size := fun l hl => (Array.getElem?_eq_some_iff.1 (HR.out.mks l hl)).1
      have hs7 : wr.heap.size < (wr.alloc (.cells #[.int .u64 (word8 q.1 : Nat), .int .u32 (q.2[0]?.getD 0 : Nat), .int .u32 (q.2[1]?.getD 0 : Nat), .int .u32 (q.2[2]?.getD 0 : Nat), .int .u32 (q.2[3]?.getD 0 : Nat), .int .u32 (q.2[4]?.getD 0 : Nat), .int .u32 (q.2[5]?.getD 0 : Nat), .int .u32 (q.2[6]?.getD 0 : Nat), .int .u32 (q.2[7]?.getD 0 : Nat)] 89)).heap.size := lt_of_block h7
      have HLSR := Lib.hid hlsr
      clear z0 z1 z2 z3 z4 z5 z6 z7 zg hp7 hm hn11 hlsr hBf3
      generalize wr.alloc (.cells #[.int .u64 (word8 q.1 : Nat), .int .u32 (q.2[0]?.getD 0 : Nat), .int .u32 (q.2[1]?.getD 0 : Nat), .int .u32 (q.2[2]?.getD 0 : Nat), .int .u32 (q.2[3]?.getD 0 : Nat), .int .u32 (q.2[4]?.getD 0 : Nat), .int .u32 (q.2[5]?.getD 0 : Nat), .int .u32 (q.2[6]?.getD 0 : Nat), .int .u32 (q.2[7]?.getD 0 : Nat)] 89) = W7 at *
      obtain ⟨b11, hb11⟩ : ∃ b11, wr.heap.size = b11 := ⟨_, rfl⟩
      rw [hb11] at h7 hs7 HN11 HLSR ⊢
      clear hb11
      have H7 := Lib.hid h7
      have h7_0 := cell_of_row _ _ 0 _ _ _ h7; have h7_1 := cell_of_row _ _ 1 _ _ _ h7; have h7_2 := cell_of_row _ _ 2 _ _ _ h7; have h7_3 := cell_of_row _ _ 3 _ _ _ h7; have h7_4 := cell_of_row _ _ 4 _ _ _ h7; have h7_5 := cell_of_row _ _ 5 _ _ _ h7; have h7_6 := cell_of_row _ _ 6 _ _ _ h7; have h7_7 := cell_of_row _ _ 7 _ _ _ h7; have h7_8 := cell_of_row _ _ 8 _ _ _ h7; have h7_f := (fun j => frozen_of_row _ _ j _ _ h7); have h7_l := lt_of_block h7; simp at h7_0 h7_1 h7_2 h7_3 h7_4 h7_5 h7_6 h7_7 h7_8; have H_h7 := Lib.hid h7; clear h7
      go_wp2_with (first
        | (go_at_call 78; refine Calls.mono (HFU.out _) ?_; rintro e w' ⟨rfl, rfl⟩)
        | (go_at_call 75; refine Calls.mono (HLA.out _) ?_; rintro e w4 ⟨BL, rfl, hla, hp4, hBL⟩))
      have hb11w : b11 < w4.heap.size := Nat.lt_of_lt_of_le hs7 hp4.size
      have hw4 : w.heap.size ≤ w4.heap.size := Nat.le_trans HR7.out.pu.size hp4.size
      have HI0 : Hid (RhI w D p (.slice (some ⟨B, 0, none⟩) Gs.length c) Gs gf fb lb J b5 b8 p2 sv2 (((Gs.take i).flatMap fullS).foldl (insD H) (newG g)) ls H q b11 BL m [] w4) := ⟨HR7.out.pure HS.out hp4, hp4.heap (fun h => h) H_h7.out, hla⟩
      have hBlt : BL < w4.heap.size := lt_of_block hla.set
      have HLA4 := Lib.hid hla
      clear h7_0 h7_1 h7_2 h7_3 h7_4 h7_5 h7_6 h7_7 h7_8 h7_f h7_l
      clear H_h7 H7 hp4 hla HR7 HFU HLA
      refine wpIn_wide.1 (wp_range2 (gf := 87) (lb := #[.pointer (some ⟨BL, 0, none⟩)]) rfl (enters_of Try.func87 (by kernel_rfl) rfl) (It := fun k => k = BL) (Lanes_iter HLA4.out hml) (fun k hk => by rw [hk]; exact hBlt) (fun _ => rfl)
        (fun pre W => RhI w D p (.slice (some ⟨B, 0, none⟩) Gs.length c) Gs gf fb lb J b5 b8 p2 sv2 (((Gs.take i).flatMap fullS).foldl (insD H) (newG g)) ls H q b11 BL m pre W) (fun _ _ _ => False) ?hI ?hIx HI0.out ?round ?done ?stop)
      case hI => exact fun pre X Y h hq => ⟨h.ro.quiet HS.out hw4 (fun l hl => by have := HLSR.out l hl; omega) hq, hq.cells h.bx, ⟨hq.cells h.la.set⟩⟩
      case hIx => exact fun _ _ _ _ h _ => h
      case stop => exact fun _ _ _ _ _ h => h.elim
      case done =>
        rintro l xs W hl hSx hI hK
        have hxs : xs = lanesOf m := hSx
        have HIx := Lib.hid hI
        have HKx := Lib.hid hK
        clear hI hK HI0 HLA4
        go_wp2
        refine ⟨⟨i + 1, l :: ls, _, _, _, _, _, _, _, _, _, _, _, _, _, _, _, _, _, _, _, _, _, _, _, hlt, ?_, List.nodup_cons.2 ⟨fun h => ?_, HND.out⟩, fun l' hl' => ?_, rfl⟩, ?_⟩
        · have e1 : (Gs.take (i + 1)).flatMap fullS = (Gs.take i).flatMap fullS ++ fullS q := by
            rw [List.take_add_one, grpAt_some hlt, HGG.out]; simp
          have e2 : fullS q = xs.map (fun j => q.2.getD j 0) := by unfold fullS fullIn; rw [HM.out, hxs]
          rw [e1, List.foldl_append, e2]
          have := HIx.out.ro
          exact ⟨this.pu, this.h5, this.h8, this.ix, this.out, this.j, fun l' hl' => by
            rcases List.mem_cons.1 hl' with rfl | h
            · exact HKx.out
            · exact this.mks l' h⟩
        · have := HLSR.out l h; omega
        · rcases List.mem_cons.1 hl' with rfl | h
          · omega
          · exact HLW.out l' h
        · simp [intOf]; omega
      case round =>
        rintro l pre j W K hI hGx hK
        obtain ⟨post, hpost⟩ := hGx
        dsimp only [encN]
        have hjm : j ∈ fullIn q := by
          unfold fullIn
          rw [HM.out, hpost]
          simp
        have hj8 : j < 8 := by
          have := hjm
          unfold fullIn lanesOf at this
          exact List.mem_range.1 (List.mem_filter.1 this).1
        have HI := Lib.hid hI; have HK := Lib.hid hK; have HJM := Lib.hid hjm
        clear hI hK HI0 HLA4 hpost hjm
        gi_wp2
        refine HK.out _ _ (Mod.refl _ _) (fun l' W2 hl hr hq => ?_)
        have HI2 : Hid (RhI w D p (.slice (some ⟨B, 0, none⟩) Gs.length c) Gs gf fb lb J b5 b8 p2 sv2 (((Gs.take i).flatMap fullS).foldl (insD H) (newG g)) ls H q b11 BL m pre W2) := ⟨HI.out.ro.quiet HS.out hw4 (fun l hl => by have := HLSR.out l hl; omega) hq, hq.cells HI.out.bx, ⟨hq.cells HI.out.la.set⟩⟩
        clear HK HI hq hr
        gi_upto_region 15 with fail
        obtain ⟨sl, hsl⟩ : ∃ sl, q.2.getD j 0 = sl := ⟨_, rfl⟩
        have hsl1 : sl ≤ 4294967295 := by rw [← hsl]; exact HG.out.slot j
        have hsl2 : S sl := by
          refine HSS.out sl (List.mem_flatMap.2 ⟨q, ?_, ?_⟩)
          · rw [← HGG.out]; exact List.mem_of_getElem? (grpAt_some hlt)
          · rw [← hsl]; exact List.mem_map.2 ⟨j, HJM.out, rfl⟩
        have c8 := cell_of_row W2 b8 0 _ _ _ HI2.out.ro.h8
        have c5 := cell_of_row W2 b5 0 _ _ _ HI2.out.ro.h5
        have c11 : W2.cell? ⟨b11, 1 + j, none⟩ = some (.int .u32 sl) := by
          have hv : (#[.int .u64 (word8 q.1 : Nat), .int .u32 (q.2[0]?.getD 0 : Nat), .int .u32 (q.2[1]?.getD 0 : Nat), .int .u32 (q.2[2]?.getD 0 : Nat), .int .u32 (q.2[3]?.getD 0 : Nat), .int .u32 (q.2[4]?.getD 0 : Nat), .int .u32 (q.2[5]?.getD 0 : Nat), .int .u32 (q.2[6]?.getD 0 : Nat), .int .u32 (q.2[7]?.getD 0 : Nat)] : Array Value)[1 + j]? = some (.int .u32 (q.2.getD j 0 : Nat)) := by
            have : j = 0 ∨ j = 1 ∨ j = 2 ∨ j = 3 ∨ j = 4 ∨ j = 5 ∨ j = 6 ∨ j = 7 := by omega
            rcases this with rfl | rfl | rfl | rfl | rfl | rfl | rfl | rfl <;> rfl
          rw [hsl] at hv
          have := World.news_of_block HI2.out.bx (1 + j) (.int .u32 sl) (by rw [Array.getElem?_toList]; exact hv)
          simpa [Addr.add] using this
        simp at c8 c5
        have x0 : (0 : Int) ≤ j := by omega
        have x1 : (j : Int) < 8 := by omega
        refine region_held (fun X => X.cell? ⟨b8, 0, none⟩ = some (.pointer (some ⟨p2, 0, none⟩)) ∧ X.cell? ⟨b5, 0, none⟩ = some (.func (.func gf) fb lb) ∧ X.cell? ⟨b11, 1 + j, none⟩ = some (.int .u32 sl)) (by kernel_rfl) (by kernel_rfl) ?hL ⟨c8, c5, c11⟩ (fun hHeld => ?_)
        case hL => rintro ⟨a, w, h⟩; exact h
        (refine wpAnyH_take (i := 2) (v := ?_) rfl (by kernel_rfl) (by kernel_rfl) (by kernel_rfl) (fun _ _ _ h => h) (Yields.yieldsIf (Or.inl ⟨by rfl, ?_⟩)) hHeld ?_; rotate_left 1; focus (intro w; go_simp; try with_reducible rfl))
        (refine wpAnyH_take (i := 3) (v := ?_) rfl (by kernel_rfl) (by kernel_rfl) (by kernel_rfl) (fun _ _ _ h => h) (Yields.yieldsIf (Or.inl ⟨by rfl, ?_⟩)) hHeld ?_; rotate_left 1; focus (intro w; go_simp; try with_reducible rfl))
        (refine wpAnyH_take (i := 4) (v := ?_) rfl (by kernel_rfl) (by kernel_rfl) (by kernel_rfl) (fun _ _ _ h => h) (Yields.yieldsIf (Or.inl ⟨by rfl, ?_⟩)) hHeld ?_; rotate_left 1; focus (intro w; go_simp; try with_reducible rfl))
        (refine wpAnyH_take (i := 7) (v := ?_) rfl (by kernel_rfl) (by kernel_rfl) (by kernel_rfl) (fun _ _ _ h => h) (Yields.yieldsIf (Or.inl ⟨by rfl, ?_⟩)) hHeld ?_; rotate_left 1; focus (intro w; go_simp; try with_reducible rfl))
        (refine wpAnyH_take (i := 8) (v := ?_) rfl (by kernel_rfl) (by kernel_rfl) (by kernel_rfl) (fun _ _ _ h => h) (Yields.yieldsIf (Or.inl ⟨by rfl, ?_⟩)) hHeld ?_; rotate_left 1; focus (intro w; go_simp; try with_reducible rfl))
        (refine wpAnyH_take (i := 9) (v := ?_) rfl (by kernel_rfl) (by kernel_rfl) (by kernel_rfl) (fun _ _ _ h => h) (Yields.yieldsIf (Or.inl ⟨by rfl, ?_⟩)) hHeld ?_; rotate_left 1; focus (intro w; go_simp; try with_reducible rfl))
        (refine wpAnyH_take (i := 0) (v := ?_) rfl (by kernel_rfl) (by kernel_rfl) (by kernel_rfl) (fun _ _ _ h => h) (Or.inl ⟨by rfl, ?_⟩) hHeld ?_; rotate_left 1; focus (intro w hS; obtain ⟨s8, s5, s11⟩ := hS; go_simp; try with_reducible rfl))
        (refine wpAnyH_take (i := 1) (v := ?_) rfl (by kernel_rfl) (by kernel_rfl) (by kernel_rfl) (fun _ _ _ h => h) (Or.inl ⟨by rfl, ?_⟩) hHeld ?_; rotate_left 1; focus (intro w hS; obtain ⟨s8, s5, s11⟩ := hS; go_simp; try with_reducible rfl))
        (refine wpAnyH_take (i := 5) (v := ?_) rfl (by kernel_rfl) (by kernel_rfl) (by kernel_rfl) (fun _ _ _ h => h) (Or.inl ⟨by rfl, ?_⟩) hHeld ?_; rotate_left 1; focus (intro w hS; obtain ⟨s8, s5, s11⟩ := hS; go_simp; try with_reducible rfl))
        (refine wpAnyH_take (i := 10) (v := ?_) rfl (by kernel_rfl) (by kernel_rfl) (by kernel_rfl) (fun _ _ _ h => h) (Or.inl ⟨by rfl, ?_⟩) hHeld ?_; rotate_left 1; focus (intro w hS; obtain ⟨s8, s5, s11⟩ := hS; go_simp; try with_reducible rfl))
        have hen := HS.out.enters
        have hcall := Lib.hid (callsIn_wide.1 (HS.out.call sl W2.drew hsl1 hsl2 (HS.out.keep _ _ HI2.out.ro.j (Mod.drew (Mod.refl _ W2)))))
        obtain ⟨hh, hhe⟩ : ∃ hh, H sl = hh := ⟨_, rfl⟩
        have hhl : hh < 18446744073709551616 := by rw [← hhe]; exact HS.out.lt sl
        rw [hhe] at hcall
        (refine wpAnyH_ready (rs := [6]) (by kernel_rfl) (by simp) ?_; refine AllReadyH.cons rfl (fun K hK => ?_) AllReadyH.nil; go_simp; refine Calls.mono hcall.out ?_; rintro e X1 ⟨rfl, hp1⟩; refine hK.out _ _ ?_ (fun hHeld => ?_); (· exact ⟨hp1.cell (fun h => h) c8, hp1.cell (fun h => h) c5, hp1.cell (fun h => h) c11⟩); clear hK K)
        have hpx : Pure W2 X1 := Mod.of_drew hp1
        have hrx := HI2.out.ro.pure HS.out hpx
        have HIN := Lib.hid (Insert_ok hrx.out hh sl hhl hsl1)
        have d2 : ∀ k cs T, W2.heap[k]? = some (.cells cs T (0, 0)) → T ≠ 85 → T ≠ 89 → ¬ (k = p2 ∨ sv2.ownBlock = some k) := by
          rintro k cs T hk t1 t2 (rfl | e)
          · have := HI2.out.ro.out.box; rw [hk] at this; cases this; exact t1 rfl
          · obtain ⟨cc, e2⟩ := owns_type HI2.out.ro.out.row e
            rw [hk] at e2; cases e2; exact t2 rfl
        have n8 := d2 _ _ _ HI2.out.ro.h8 (by decide) (by decide)
        have n5 := d2 _ _ _ HI2.out.ro.h5 (by decide) (by decide)
        have nL := d2 _ _ _ HI2.out.la.set (by decide) (by decide)
        have n11 : ¬ (b11 = p2 ∨ sv2.ownBlock = some b11) := fun e => HN11.out b11 e rfl
        have HD2 := Lib.hid d2; have HRX := Lib.hid hrx; have HPX := Lib.hid hpx
        clear d2 hrx hpx
        (refine wpAnyH_ready (rs := [11]) (by kernel_rfl) (by simp) ?_; refine AllReadyH.cons rfl (fun K hK => ?_) AllReadyH.nil; go_simp; refine Calls.mono HIN.out ?_; rintro e X2 hq; obtain ⟨z, rfl, hix2, hm2⟩ := ins_any (H := H) hhe hq; clear hq; refine hK.out _ _ ?_ (fun hHeld => ?_); (· exact ⟨hm2.cell n8 (hp1.cell (fun h => h) c8), hm2.cell n5 (hp1.cell (fun h => h) c5), hm2.cell n11 (hp1.cell (fun h => h) c11)⟩); clear hK K)
        refine wpAnyH_done (by kernel_rfl) ?_ _
        have hm02 : Mod (fun k => k = p2 ∨ sv2.ownBlock = some k) W2 X2 := (Mod.of_pure HPX.out : Mod (fun k => k = p2 ∨ sv2.ownBlock = some k) W2 X1).trans hm2
        refine ⟨KeepsRec.of_mod hm02 (fun k _ hk o ho => ?_), ⟨hm02.size, ?_⟩, ?_⟩
        · rcases hk with rfl | e
          · rw [HI2.out.ro.out.box] at ho; cases ho; rfl
          · obtain ⟨cc, e2⟩ := owns_type HI2.out.ro.out.row e
            rw [e2] at ho; cases ho; rfl
        · rintro k rfl hk
          exact hm02.block _ hk nL
        · have hd2w : ∀ k, (k = p2 ∨ sv2.ownBlock = some k) → w.heap.size ≤ k := by
            rintro k (rfl | e)
            · exact hlp2
            · exact HL2.out k e
          have hDw : ∀ k, D k → k < w.heap.size := by
            intro k hk
            rcases (HX.out.dd k).1 hk with rfl | e
            · exact lt_of_block HX.out.box
            · obtain ⟨cc, e2⟩ := owns_type HX.out.row e
              exact lt_of_block e2
          refine ⟨⟨HI2.out.ro.pu.then hm02 (fun k hk hd => by have := hd2w k hd; omega), hm02.heap n5 HI2.out.ro.h5, hm02.heap n8 HI2.out.ro.h8, HI2.out.ro.ix.mod hm02 (fun k hk hd => by have := hd2w k hd; have := hDw k hk; omega), ?_, HS.out.keep _ _ HI2.out.ro.j (Mod.mono hm02 (fun k _ hd => hd2w k hd)), fun l hl => hm02.heap ?_ (HI2.out.ro.mks l hl)⟩, hm02.heap n11 HI2.out.bx, ⟨hm02.heap nL HI2.out.la.set⟩⟩
          · rw [List.map_append, List.foldl_append, List.map_cons, hsl]
            exact hix2
          · rintro (e | e)
            · have := HI2.out.ro.mks l hl; rw [e, HI2.out.ro.out.box] at this; cases this
            · obtain ⟨cc, e2⟩ := owns_type HI2.out.ro.out.row e
              have := HI2.out.ro.mks l hl; rw [e2] at this; cases this
    · have hlt' : (Gs.length : Int) ≤ (i : Int) := by omega
      have e : Gs.length = i := by omega
      subst e
      have z8 := HR.out.h8
      have z8_0 := cell_of_row _ _ 0 _ _ _ z8; have z8_f := (fun j => frozen_of_row _ _ j _ _ z8); have z8_l := lt_of_block z8; simp at z8_0; have H_z8 := Lib.hid z8; clear z8
      go_wp2
      refine bodyPostM_marks (N := w.heap.size) (v := .tuple #[.pointer (some ⟨p2, 0, none⟩), .int .i64 0]) HR.out.mks HND.out HLW.out (fun W' => by simp [results, Try.results62, go_sem]) (fun W' hq => ?_)
      have hf : (Gs.take Gs.length) = Gs := List.take_length
      have hout := HR.out.out
      rw [hf] at hout
      exact ⟨p2, sv2, rfl, hout.quiet hq, hq.mod HR.out.pu (Nat.le_refl _), hlp2, HL2.out, HR.out.ix.quiet hq, HS.out.keep _ _ HR.out.j (Mod.mono hq (fun k _ hk => hk.1))⟩
end Go.Proofs.Ytapplindfijngaa

/- Plain: a rehash keeps what is held. -/
namespace Go.Proofs.Ytapplindfijngaa
open Go.RowKit Go.Shelf

theorem lanes_count8 : ∀ a b c d e f g i : Bool, (lanesOf (mask [a, b, c, d, e, f, g, i])).length = [a, b, c, d, e, f, g, i].countP id := by decide +kernel
theorem fullIn_length {c : Grp} (h : GrpOk c) : (fullIn c).length = c.1.countP (· < 128) := by
  obtain ⟨x0, x1, x2, x3, x4, x5, x6, x7, e⟩ := eight_of h.ctl.1
  unfold fullIn
  rw [e]
  simp only [List.map_cons, List.map_nil]
  rw [lanes_count8]
  simp only [List.countP_cons, List.countP_nil, id]
theorem fulls_length {Gs : List Grp} (h : IxOk Gs) : (Gs.flatMap fullS).length = usedN Gs := by
  unfold usedN
  rw [List.length_flatMap]
  congr 1
  refine List.map_congr_left (fun c hc => ?_)
  unfold fullS
  rw [List.length_map, fullIn_length (h.grp c hc)]
theorem fullIn_mem {c : Grp} (hc : GrpOk c) (j : Nat) : j ∈ fullIn c ↔ j < 8 ∧ ∃ t, c.1[j]? = some t ∧ t < 128 := by
  unfold fullIn
  rw [lanes_mask (by simp [hc.ctl.1])]
  simp only [List.mem_filter, List.mem_range, List.getD_eq_getElem?_getD, List.getElem?_map]
  cases c.1[j]? <;> simp
theorem fullIn_lt (c : Grp) : (fullIn c).Pairwise (· < ·) := by
  unfold fullIn lanesOf
  exact List.Pairwise.filter _ List.pairwise_lt_range
theorem full_mem {Gs : List Grp} (h : IxOk Gs) (s : Nat) : s ∈ Gs.flatMap fullS ↔ ∃ i j t, FullAt Gs i j t s := by
  have hin : ∀ c, GrpOk c → ∀ j, j ∈ fullIn c ↔ j < 8 ∧ ∃ t, c.1[j]? = some t ∧ t < 128 := fun c hc j => by
    unfold fullIn
    rw [lanes_mask (by simp [hc.ctl.1])]
    simp only [List.mem_filter, List.mem_range, List.getD_eq_getElem?_getD, List.getElem?_map]
    cases c.1[j]? <;> simp
  constructor
  · intro hs
    obtain ⟨c, hc, hs⟩ := List.mem_flatMap.1 hs
    obtain ⟨j, hj, rfl⟩ := List.mem_map.1 hs
    obtain ⟨i, hi⟩ := List.getElem?_of_mem hc
    have hl : i < Gs.length := (List.getElem?_eq_some_iff.1 hi).1
    have e : grpAt Gs i = c := by have := grpAt_some hl; rw [hi] at this; cases this; rfl
    obtain ⟨hj8, t, ht, ht2⟩ := (hin c (h.grp c hc) j).1 hj
    exact ⟨i, j, t, hl, hj8, by rw [e]; exact ht, ht2, by unfold slotAt; rw [e]⟩
  · rintro ⟨i, j, t, hf⟩
    refine List.mem_flatMap.2 ⟨grpAt Gs i, List.mem_of_getElem? (grpAt_some hf.hi), List.mem_map.2 ⟨j, (hin _ (h.at hf.hi) j).2 ⟨hf.hj, t, hf.tag, hf.full⟩, hf.slot⟩⟩
theorem full_at {Gs : List Grp} {i : Nat} (h : IxOk Gs) (hi : i < Gs.length) {j : Nat} (hj : j ∈ fullIn (grpAt Gs i)) : ∃ t, FullAt Gs i j t ((grpAt Gs i).2.getD j 0) := by
  obtain ⟨h8, t, ht, ht2⟩ := (fullIn_mem (h.at hi) j).1 hj
  exact ⟨t, hi, h8, ht, ht2, rfl⟩
theorem Holds.nodup {H : Nat → Nat} {S : Nat → Prop} {Gs : List Grp} (h : Holds H S Gs) : (Gs.flatMap fullS).Nodup := by
  unfold List.Nodup
  rw [List.pairwise_flatMap]
  constructor
  · intro c hc
    obtain ⟨i, hi⟩ := List.getElem?_of_mem hc
    have hl : i < Gs.length := (List.getElem?_eq_some_iff.1 hi).1
    have e : grpAt Gs i = c := by have := grpAt_some hl; rw [hi] at this; cases this; rfl
    unfold fullS
    rw [List.pairwise_map]
    refine (fullIn_lt c).imp_of_mem (fun {a b} ha hb hab => ?_)
    intro e2
    rw [← e] at ha hb e2
    obtain ⟨t1, h1⟩ := full_at h.ok hl ha
    obtain ⟨t2, h2⟩ := full_at h.ok hl hb
    have := (h.uniq _ _ _ _ _ _ _ h1 (e2 ▸ h2)).2
    omega
  · rw [List.pairwise_iff_getElem]
    intro i j hi hj hij x hx y hy e
    have ei : grpAt Gs i = Gs[i] := by have := grpAt_some hi; rw [List.getElem?_eq_getElem hi] at this; exact (Option.some.inj this).symm
    have ej : grpAt Gs j = Gs[j] := by have := grpAt_some hj; rw [List.getElem?_eq_getElem hj] at this; exact (Option.some.inj this).symm
    obtain ⟨a, ha, rfl⟩ := List.mem_map.1 hx
    obtain ⟨b, hb, rfl⟩ := List.mem_map.1 hy
    rw [← ei] at ha e
    rw [← ej] at hb e
    obtain ⟨t1, h1⟩ := full_at h.ok hi ha
    obtain ⟨t2, h2⟩ := full_at h.ok hj hb
    have := (h.uniq _ _ _ _ _ _ _ h1 (e ▸ h2)).1
    omega
theorem ins_list {H : Nat → Nat} : ∀ (L : List Nat) (o : List Grp) (S : Nat → Prop), Holds H S o → (∀ s ∈ L, s ≤ 4294967295 ∧ ¬ S s) → L.Nodup → usedN o + L.length ≤ 8 * o.length →
    Holds H (fun s => S s ∨ s ∈ L) (L.foldl (insD H) o) ∧ usedN (L.foldl (insD H) o) = usedN o + L.length ∧ (L.foldl (insD H) o).length = o.length ∧ tombN (L.foldl (insD H) o) ≤ tombN o
  | [], o, S, h, _, _, _ => ⟨h.of_iff (by simp), rfl, rfl, Nat.le_refl _⟩
  | s :: L, o, S, h, hs, hn, hr => by
    obtain ⟨hs1, hs2⟩ := hs s (by simp)
    obtain ⟨o', ho⟩ : ∃ o', insM o (H s) s = some o' := by
      cases hc : insM o (H s) s with
      | some o' => exact ⟨o', rfl⟩
      | none =>
        have := (ins_none h.ok _ _).1 hc
        simp only [List.length_cons] at hr
        omega
    have e : insD H o s = o' := by unfold insD; rw [ho]; rfl
    obtain ⟨c1, c2, c3, c4⟩ := ins_counts h.ok hs1 ho
    have hi := h.ins hs1 hs2 ho
    simp only [List.foldl_cons, e]
    simp only [List.length_cons] at hr ⊢
    obtain ⟨k1, k2, k3, k4⟩ := ins_list L o' _ hi (fun x hx => ⟨(hs x (by simp [hx])).1, fun hx2 => by
      rcases hx2 with rfl | hx2
      · exact (List.nodup_cons.1 hn).1 hx
      · exact (hs x (by simp [hx])).2 hx2⟩) (List.nodup_cons.1 hn).2 (by omega)
    refine ⟨k1.of_iff (fun x => ?_), by omega, by omega, by omega⟩
    simp only [List.mem_cons]
    constructor
    · rintro ((h | h) | h)
      · exact .inr (.inl h)
      · exact .inl h
      · exact .inr (.inr h)
    · rintro (h | h | h)
      · exact .inl (.inr h)
      · exact .inl (.inl h)
      · exact .inr h
theorem Holds.rehash {H : Nat → Nat} {S : Nat → Prop} {Gs : List Grp} (h : Holds H S Gs) {g : Nat} (hg : Pow g) (hu : usedN Gs ≤ 8 * g) :
    Holds H S (rehM H g Gs) ∧ usedN (rehM H g Gs) = usedN Gs ∧ (rehM H g Gs).length = g ∧ tombN (rehM H g Gs) = 0 := by
  have hm : ∀ s, s ∈ Gs.flatMap fullS ↔ S s := fun s => (full_mem h.ok s).trans (h.mem s).symm
  have hlt : ∀ s ∈ Gs.flatMap fullS, s ≤ 4294967295 := by
    intro s hs
    obtain ⟨c, hc, hs⟩ := List.mem_flatMap.1 hs
    exact fullS_lt (h.ok.grp c hc) s hs
  obtain ⟨k1, k2, k3, k4⟩ := ins_list (Gs.flatMap fullS) (newG g) (fun _ => False) (newG_holds H hg) (fun s hs => ⟨hlt s hs, fun h => h⟩) h.nodup (by rw [fulls_length h.ok, newG_used, newG_length]; omega)
  unfold rehM
  rw [newG_used, fulls_length h.ok] at k2
  rw [newG_length] at k3
  rw [newG_tomb] at k4
  exact ⟨k1.of_iff (fun s => by simp [hm]), by omega, k3, by omega⟩
theorem countB_set (t : Bool) : ∀ (l : List Bool) (j : Nat) (a : Bool), l[j]? = some a → (l.set j t).countP id + a.toNat = l.countP id + t.toNat
  | [], _, _, h => by simp at h
  | b :: l, 0, a, h => by
    simp at h; subst h
    simp only [List.set_cons_zero, List.countP_cons]
    cases b <;> cases t <;> simp
  | b :: l, j + 1, a, h => by
    have := countB_set t l j a (by simpa using h)
    simp only [List.set_cons_succ, List.countP_cons]
    omega
end Go.Proofs.Ytapplindfijngaa
