/- Lemmas and contracts of functions, strung together out of 5 texts. No condition. -/
import Derived.Test.YtlalpenfgkfkpaaDoorJPfCascadePlays3
import Derived.Deep.CutBlock
import Derived.RegionTactic
import Derived.Test.YtlalpenfgkfkpaaDoorJPfCascadePlays2
import Derived.WalkLawsBesides
/- links: all. Conditions: the field lies in memory. -/
namespace Go.Proofs.YtlalpenfgkfkpaaDoor
open Go.RowKit
set_option maxRecDepth 100000
theorem info_n32 : (Tryd.prog.info? 29).map (fun i => (i.zero, i.size, i.bytes)) = some (some (.int .u32 0), 1, 4) := by kernel_rfl
def nums (xs : List Nat) : List Value := xs.map (fun x : Nat => (.int .u32 x : Value))
theorem nums_append (a b : List Nat) : nums (a ++ b) = nums a ++ nums b := by simp [nums]
theorem nums_length (a : List Nat) : (nums a).length = a.length := by simp [nums]
abbrev NumRow (w : World) (a : Option Addr) (c : Nat) (xs : List Nat) : Prop := w.ownsRow 0 29 1 (.slice a xs.length c) xs.length (nums xs)
def FreshV (w : World) (v : Value) : Prop := ∀ g, v.ownBlock = some g → w.heap.size ≤ g
theorem nums_one (xs : List Nat) : ∀ u ∈ nums xs, u.oneCell' = true := by
  intro u hu
  unfold nums at hu
  obtain ⟨x, _, rfl⟩ := List.mem_map.1 hu
  rfl
theorem Ch_at {F : List Nd} : ∀ {l : List Nat} {a : Nat}, Ch F a l → ∀ (i x y : Nat), (a :: l)[i]? = some x → l[i]? = some y → (nd F x).nx = y
  | [], _, _, i, x, y, _, h => by simp at h
  | z :: l, a, ⟨h1, h2, h3⟩, 0, x, y, hx, hy => by
    simp at hx hy
    rw [← hx, h1, hy]
  | z :: l, a, ⟨h1, h2, h3⟩, i + 1, x, y, hx, hy => Ch_at h3 i x y (by simpa using hx) (by simpa using hy)
theorem Ring.at_ {F : List Nd} {r : Nat} {l : List Nat} (h : Ring F r l) {i x y : Nat} (hx : (r :: l)[i]? = some x) (hy : (l ++ [r])[i]? = some y) : (nd F x).nx = y := by
  refine Ch_at h i x y ?_ hy
  rw [← List.cons_append, List.getElem?_append_left (by exact (List.getElem?_eq_some_iff.1 hx).1)]
  exact hx
section
variable {w w' : World} {p N : Nat} {Ls : List (List Nat)} {D : Nat → Prop}
set_option maxHeartbeats 1000000 in
theorem lall_ok (h : LkAt w D p N Ls) {k : Nat} {l : List Nat} (hl : Ls[k]? = some l) :
    Calls Tryd.prog 111 #[lkP p, .int .i64 k] w fun e w' => ∃ a c, e = .returned (.slice a l.length c) ∧ NumRow w' a c l ∧ FreshV w (.slice a l.length c) ∧ Pure w w' := by
  obtain ⟨gF, gL, cF, cL, F, h, _⟩ := h
  have hk : k < Ls.length := (List.getElem?_eq_some_iff.1 hl).1
  have hk4 : k ≤ 4096 := by have := h.hm; omega
  have HLi := Lib.hid (llist_ok h hk)
  have HRi := Lib.hid (ring_ok h hk4)
  have HNX : Hid (∀ {i x y : Nat}, ((N + k) :: l)[i]? = some x → (l ++ [N + k])[i]? = some y → (nd F x).nx = y) := Lib.hid (fun hx hy => (h.ok.ring k l hl).at_ hx hy)
  have HLT : Hid (∀ (i x : Nat), (l ++ [N + k])[i]? = some x → x < F.length ∧ (i < l.length → x < N ∧ l[i]? = some x) ∧ (l.length ≤ i → x = N + k)) := Lib.hid (fun i x hx => by
    have hm := List.mem_of_getElem? hx
    refine ⟨(h.ok.mem_lt hl x hm).1, fun hi => ?_, fun hi => ?_⟩
    · rw [List.getElem?_append_left hi] at hx
      exact ⟨(h.ok.own k l hl x (List.mem_of_getElem? hx)).1, hx⟩
    · rw [List.getElem?_append_right hi] at hx
      rw [List.getElem?_singleton] at hx
      split at hx
      · injection hx with hx; exact hx.symm
      · cases hx)
  have hll : l.length ≤ N := h.ok.short hl
  have hnm := h.nm
  have hFb : F.length ≤ 4198400 := by rw [h.ok.len]; have := h.hm; omega
  have hNF : N + k < F.length := h.ok.hd_lt hk
  obtain ⟨FL, hFL⟩ : ∃ FL, F.length = FL := ⟨_, rfl⟩
  rw [hFL] at hFb hNF HLT
  obtain ⟨c0, c1, c2⟩ := h.at_ (i := N + k) (by rw [hFL]; exact hNF)
  obtain ⟨y0, hy0⟩ : ∃ y, (l ++ [N + k])[0]? = some y := ⟨_, List.getElem?_eq_getElem (by simp)⟩
  rw [HNX.out (i := 0) rfl hy0] at c1
  have hb := h.box
  rw [hFL] at hb
  have HB := Lib.hid hb
  have HM := Lib.hid h; have HFLe := Lib.hid hFL
  obtain ⟨r, hr⟩ : ∃ r, N + k = r := ⟨_, rfl⟩
  rw [hr] at HRi HNX HLT hNF c1 hy0
  have HY0 := Lib.hid hy0
  have hNr : N ≤ r := by omega
  have dr : decide (r < FL) = true := decide_eq_true hNF
  have HY0L := HLT.out _ _ hy0
  have hy0b : y0 < FL := HY0L.1
  clear h hl hFL hr c0 c2 hy0 HY0L
  have hb_0 := cell_of_row _ _ 0 _ _ _ hb; have hb_1 := cell_of_row _ _ 1 _ _ _ hb; have hb_2 := cell_of_row _ _ 2 _ _ _ hb; have hb_f := (fun j => frozen_of_row _ _ j _ _ hb); have hb_l := lt_of_block hb; simp at hb_0 hb_1 hb_2; have H_hb := Lib.hid hb; clear hb
  obtain ⟨i0, hi, iz0, iz1, iz2⟩ := info_parts info_n32
  go_enter Tryd.func111, Tryd.ntmps111
  go_upto_block 0 with (first
    | (go_at_call 108; refine Calls.mono HLi.out ?_; rintro e w' ⟨rfl, rfl⟩)
    | (go_at_call 93; refine Calls.mono HRi.out ?_; rintro e w' ⟨rfl, rfl⟩))
  go_wp2_with fail
  have t1 := HM.out
  clear t1
  clear hb_0 hb_1 hb_2 hb_f hb_l
  clear H_hb
  go_loopw [6, 7] (fun v6 v7 wr => ∃ (i : Nat) (a : Option Addr) (c : Nat) (y : Nat), v7 = .int .u32 y ∧ i ≤ l.length ∧ (l ++ [r])[i]? = some y ∧ v6 = .slice a i c ∧ NumRow wr a c (l.take i) ∧ FreshV w (.slice a i c) ∧ Pure w wr) (fun v6 _ _ => l.length - (match v6 with | .slice _ n _ => n | _ => 0))
  case atStart => exact ⟨0, none, 0, y0, rfl, Nat.zero_le _, HY0.out, rfl, World.ownsRow_nil _ _ _ _, (fun g hg => by cases hg), Mod.refl _ _⟩
  case round =>
    obtain ⟨i, a, c, y, rfl, hi9, hy, rfl, hrow, hfr, hpu⟩ := hrel
    obtain ⟨hy1, hy2, hy3⟩ := HLT.out _ _ hy
    have HY := Lib.hid hy
    have HMr := Lib.hid (HM.out.pure hpu)
    have hb := hpu.heap (fun h => h) HB.out
    have hcl := (HMr.out.at_ (i := y) (by rw [HFLe.out]; exact hy1))
    obtain ⟨q0, q1, q2⟩ := hcl
    have HRow := Lib.hid hrow; have HFR := Lib.hid hfr; have HPU := Lib.hid hpu
    clear hy hrow hfr hpu q0 q2
    by_cases hlt : i < l.length
    · obtain ⟨hy4, hy5⟩ := hy2 hlt
      have hne : ((y : Int) == (r : Int)) = false := by simp; omega
      have hne2 : ((y : Int) != (r : Int)) = true := by simp; omega
      obtain ⟨y', hy'⟩ : ∃ y', (l ++ [r])[i + 1]? = some y' := ⟨_, List.getElem?_eq_getElem (by simp; omega)⟩
      have hnx : (nd F y).nx = y' := HNX.out (i := i + 1) (by simpa using hy5) hy'
      rw [hnx] at q1
      have hy'b := (HLT.out _ _ hy').1
      have dy : decide (y < FL) = true := decide_eq_true hy1
      have htk : l.take (i + 1) = l.take i ++ [y] := by rw [List.take_add_one, hy5]; rfl
      have htl : (l.take i).length = i := by rw [List.length_take]; omega
      have HTK := Lib.hid htk; have HTL := Lib.hid htl; have HY' := Lib.hid hy'
      have hrr : wr.ownsRow 0 29 1 (.slice a i c) i (nums (l.take i)) := by have := HRow.out; unfold NumRow at this; rw [htl] at this; exact this
      have HRR := Lib.hid hrr
      have q1b := q1
      clear htk htl hy' hnx hrr hy2 hy3 hy5 q1
      have hb_0 := cell_of_row _ _ 0 _ _ _ hb; have hb_1 := cell_of_row _ _ 1 _ _ _ hb; have hb_2 := cell_of_row _ _ 2 _ _ _ hb; have hb_f := (fun j => frozen_of_row _ _ j _ _ hb); have hb_l := lt_of_block hb; simp at hb_0 hb_1 hb_2; have H_hb := Lib.hid hb; clear hb
      go_upto_region 7 with (at_builtin; refine wpList_append_read _ rfl _ _ 74 rfl 29 i0 _ 1 4 Tryd.underlying74 hi iz0 iz1 iz2 rfl (by decide) (.slice a i c) i _ rfl (owns_mod HRR.out ((Mod.refl (fun _ => False) wr).alloc _) (fun _ _ h => h)) _ [.int .u32 (y : Nat)] 1 rfl (ReadAt.of_block 1 1 1 (heap_new rfl) (by rfl) (by simp [Value.oneCell'])) rfl (by unfold maxLen; omega) (by omega) ?_; intro a7 c7 w5 hr7 hg7 hb7)
      have hpw : Pure w w5 := (HPU.out.alloc _).then (Mod.of_grown (S := fun k' => (Value.slice a i c).ownBlock = some k') hg7 (fun k e _ => e)) (fun k hk e => by have := HFR.out k e; omega)
      have hfw : FreshV w (.slice a7 (i + 1) c7) := fun k hk => by
        rcases hb7 with e | e
        · exact HFR.out k (e ▸ hk)
        · rw [e] at hk; cases hk; exact (HPU.out.alloc _).size
      have HPW := Lib.hid hpw; have HFW := Lib.hid hfw; have HR7 := Lib.hid hr7
      have hb5 := hpw.heap (fun h => h) HB.out
      obtain ⟨z0, z1, z2⟩ := ((HM.out.pure hpw).at_ (i := y) (by rw [HFLe.out]; exact hy1))
      rw [HNX.out (i := i + 1) (by have := (HLT.out _ _ HY.out).2.1 hlt; simpa using this.2) HY'.out] at z1
      clear hb_0 hb_1 hb_2 hb_f hb_l
      clear H_hb hpw hfw hr7 hg7 hb7 q1b z0 z2 hne hne2
      have hb5_0 := cell_of_row _ _ 0 _ _ _ hb5; have hb5_1 := cell_of_row _ _ 1 _ _ _ hb5; have hb5_2 := cell_of_row _ _ 2 _ _ _ hb5; have hb5_f := (fun j => frozen_of_row _ _ j _ _ hb5); have hb5_l := lt_of_block hb5; simp at hb5_0 hb5_1 hb5_2; have H_hb5 := Lib.hid hb5; clear hb5
      go_wp2
      go_roundw
      case rel => exact ⟨i + 1, a7, c7, y', rfl, hlt, HY'.out, rfl, by unfold NumRow; rw [HTK.out, List.length_append, HTL.out, nums_append]; exact HR7.out, HFW.out, HPW.out⟩
      case measure => simp; omega
    · have hri : y = r := hy3 (by omega)
      have hil : i = l.length := by omega
      subst hri hil
      have HTA : Hid (l.take l.length = l) := Lib.hid (by rw [List.take_length])
      clear hy2 hy3 hlt hi9
      go_wp2
      go_ret
      refine ⟨a, c, rfl, ?_, HFR.out, HPU.out⟩
      have := HRow.out
      rw [HTA.out] at this
      exact this
end
end Go.Proofs.YtlalpenfgkfkpaaDoor

/- links: New. Conditions: the numbers are allowed. -/
namespace Go.Proofs.YtlalpenfgkfkpaaDoor
open Go.RowKit
set_option maxRecDepth 100000
theorem info_node : (Tryd.prog.info? 156).map (fun i => (i.zero, i.size, i.bytes)) = some (some (.agg #[.int .u32 0, .int .u32 0, .int .u32 0]), 3, 12) := by kernel_rfl
theorem info_intL : (Tryd.prog.info? 3).map (fun i => (i.zero, i.size, i.bytes)) = some (some (.int .i64 0), 1, 8) := by kernel_rfl
def newF (N H i : Nat) : List Nd := (List.range (N + H)).map (fun j => if N ≤ j ∧ j < N + i then ⟨j, j, j - N + 1⟩ else ndZ)
theorem newF_length (N H i : Nat) : (newF N H i).length = N + H := by simp [newF]
theorem newF_nd {N H i j : Nat} (hj : j < N + H) : nd (newF N H i) j = if N ≤ j ∧ j < N + i then ⟨j, j, j - N + 1⟩ else ndZ := by
  unfold nd newF
  rw [List.getElem?_map, List.getElem?_range hj]
  rfl
theorem newF_step {N H i : Nat} (hi : i < H) : (newF N H i).set (N + i) ⟨N + i, N + i, i + 1⟩ = newF N H (i + 1) := by
  refine List.ext_getElem? (fun j => ?_)
  by_cases hj : j < N + H
  · have h1 : (newF N H (i + 1))[j]? = some (nd (newF N H (i + 1)) j) := nd_some (by rw [newF_length]; exact hj)
    rw [h1, newF_nd hj]
    by_cases e : N + i = j
    · subst e
      rw [List.getElem?_set_self (by rw [newF_length]; omega), if_pos (by omega)]
      congr 2
      omega
    · rw [List.getElem?_set_ne e, nd_some (by rw [newF_length]; exact hj), newF_nd hj]
      congr 1
      by_cases c : N ≤ j ∧ j < N + i
      · rw [if_pos c, if_pos (by omega)]
      · rw [if_neg c, if_neg (by omega)]
  · rw [List.getElem?_eq_none (by rw [List.length_set, newF_length]; omega), List.getElem?_eq_none (by rw [newF_length]; omega)]
theorem newF_zero (N H : Nat) : newF N H 0 = List.replicate (N + H) ndZ := by
  unfold newF
  refine List.ext_getElem? (fun j => ?_)
  rw [List.getElem?_map, List.getElem?_replicate]
  by_cases hj : j < N + H
  · rw [List.getElem?_range hj, if_pos hj]
    show some (if _ then _ else _) = _
    rw [if_neg (by omega)]
  · rw [List.getElem?_eq_none (by simpa using hj), if_neg hj]; rfl
theorem fldC_zero (m : Nat) : fldC (List.replicate m ndZ) = List.replicate (m * 3) (.int .u32 0) := by
  induction m with
  | zero => rfl
  | succ m ih =>
    rw [List.replicate_succ]
    show ndC ndZ ++ fldC _ = _
    rw [ih, show (m + 1) * 3 = m * 3 + 1 + 1 + 1 by omega, List.replicate_succ, List.replicate_succ, List.replicate_succ]
    rfl
theorem made_node (m : Nat) : madeCells (Value.agg #[.int .u32 0, .int .u32 0, .int .u32 0]).cells (m * 3) = (fldC (List.replicate m ndZ)).toArray := by
  rw [fldC_zero, show (Value.agg #[.int .u32 0, .int .u32 0, .int .u32 0]).cells = #[.int .u32 0, .int .u32 0, .int .u32 0] from rfl]
  apply Array.ext_getElem?
  intro k
  unfold madeCells
  rw [Array.getElem?_map, show (List.replicate (m * 3) (Value.int .u32 0)).toArray[k]? = (List.replicate (m * 3) (Value.int .u32 0))[k]? from List.getElem?_toArray, List.getElem?_replicate]
  by_cases hk : k < m * 3
  · rw [if_pos hk]
    rw [Array.getElem?_range, if_pos hk]
    show some (#[Value.int .u32 0, .int .u32 0, .int .u32 0][k % 3]!) = _
    have : k % 3 = 0 ∨ k % 3 = 1 ∨ k % 3 = 2 := by omega
    rcases this with e | e | e <;> rw [e] <;> rfl
  · rw [if_neg hk, Array.getElem?_range, if_neg hk]; rfl
theorem made_lens (m : Nat) : madeCells (Value.int .i64 0).cells (m * 1) = (lensC (List.replicate m [])).toArray := by
  rw [show (Value.int .i64 0).cells = #[.int .i64 0] from rfl]
  apply Array.ext_getElem?
  intro k
  unfold madeCells lensC
  rw [Array.getElem?_map, List.map_replicate, show (List.replicate m (Value.int .i64 (([] : List Nat).length : Nat))).toArray[k]? = (List.replicate m (Value.int .i64 (([] : List Nat).length : Nat)))[k]? from List.getElem?_toArray, List.getElem?_replicate, Nat.mul_one]
  by_cases hk : k < m
  · rw [if_pos hk, Array.getElem?_range, if_pos hk]
    show some (#[Value.int .i64 0][k % 1]!) = _
    rw [Nat.mod_one]; rfl
  · rw [if_neg hk, Array.getElem?_range, if_neg hk]; rfl
theorem newOk (N H : Nat) : LkOk N (List.replicate H []) (newF N H H) := by
  have hl : ∀ (h : Nat) (l : List Nat), (List.replicate H [])[h]? = some l → l = [] ∧ h < H := fun h l hh => by
    rw [List.getElem?_replicate] at hh
    split at hh
    · cases hh; exact ⟨rfl, ‹_›⟩
    · cases hh
  refine ⟨by rw [newF_length, List.length_replicate], fun h l hh => ?_, fun h l hh => ?_, fun h l hh a ha => ?_, fun h hh => ?_, fun a ha hw => ?_⟩
  · obtain ⟨rfl, h1⟩ := hl h l hh
    have := newF_nd (N := N) (H := H) (i := H) (j := N + h) (by omega)
    rw [if_pos (by omega)] at this
    exact ⟨by rw [this], by rw [this], trivial⟩
  · obtain ⟨rfl, h1⟩ := hl h l hh; exact List.nodup_nil
  · obtain ⟨rfl, h1⟩ := hl h l hh; cases ha
  · rw [List.length_replicate] at hh
    rw [newF_nd (by omega), if_pos (by omega)]
    show N + h - N + 1 = h + 1
    omega
  · rw [newF_nd (by omega), if_neg (by omega)] at hw
    exact absurd rfl hw
/-- What New's loop keeps. -/
structure NwInv (w : World) (p gF gL N H i : Nat) (W : World) : Prop where
  pu : Pure w W
  box : W.heap[p]? = some (.cells #[.slice (some ⟨gF, 0, none⟩) (N + H) (N + H), .int .i64 N, .slice (some ⟨gL, 0, none⟩) H H] 152 (0, 0))
  fld : W.heap[gF]? = some (.cells (fldC (newF N H i)).toArray 156 (0, 0))
  len : W.heap[gL]? = some (.cells (lensC (List.replicate H [])).toArray 3 (0, 0))
  fp : w.heap.size ≤ p
  fF : w.heap.size ≤ gF
  fL : w.heap.size ≤ gL
theorem nw_start1 (w : World) (N H : Nat) : NwInv w (w.heap.size + 1 + 1) w.heap.size (w.heap.size + 1) N H 0 (((w.alloc (.cells (fldC (newF N H 0)).toArray 156)).alloc (.cells (lensC (List.replicate H [])).toArray 3)).alloc
    (.cells #[.slice (some ⟨w.heap.size, 0, none⟩) (N + H) (N + H), .int .i64 N, .slice (some ⟨w.heap.size + 1, 0, none⟩) H H] 152)) :=
  ⟨(((Mod.refl _ w).alloc _).alloc _).alloc _, heap_new (by simp), heap_keep (heap_keep (heap_new rfl)), heap_keep (heap_new (by simp)), by omega, Nat.le_refl _, by omega⟩
theorem nw_start2 (w : World) (N H : Nat) : NwInv w (w.heap.size + 1 + 1) (w.heap.size + 1) w.heap.size N H 0 (((w.alloc (.cells (lensC (List.replicate H [])).toArray 3)).alloc (.cells (fldC (newF N H 0)).toArray 156)).alloc
    (.cells #[.slice (some ⟨w.heap.size + 1, 0, none⟩) (N + H) (N + H), .int .i64 N, .slice (some ⟨w.heap.size, 0, none⟩) H H] 152)) :=
  ⟨(((Mod.refl _ w).alloc _).alloc _).alloc _, heap_new (by simp), heap_keep (heap_new (by simp)), heap_keep (heap_keep (heap_new rfl)), by omega, by omega, Nat.le_refl _⟩
theorem NwInv.drew {w W : World} {p gF gL N H i : Nat} (h : NwInv w p gF gL N H i W) : NwInv w p gF gL N H i W.drew :=
  ⟨h.pu.drew, h.box, h.fld, h.len, h.fp, h.fF, h.fL⟩
theorem NwInv.ring {w W : World} {p gF gL N H i : Nat} (h : NwInv w p gF gL N H i W) (k : Nat) : Calls Tryd.prog 93 #[.int .i64 k, lkP p] W fun e w' => k ≤ 4096 → N ≤ 4194304 → e = .returned (.int .u32 (N + k : Nat)) ∧ W = w' := by
  have hb := h.box
  clear h
  by_cases hk : k ≤ 4096 ∧ N ≤ 4194304
  · have hb_0 := cell_of_row _ _ 0 _ _ _ hb; have hb_1 := cell_of_row _ _ 1 _ _ _ hb; have hb_2 := cell_of_row _ _ 2 _ _ _ hb; have hb_f := (fun j => frozen_of_row _ _ j _ _ hb); have hb_l := lt_of_block hb; simp at hb_0 hb_1 hb_2; have H_hb := Lib.hid hb; clear hb
    obtain ⟨hk, hm⟩ := hk
    have ws : IntKind.i64.wrap ((N : Int) + (k : Int)) = (N : Int) + (k : Int) := IntWalk.i64_in _ (by omega)
    have wu : IntKind.u32.wrap ((N : Int) + (k : Int)) = (N : Int) + (k : Int) := by simp [IntKind.wrap, IntKind.signed, IntKind.bits]; omega
    have wk : IntKind.i64.wrap (k : Int) = k := IntWalk.i64_in _ (by omega)
    go_enter Tryd.func93, Tryd.ntmps93
    go_wp2
    go_ret
    exact fun _ _ => ⟨by go_num, rfl⟩
  · have hb_0 := cell_of_row _ _ 0 _ _ _ hb; have hb_1 := cell_of_row _ _ 1 _ _ _ hb; have hb_2 := cell_of_row _ _ 2 _ _ _ hb; have hb_f := (fun j => frozen_of_row _ _ j _ _ hb); have hb_l := lt_of_block hb; simp at hb_0 hb_1 hb_2; have H_hb := Lib.hid hb; clear hb
    go_enter Tryd.func93, Tryd.ntmps93
    go_wp2
    go_ret
    exact fun h1 h2 => absurd ⟨h1, h2⟩ hk
theorem NwInv.next {w W : World} {p gF gL N H i : Nat} (h : NwInv w p gF gL N H i W) (hi : i < H) :
    NwInv w p gF gL N H (i + 1) (((W.setCell ⟨gF, (N + i) * 3, none⟩ (.int .u32 (N + i : Nat))).setCell ⟨gF, (N + i) * 3 + 1, none⟩ (.int .u32 (N + i : Nat))).setCell ⟨gF, (N + i) * 3 + 2, none⟩ (.int .u32 (i + 1 : Nat))) := by
  have hf := fld_put h.fld (i := N + i) (by rw [newF_length]; omega) (N + i) (N + i) (i + 1)
  rw [newF_step hi] at hf
  have hm : Mod (fun k => k = gF) W (((W.setCell ⟨gF, (N + i) * 3, none⟩ (.int .u32 (N + i : Nat))).setCell ⟨gF, (N + i) * 3 + 1, none⟩ (.int .u32 (N + i : Nat))).setCell ⟨gF, (N + i) * 3 + 2, none⟩ (.int .u32 (i + 1 : Nat))) :=
    (((Mod.refl (fun b => b = gF) W).setCell (p := ⟨gF, (N + i) * 3, none⟩) (fun _ => rfl) _).setCell (p := ⟨gF, (N + i) * 3 + 1, none⟩) (fun _ => rfl) _).setCell (p := ⟨gF, (N + i) * 3 + 2, none⟩) (fun _ => rfl) _
  have n1 : p ≠ gF := by rintro rfl; have := h.box.symm.trans h.fld; injection this with this; injection this with _ this; exact absurd this (by decide)
  have n2 : gL ≠ gF := by rintro rfl; have := h.len.symm.trans h.fld; injection this with this; injection this with _ this; exact absurd this (by decide)
  exact ⟨h.pu.then hm (fun k hk e => by have := h.fF; omega), hm.heap n1 h.box, hf, hm.heap n2 h.len, h.fp, h.fF, h.fL⟩
set_option maxHeartbeats 1000000 in
theorem lnew_ok (w : World) {N H : Nat} (hN : 1 ≤ N) (hN2 : N ≤ 4194304) (hH : 1 ≤ H) (hH2 : H ≤ 4096) :
    Calls Tryd.prog 76 #[.int .i64 N, .int .i64 H] w fun e w' => ∃ p D, e = .returned (.tuple #[lkP p, .int .i64 0]) ∧ LkAt w' D p N (List.replicate H []) ∧ Pure w w' ∧ ∀ k, D k → w.heap.size ≤ k := by
  obtain ⟨iN, hi, iz0, iz1, iz2⟩ := info_parts info_node
  obtain ⟨iL, hj, jz0, jz1, jz2⟩ := info_parts info_intL
  have ws : IntKind.i64.wrap ((N : Int) + (H : Int)) = (N : Int) + (H : Int) := IntWalk.i64_in _ (by omega)
  have hmF : ∀ W : World, (Instr.makeSlice 150 (.int .i64 ((N : Int) + (H : Int))) (.int .i64 ((N : Int) + (H : Int)))).run Tryd.prog W = .ok (.slice (some ⟨W.heap.size, 0, none⟩) (N + H) (N + H)) (W.alloc (.cells (fldC (newF N H 0)).toArray 156)) := fun W => by
    have := run_make W 150 156 iN _ Tryd.underlying150 hi iz0 .i64 .i64 ((N : Int) + (H : Int)) ((N : Int) + (H : Int)) (by omega) (Int.le_refl _) (by rw [iz2]; omega) (by omega)
    rw [iz1, show ((N : Int) + (H : Int)).toNat = N + H by omega, made_node, ← newF_zero] at this
    exact this
  have hmL : ∀ W : World, (Instr.makeSlice 138 (.int .i64 (H : Int)) (.int .i64 (H : Int))).run Tryd.prog W = .ok (.slice (some ⟨W.heap.size, 0, none⟩) H H) (W.alloc (.cells (lensC (List.replicate H [])).toArray 3)) := fun W => by
    have := run_make W 138 3 iL _ Tryd.underlying138 hj jz0 .i64 .i64 (H : Int) (H : Int) (by omega) (Int.le_refl _) (by rw [jz2]; omega) (by omega)
    rw [jz1, show ((H : Int)).toNat = H by omega, made_lens] at this
    exact this
  have d1 : decide ((N : Int) < 1) = false := decide_eq_false (by omega)
  have d2 : decide ((4194304 : Int) < (N : Int)) = false := decide_eq_false (by omega)
  have d3 : decide ((H : Int) < 1) = false := decide_eq_false (by omega)
  have d4 : decide ((4096 : Int) < (H : Int)) = false := decide_eq_false (by omega)
  clear hi iz0 iz1 iz2 hj jz0 jz1 jz2
  go_enter Tryd.func76, Tryd.ntmps76
  go_upto_region 3 with fail
  go_cut [6] (fun v wx => ∃ p gF gL, v = lkP p ∧ NwInv w p gF gL N H 0 wx)
  case first =>
    clear d1 d2 d3 d4
    go_region
    all_goals
      (try go_wp2)
      go_meet
      first
        | exact ⟨_, _, _, rfl, nw_start1 w N H⟩
        | exact ⟨_, _, _, rfl, nw_start2 w N H⟩
        | exact ⟨_, _, _, rfl, (nw_start1 w N H).drew⟩
        | exact ⟨_, _, _, rfl, (nw_start2 w N H).drew⟩
  case rest =>
    obtain ⟨p, gF, gL, rfl, hinv⟩ := hcut
    have HI := Lib.hid hinv
    clear hinv hmF hmL ws d1 d2 d3 d4
    go_upto_region 5 with fail
    go_loopw [33] (fun v wr => ∃ i, v = .int .i64 (i : Nat) ∧ i ≤ H ∧ NwInv w p gF gL N H i wr) (fun v _ => H - (intOf v).toNat)
    case atStart => exact ⟨0, rfl, Nat.zero_le _, HI.out⟩
    case round =>
      clear HI
      obtain ⟨i, rfl, hi, hinv⟩ := hrel
      have HI := Lib.hid hinv
      have hb := hinv.box
      by_cases hlt : i < H
      · have hlt' : (i : Int) < (H : Int) := by omega
        have i0 : (0 : Int) ≤ (i : Int) := by omega
        have wi : IntKind.i64.wrap ((i : Int) + 1) = (i : Int) + 1 := IntWalk.i64_in _ (by omega)
        have wi0 : IntKind.i64.wrap (i : Int) = (i : Int) := IntWalk.i64_in _ (by omega)
        have wu : IntKind.u32.wrap ((i : Int) + 1) = (i : Int) + 1 := by have := u32_of (i + 1) (by omega); simpa using this
        have HR := Lib.hid (hinv.ring i)
        have HNx := Lib.hid (hinv.next hlt)
        obtain ⟨r, hr⟩ : ∃ r, N + i = r := ⟨_, rfl⟩
        rw [hr] at HR HNx
        have hrl : r < N + H := by omega
        obtain ⟨q0, q1, q2⟩ := fldC_at hinv.fld (i := r) (by rw [newF_length]; exact hrl)
        have g0 := frozen_of_row wr gF (r * 3) _ _ hinv.fld
        have g1 := frozen_of_row wr gF (r * 3 + 1) _ _ hinv.fld
        have g2 := frozen_of_row wr gF (r * 3 + 2) _ _ hinv.fld
        have hX : gF < wr.heap.size := lt_of_block hinv.fld
        obtain ⟨M, hM⟩ : ∃ M, N + H = M := ⟨_, rfl⟩
        rw [hM] at hb hrl
        have hMb : M ≤ 4198400 := by omega
        have dr : decide (r < M) = true := decide_eq_true hrl
        clear hinv hr hM
        have hb_0 := cell_of_row _ _ 0 _ _ _ hb; have hb_1 := cell_of_row _ _ 1 _ _ _ hb; have hb_2 := cell_of_row _ _ 2 _ _ _ hb; have hb_f := (fun j => frozen_of_row _ _ j _ _ hb); have hb_l := lt_of_block hb; simp at hb_0 hb_1 hb_2; have H_hb := Lib.hid hb; clear hb
        go_wp2_with (go_at_call 93; refine Calls.mono HR.out ?_; rintro e w' he; obtain ⟨rfl, rfl⟩ := he (by omega) (by omega))
        go_roundw
        case rel => exact ⟨i + 1, by go_num, hlt, by have := HNx.out; simpa using this⟩
        case measure => simp [intOf]; omega
      · have e : H = i := by omega
        subst e
        have hend : LkAt wr (fun k => k = p ∨ k = gF ∨ k = gL) p N (List.replicate H []) := ⟨gF, gL, N + H, H, newF N H H, ⟨by rw [newF_length, List.length_replicate]; exact hinv.box, hinv.fld, hinv.len, newOk N H, hN, hN2, by rw [List.length_replicate]; exact hH2⟩, fun k => Iff.rfl⟩
        have HE := Lib.hid hend
        clear hend hinv hlt hi hb
        go_wp2
        go_ret2
        exact ⟨p, _, rfl, HE.out, HI.out.pu, fun k hk => by rcases hk with rfl | rfl | rfl; exact HI.out.fp; exact HI.out.fF; exact HI.out.fL⟩
end Go.Proofs.YtlalpenfgkfkpaaDoor

/- links: Renumber, where each node keeps its number. Conditions: the field lies in memory, the numbers are allowed. -/
namespace Go.Proofs.YtlalpenfgkfkpaaDoor
open Go.RowKit
set_option maxRecDepth 100000
/-- The lists as they are made anew: those before list h, and j nodes of that one. -/
def outL (Ls : List (List Nat)) (h j : Nat) : List (List Nat) := (List.range Ls.length).map (fun k => if k < h then Ls.getD k [] else if k = h then (Ls.getD h []).take j else [])
theorem outL_length (Ls : List (List Nat)) (h j : Nat) : (outL Ls h j).length = Ls.length := by simp [outL]
theorem outL_get {Ls : List (List Nat)} {h j k : Nat} (hk : k < Ls.length) : (outL Ls h j)[k]? = some (if k < h then Ls.getD k [] else if k = h then (Ls.getD h []).take j else []) := by
  unfold outL; rw [List.getElem?_map, List.getElem?_range hk]; rfl
theorem getD_some {Ls : List (List Nat)} {h : Nat} {l : List Nat} (hl : Ls[h]? = some l) : Ls.getD h [] = l := by rw [List.getD_eq_getElem?_getD, hl]; rfl
theorem outL_zero (Ls : List (List Nat)) : outL Ls 0 0 = List.replicate Ls.length [] := by
  refine List.ext_getElem? (fun k => ?_)
  rw [List.getElem?_replicate]
  by_cases hk : k < Ls.length
  · rw [outL_get hk, if_pos hk, if_neg (by omega)]
    split <;> simp
  · rw [if_neg hk, List.getElem?_eq_none (by rw [outL_length]; omega)]
theorem outL_all (Ls : List (List Nat)) (j : Nat) : outL Ls Ls.length j = Ls := by
  refine List.ext_getElem? (fun k => ?_)
  by_cases hk : k < Ls.length
  · rw [outL_get hk, if_pos hk, List.getD_eq_getElem?_getD, List.getElem?_eq_getElem hk]; rfl
  · rw [List.getElem?_eq_none (by rw [outL_length]; omega), List.getElem?_eq_none (by omega)]
theorem outL_next {Ls : List (List Nat)} {h : Nat} {l : List Nat} (hl : Ls[h]? = some l) : outL Ls h l.length = outL Ls (h + 1) 0 := by
  refine List.ext_getElem? (fun k => ?_)
  by_cases hk : k < Ls.length
  · rw [outL_get hk, outL_get hk, getD_some hl, List.take_length]
    congr 1
    by_cases c1 : k < h
    · rw [if_pos c1, if_pos (by omega)]
    · rw [if_neg c1]
      by_cases c2 : k = h
      · subst c2; rw [if_pos rfl, if_pos (by omega), getD_some hl]
      · rw [if_neg c2, if_neg (by omega)]
        split <;> simp
  · rw [List.getElem?_eq_none (by rw [outL_length]; omega), List.getElem?_eq_none (by rw [outL_length]; omega)]
theorem outL_at {Ls : List (List Nat)} {h j : Nat} {l : List Nat} (hl : Ls[h]? = some l) : (outL Ls h j)[h]? = some (l.take j) := by
  rw [outL_get (List.getElem?_eq_some_iff.1 hl).1, if_neg (by omega), if_pos rfl, getD_some hl]
theorem outL_step {Ls : List (List Nat)} {h j n : Nat} {l : List Nat} (hl : Ls[h]? = some l) (hn : l[j]? = some n) : (outL Ls h j).set h (l.take j ++ [n]) = outL Ls h (j + 1) := by
  have hh := (List.getElem?_eq_some_iff.1 hl).1
  refine List.ext_getElem? (fun k => ?_)
  by_cases hk : k < Ls.length
  · rw [outL_get hk]
    by_cases e : h = k
    · subst e
      rw [List.getElem?_set_self (by rw [outL_length]; exact hk), if_neg (by omega), if_pos rfl, getD_some hl, List.take_add_one, hn]
      rfl
    · rw [List.getElem?_set_ne e, outL_get hk]
      simp only [if_neg (fun c : k = h => e c.symm)]
  · rw [List.getElem?_eq_none (by rw [List.length_set, outL_length]; omega), List.getElem?_eq_none (by rw [outL_length]; omega)]
theorem outL_free {N : Nat} {Ls : List (List Nat)} {F : List Nd} (ok : LkOk N Ls F) {h j n : Nat} {l : List Nat} (hl : Ls[h]? = some l) (hn : l[j]? = some n) : ¬ inL (outL Ls h j) n := by
  rintro ⟨k, m, hm, hmem⟩
  have hnl := List.mem_of_getElem? hn
  have hk : k < Ls.length := by have := (List.getElem?_eq_some_iff.1 hm).1; rwa [outL_length] at this
  rw [outL_get hk] at hm
  injection hm with hm
  have h1 := (ok.own h l hl n hnl).2
  by_cases c1 : k < h
  · rw [if_pos c1] at hm
    have hLk : Ls[k]? = some m := by rw [← hm, List.getD_eq_getElem?_getD, List.getElem?_eq_getElem hk]; rfl
    have := (ok.own k m hLk n hmem).2
    omega
  · rw [if_neg c1] at hm
    by_cases c2 : k = h
    · rw [if_pos c2, getD_some hl] at hm
      rw [← hm] at hmem
      obtain ⟨i, hi⟩ := List.getElem?_of_mem hmem
      rw [List.getElem?_take] at hi
      split at hi
      · have hnd := ok.nodup h l hl
        have := (List.getElem?_inj (List.getElem?_eq_some_iff.1 hi).1 hnd (j := j)).1 (hi.trans hn.symm)
        omega
      · cases hi
    · rw [if_neg c2] at hm
      rw [← hm] at hmem
      cases hmem
theorem read_num {W : World} {a : Option Addr} {n c : Nat} {xs : List Nat} (h : ReadAt W (.slice a n c) 1 (nums xs)) {j y : Nat} (hy : xs[j]? = some y) : ∃ ad, a = some ad ∧ W.cell? (ad.add j) = some (.int .u32 y) := by
  obtain ⟨a', n', c', e, hl, _, h0, hc⟩ := h
  cases e
  have hu : (nums xs)[j]? = some (.int .u32 y) := by unfold nums; rw [List.getElem?_map, hy]; rfl
  cases a with
  | none =>
    have h1 := h0 rfl
    have h2 := (List.getElem?_eq_some_iff.1 hu).1
    omega
  | some ad => exact ⟨ad, rfl, hc ad rfl j _ hu⟩
theorem num_read {W : World} {a : Option Addr} {c : Nat} {xs : List Nat} (h : NumRow W a c xs) : ReadAt W (.slice a xs.length c) 1 (nums xs) := ReadAt.of_owns h (nums_one xs)
theorem fin3 {X : World} {b : Nat} {u0 u1 u2 v0 v1 v2 : Value} {T : TypeId} (h : X.heap[b]? = some (.cells #[u0, u1, u2] T (0, 0))) :
    (((X.setCell ⟨b, 0, none⟩ v0).setCell ⟨b, 1, none⟩ v1).setCell ⟨b, 2, none⟩ v2).heap[b]? = some (.cells #[v0, v1, v2] T (0, 0)) := by
  have h1 := heap_setCell_same X b 0 _ T v0 h
  have h2 := heap_setCell_same _ b 1 _ T v1 h1
  have h3 := heap_setCell_same _ b 2 _ T v2 h2
  simpa using h3
section
variable {w w' : World} {p N : Nat} {Ls : List (List Nat)} {D : Nat → Prop}
theorem LkAt.lenH (h : LkAt w D p N Ls) : Ls.length ≤ 4096 ∧ N ≤ 4194304 ∧ 1 ≤ N := by obtain ⟨gF, gL, cF, cL, F, h1, h2⟩ := h; exact ⟨h1.hm, h1.nm, h1.n1⟩
set_option maxHeartbeats 2000000 in
theorem lrenum_ok (h : LkAt w D p N Ls) (hH : 1 ≤ Ls.length) (a : Option Addr) (c : Nat) (hto : ReadAt w (.slice a N c) 1 (nums (List.range N))) {M : Nat} (hNM : N ≤ M) (hM : M ≤ 4194304) :
    Calls Tryd.prog 114 #[lkP p, .slice a N c, .int .i64 M] w fun e w' => e = .returned (.int .i64 0) ∧ (∃ D', LkAt w' D' p M Ls ∧ ∀ k, D' k → k = p ∨ w.heap.size ≤ k) ∧ Mod (fun k => k = p) w w' := by
  obtain ⟨h4, h5, h6⟩ := h.lenH
  have HAt := Lib.hid h
  obtain ⟨gF, gL, cF, cL, F, hm, hD⟩ := h
  have HOK := Lib.hid hm.ok
  have HTO := Lib.hid hto
  have HN := Lib.hid (lnone_ok hm)
  obtain ⟨H, hHe⟩ : ∃ H, Ls.length = H := ⟨_, rfl⟩
  have HNe := Lib.hid (lnew_ok w (N := M) (H := H) (by omega) hM (by omega) (by omega))
  have hb := hm.box
  obtain ⟨FL, hFL⟩ : ∃ FL, F.length = FL := ⟨_, rfl⟩
  rw [hHe, hFL] at hb
  rw [hHe] at h4 hH
  have HB := Lib.hid hb; have HHe := Lib.hid hHe
  clear hm hD hFL hto hHe
  have wH : IntKind.i64.wrap (H : Int) = H := IntWalk.i64_in _ (by omega)
  have wN : IntKind.i64.wrap (N : Int) = N := IntWalk.i64_in _ (by omega)
  have hb_0 := cell_of_row _ _ 0 _ _ _ hb; have hb_1 := cell_of_row _ _ 1 _ _ _ hb; have hb_2 := cell_of_row _ _ 2 _ _ _ hb; have hb_f := (fun j => frozen_of_row _ _ j _ _ hb); have hb_l := lt_of_block hb; simp at hb_0 hb_1 hb_2; have H_hb := Lib.hid hb; clear hb
  go_enter Tryd.func114, Tryd.ntmps114
  go_upto_region 4 with (first
    | (go_at_call 122; refine Calls.mono HN.out ?_; rintro e w' ⟨rfl, rfl⟩)
    | (go_at_call 76; refine Calls.mono HNe.out ?_; rintro e w1 ⟨q, D2, rfl, hq, hp1, hf1⟩))
  have hb1 := hp1.heap (fun h => h) HB.out
  have HQ := Lib.hid hq; have HP1 := Lib.hid hp1; have HF1 := Lib.hid hf1
  clear hb_0 hb_1 hb_2 hb_f hb_l
  clear H_hb hq hp1 hf1
  have HB1 := Lib.hid hb1
  have hb1_0 := cell_of_row _ _ 0 _ _ _ hb1; have hb1_1 := cell_of_row _ _ 1 _ _ _ hb1; have hb1_2 := cell_of_row _ _ 2 _ _ _ hb1; have hb1_f := (fun j => frozen_of_row _ _ j _ _ hb1); have hb1_l := lt_of_block hb1; simp at hb1_0 hb1_1 hb1_2; have H_hb1 := Lib.hid hb1; clear hb1
  go_upto_region 7 with fail
  clear hb1_0 hb1_1 hb1_2 hb1_f hb1_l
  clear H_hb1
  go_loopw [40] (fun v wr => ∃ i, v = .int .i64 (i : Nat) ∧ i ≤ H ∧ LkAt wr D2 q M (outL Ls i 0) ∧ Pure w wr) (fun v _ => H - (intOf v).toNat)
  case atStart => exact ⟨0, rfl, Nat.zero_le _, by rw [outL_zero, HHe.out]; exact HQ.out, HP1.out⟩
  case round =>
    clear HQ HP1 HB1
    obtain ⟨i, rfl, hi, hq, hpw⟩ := hrel
    have HQ := Lib.hid hq; have HPW := Lib.hid hpw
    clear hq hpw
    by_cases hlt : i < H
    · have hlt' : (i : Int) < (H : Int) := by omega
      have i0 : (0 : Int) ≤ (i : Int) := by omega
      have wi : IntKind.i64.wrap ((i : Int) + 1) = (i : Int) + 1 := IntWalk.i64_in _ (by omega)
      obtain ⟨l, hl⟩ : ∃ l, Ls[i]? = some l := ⟨_, List.getElem?_eq_getElem (by rw [HHe.out]; exact hlt)⟩
      have HL := Lib.hid hl
      have HAl := Lib.hid (lall_ok (HAt.out.pure HPW.out) hl)
      have hll : l.length ≤ N := HOK.out.short hl
      obtain ⟨n, hn⟩ : ∃ n, l.length = n := ⟨_, rfl⟩
      rw [hn] at HAl hll
      have HLN := Lib.hid hn
      clear hl hn
      go_upto_region 10 with (go_at_call 111; refine Calls.mono HAl.out ?_; rintro e w3 ⟨a3, c3, rfl, hrow, hfr, hp3⟩)
      have hnD : ∀ g, (Value.slice a3 n c3).ownBlock = some g → ¬ D2 g := fun g hg e => by have := hfr g hg; have := HQ.out.lt e; omega
      have HRow := Lib.hid hrow; have HND := Lib.hid hnD
      have HQ3 := Lib.hid (HQ.out.pure hp3); have HP3 := Lib.hid (HPW.out.trans hp3)
      clear hrow hfr hp3 hnD HAl
      have wn : IntKind.i64.wrap (n : Int) = n := IntWalk.i64_in _ (by omega)
      go_loopw [47] (fun v wr => ∃ j, v = .int .i64 (j : Nat) ∧ j ≤ n ∧ LkAt wr D2 q M (outL Ls i j) ∧ Pure w wr ∧ NumRow wr a3 c3 l) (fun v _ => n - (intOf v).toNat)
      case atStart => exact ⟨0, rfl, Nat.zero_le _, HQ3.out, HP3.out, by unfold NumRow; rw [HLN.out]; have := HRow.out; unfold NumRow at this; rw [HLN.out] at this; exact this⟩
      case round =>
        clear HQ HPW HQ3 HP3 HRow
        obtain ⟨j, rfl, hj, hq, hpw, hrow⟩ := hrel
        by_cases hlt2 : j < n
        · have hlt2' : (j : Int) < (n : Int) := by omega
          have j0 : (0 : Int) ≤ (j : Int) := by omega
          have wj : IntKind.i64.wrap ((j : Int) + 1) = (j : Int) + 1 := IntWalk.i64_in _ (by omega)
          obtain ⟨y, hy⟩ : ∃ y, l[j]? = some y := ⟨_, List.getElem?_eq_getElem (by rw [HLN.out]; exact hlt2)⟩
          obtain ⟨ad, had, z0⟩ := read_num (num_read hrow) hy
          have hyN : y < N := (HOK.out.own i l HL.out y (List.mem_of_getElem? hy)).1
          obtain ⟨ad2, had2, z1⟩ := read_num (HTO.out.frame hpw (fun _ _ h => h)) (j := y) (y := y) (by rw [List.getElem?_range hyN])
          have HBk := Lib.hid (lback_ok hq (n := y) (k := i) (l := l.take j) (by omega) (outL_at HL.out) (outL_free HOK.out HL.out hy))
          rw [outL_step HL.out hy] at HBk
          have dy : decide (y < N) = true := decide_eq_true hyN
          have hyb : y ≤ 4294967295 := by omega
          have HPW := Lib.hid hpw; have HRow := Lib.hid hrow; have HQl := Lib.hid hq
          subst had had2
          clear hy hq hpw hrow
          go_wp2_with (go_at_call 95; refine Calls.mono HBk.out ?_; rintro e w5 ⟨rfl, hq5, hm5⟩)
          go_roundw
          case rel => exact ⟨j + 1, by go_num, hlt2, hq5, HPW.out.then hm5 (fun k hk e => by have := HF1.out k e; omega), owns_mod HRow.out hm5 (by rw [HLN.out]; exact HND.out)⟩
          case measure => simp [intOf]; omega
        · have e : n = j := by omega
          subst e
          have HQf : Hid (LkAt wr D2 q M (outL Ls (i + 1) 0)) := Lib.hid (by rw [← outL_next HL.out, HLN.out]; exact hq)
          have HPW := Lib.hid hpw
          clear hq hpw hrow hj hlt2
          go_wp2
          go_roundw
          case rel => exact ⟨i + 1, by go_num, hlt, HQf.out, HPW.out⟩
          case measure => simp [intOf]; omega
    · have e : H = i := by omega
      subst e
      have hq := HQ.out
      rw [← HHe.out, outL_all] at hq
      obtain ⟨gF2, gL2, cF2, cL2, F2, hm2, hD2⟩ := hq
      have hb := HPW.out.heap (fun h => h) HB.out
      have hb2 := hm2.box
      rw [HHe.out] at hb2
      have hqp : q ≠ p := by
        have h1 := HF1.out q ((hD2 q).2 (.inl rfl))
        have h2 := lt_of_block HB.out
        omega
      have HM2 := Lib.hid hm2; have HD2 := Lib.hid hD2
      obtain ⟨FL2, hFL2⟩ : ∃ FL, F2.length = FL := ⟨_, rfl⟩
      rw [hFL2] at hb2
      have HFL2 := Lib.hid hFL2
      have hfin : ((wr.setCell ⟨p, 0, none⟩ (.slice (some ⟨gF2, 0, none⟩) FL2 cF2)).setCell ⟨p, 1, none⟩ (.int .i64 M)).setCell ⟨p, 2, none⟩ (.slice (some ⟨gL2, 0, none⟩) H cL2) = ((wr.setCell ⟨p, 0, none⟩ (.slice (some ⟨gF2, 0, none⟩) FL2 cF2)).setCell ⟨p, 1, none⟩ (.int .i64 M)).setCell ⟨p, 2, none⟩ (.slice (some ⟨gL2, 0, none⟩) H cL2) := rfl
      have HBr := Lib.hid hb
      clear hm2 hD2 hFL2 hfin hi hlt
      have hb_0 := cell_of_row _ _ 0 _ _ _ hb; have hb_1 := cell_of_row _ _ 1 _ _ _ hb; have hb_2 := cell_of_row _ _ 2 _ _ _ hb; have hb_f := (fun j => frozen_of_row _ _ j _ _ hb); have hb_l := lt_of_block hb; simp at hb_0 hb_1 hb_2; have H_hb := Lib.hid hb; clear hb
      have hb2_0 := cell_of_row _ _ 0 _ _ _ hb2; have hb2_1 := cell_of_row _ _ 1 _ _ _ hb2; have hb2_2 := cell_of_row _ _ 2 _ _ _ hb2; have hb2_f := (fun j => frozen_of_row _ _ j _ _ hb2); have hb2_l := lt_of_block hb2; simp at hb2_0 hb2_1 hb2_2; have H_hb2 := Lib.hid hb2; clear hb2
      go_wp2
      have hm := (((Mod.refl (fun k => k = p) wr).setCell (p := ⟨p, 0, none⟩) (fun _ => rfl) (.slice (some ⟨gF2, 0, none⟩) FL2 cF2)).setCell (p := ⟨p, 1, none⟩) (fun _ => rfl) (.int .i64 M)).setCell (p := ⟨p, 2, none⟩) (fun _ => rfl) (.slice (some ⟨gL2, 0, none⟩) H cL2)
      have hbx := fin3 (v0 := .slice (some ⟨gF2, 0, none⟩) FL2 cF2) (v1 := .int .i64 M) (v2 := .slice (some ⟨gL2, 0, none⟩) H cL2) HBr.out
      have hpp : p < w.heap.size := lt_of_block HB.out
      have h1 := HF1.out gF2 ((HD2.out gF2).2 (.inr (.inl rfl)))
      have h2 := HF1.out gL2 ((HD2.out gL2).2 (.inr (.inr rfl)))
      go_ret
      refine ⟨rfl, ⟨fun k => k = p ∨ k = gF2 ∨ k = gL2, ⟨gF2, gL2, cF2, cL2, F2, ⟨?_, hm.heap (fun e => by omega) HM2.out.fld, hm.heap (fun e => by omega) HM2.out.len, HM2.out.ok, HM2.out.n1, HM2.out.nm, HM2.out.hm⟩, fun k => Iff.rfl⟩, fun k hk => ?_⟩, (Mod.of_pure HPW.out).trans hm⟩
      · rw [HFL2.out, HHe.out]; exact hbx
      · rcases hk with rfl | rfl | rfl
        · exact .inl rfl
        · exact .inr h1
        · exact .inr h2
end
end Go.Proofs.YtlalpenfgkfkpaaDoor

/- wheel: New, check, room, Put. Conditions: the level lies in memory. -/
namespace Go.Proofs.YtlalpenfgkfkpaaDoor
open Go.RowKit
set_option maxRecDepth 100000
def neB (Ls : List (List Nat)) (b : Nat) : Bool := match Ls[b]? with
  | some (_ :: _) => true
  | _ => false
theorem neB_set {Ls : List (List Nat)} {b : Nat} (hb : b < Ls.length) (l : List Nat) : neB (Ls.set b l) = setB (neB Ls) b (!l.isEmpty) := by
  funext x
  unfold neB setB
  by_cases e : b = x
  · subst e
    rw [List.getElem?_set_self hb, if_pos rfl]
    cases l <;> rfl
  · rw [List.getElem?_set_ne e, if_neg (fun c => e c.symm)]
theorem neB_new (H : Nat) : neB (List.replicate H []) = fun _ => false := by
  funext x
  unfold neB
  rw [List.getElem?_replicate]
  split
  · rename_i h; split at h <;> cases h
  · rfl
theorem setB_same {f : Nat → Bool} {b : Nat} {v : Bool} (h : f b = v) : setB f b v = f := by
  funext x
  unfold setB
  split
  · rename_i e; rw [e, h]
  · rfl
/-- A level of buckets: block p, its own blocks D. -/
def WhAt (w : World) (D : Nat → Prop) (p : Nat) (Ls : List (List Nat)) : Prop :=
  ∃ q many N Dl, w.heap[p]? = some (.cells (whC q (neB Ls) many) 132 (0, 0)) ∧ LkAt w Dl q N Ls ∧ Ls.length = 256 ∧ ∀ k, D k ↔ (k = p ∨ Dl k)
theorem LkAt.types {w : World} {D : Nat → Prop} {p N : Nat} {Ls : List (List Nat)} (h : LkAt w D p N Ls) {k : Nat} (hk : D k) {cs : Array Value} {T : TypeId} {fz : Nat × Nat} (e : w.heap[k]? = some (.cells cs T fz)) : T = 152 ∨ T = 156 ∨ T = 3 := by
  obtain ⟨gF, gL, cF, cL, F, h1, h2⟩ := h
  rcases (h2 k).1 hk with rfl | rfl | rfl
  · have := e.symm.trans h1.box; injection this with this; injection this with _ this; exact .inl this
  · have := e.symm.trans h1.fld; injection this with this; injection this with _ this; exact .inr (.inl this)
  · have := e.symm.trans h1.len; injection this with this; injection this with _ this; exact .inr (.inr this)
section
variable {w w' : World} {D S : Nat → Prop} {p : Nat} {Ls : List (List Nat)}
theorem WhAt.frame (h : WhAt w D p Ls) (hm : Mod S w w') (hd : ∀ k, D k → ¬ S k) : WhAt w' D p Ls := by
  obtain ⟨q, many, N, Dl, h1, h2, h3, h4⟩ := h
  exact ⟨q, many, N, Dl, hm.heap (hd p ((h4 p).2 (.inl rfl))) h1, h2.frame hm (fun k hk => hd k ((h4 k).2 (.inr hk))), h3, h4⟩
theorem WhAt.pure (h : WhAt w D p Ls) (hm : Pure w w') : WhAt w' D p Ls := h.frame hm (fun _ _ h => h)
theorem WhAt.lt (h : WhAt w D p Ls) {k : Nat} (hk : D k) : k < w.heap.size := by
  obtain ⟨q, many, N, Dl, h1, h2, h3, h4⟩ := h
  rcases (h4 k).1 hk with rfl | e
  · exact lt_of_block h1
  · exact h2.lt e
theorem WhAt.self (h : WhAt w D p Ls) : D p := by obtain ⟨q, many, N, Dl, h1, h2, h3, h4⟩ := h; exact (h4 p).2 (.inl rfl)
theorem WhAt.len (h : WhAt w D p Ls) : Ls.length = 256 := by obtain ⟨q, many, N, Dl, h1, h2, h3, h4⟩ := h; exact h3
theorem box_not {q : Nat} {f : Nat → Bool} {many : Int} (h : w.heap[p]? = some (.cells (whC q f many) 132 (0, 0))) {Dl : Nat → Prop} {q' N : Nat} (hl : LkAt w Dl q' N Ls) : ¬ Dl p := fun hd => by
  rcases hl.types hd h with e | e | e <;> exact absurd e (by decide)
theorem wh_cells {q : Nat} {f : Nat → Bool} {many : Int} (h : w.heap[p]? = some (.cells (whC q f many) 132 (0, 0))) :
    w.cell? ⟨p, 0, none⟩ = some (.pointer (some ⟨q, 0, none⟩)) ∧ w.cell? ⟨p, 5, none⟩ = some (.int .i64 many) ∧ (∀ i, w.frozen? ⟨p, i, none⟩ = false) ∧ p < w.heap.size :=
  ⟨cell_of_row w p 0 _ _ (0, 0) h, cell_of_row w p 5 _ _ (0, 0) h, fun i => frozen_of_row w p i _ _ h, lt_of_block h⟩
theorem wh_many {q : Nat} {f : Nat → Bool} {many : Int} (h : w.heap[p]? = some (.cells (whC q f many) 132 (0, 0))) (m2 : Int) : (w.setCell ⟨p, 5, none⟩ (.int .i64 m2)).heap[p]? = some (.cells (whC q f m2) 132 (0, 0)) := by
  have arr : ∀ (a x0 x1 x2 x3 y z : Value), (#[a, x0, x1, x2, x3, z] : Array Value).setIfInBounds 5 y = #[a, x0, x1, x2, x3, y] := fun _ _ _ _ _ _ _ => rfl
  have := heap_setCell_same w p 5 _ _ (.int .i64 m2) h
  unfold whC at this ⊢
  rw [arr] at this
  exact this
theorem wcheck_ok (h : WhAt w D p Ls) {s : Nat} (hs : s < 4194304) {b : Int} (hb0 : 0 ≤ b) (hb : b < 256) : Calls Tryd.prog 88 #[lkP p, .int .u32 s, .int .i64 b] w fun e w' => e = .returned (.int .i64 0) ∧ w = w' := by
  obtain ⟨q, many, N, Dl, h1, h2, h3, h4⟩ := h
  obtain ⟨c0, _, _, _⟩ := wh_cells h1
  clear h1 h2 h3 h4
  have d1 : decide ((4194304 : Int) ≤ (s : Int)) = false := decide_eq_false (by omega)
  have d1n : decide (4194304 ≤ s) = false := decide_eq_false (by omega)
  have d2 : decide (b < 0) = false := decide_eq_false (by omega)
  have d3 : decide ((256 : Int) ≤ b) = false := decide_eq_false (by omega)
  go_enter Tryd.func88, Tryd.ntmps88
  go_wp2
  go_ret
  exact ⟨rfl, rfl⟩
theorem wnew_ok (w : World) : Calls Tryd.prog 45 #[] w fun e w' => ∃ p D, e = .returned (lkP p) ∧ WhAt w' D p (List.replicate 256 []) ∧ Pure w w' ∧ ∀ k, D k → w.heap.size ≤ k := by
  have HN := Lib.hid (lnew_ok w (N := 8) (H := 256) (by omega) (by omega) (by omega) (by omega))
  have hwd : ∀ k, wd64 (fun _ => false) k = 0 := fun k => wd_zero.2 (fun _ _ => rfl)
  have HWD := Lib.hid hwd
  clear hwd
  go_enter Tryd.func45, Tryd.ntmps45
  go_wp2_with (go_at_call 76; refine Calls.mono HN.out ?_; rintro e w1 ⟨q, D, rfl, hl, hp, hf⟩)
  go_ret
  have hal : Pure w1 (w1.alloc (.cells #[.pointer (some ⟨q, 0, none⟩), .int .u64 0, .int .u64 0, .int .u64 0, .int .u64 0, .int .i64 0] 132)) := (Mod.refl _ w1).alloc _
  have hbx := heap_new (w := w1) (o := .cells #[.pointer (some ⟨q, 0, none⟩), .int .u64 0, .int .u64 0, .int .u64 0, .int .u64 0, .int .i64 0] 132 (0, 0)) rfl
  refine ⟨w1.heap.size, fun k => k = w1.heap.size ∨ D k, rfl, ⟨q, 0, 8, D, ?_, hl.pure hal, List.length_replicate, fun k => Iff.rfl⟩, hp.trans hal, fun k hk => ?_⟩
  · unfold whC
    rw [neB_new, HWD.out, HWD.out, HWD.out, HWD.out]
    exact hbx
  · rcases hk with rfl | hk
    · exact hp.size
    · exact hf k hk
end
end Go.Proofs.YtlalpenfgkfkpaaDoor

/- wheel: room, Put. Conditions: the level lies in memory. -/
namespace Go.Proofs.YtlalpenfgkfkpaaDoor
open Go.RowKit
set_option maxRecDepth 100000
/-- The first i numbers, and noughts behind them. -/
def idsL (n i : Nat) : List Nat := (List.range n).map (fun j => if j < i then j else 0)
theorem idsL_length (n i : Nat) : (idsL n i).length = n := by simp [idsL]
theorem idsL_all (n : Nat) : idsL n n = List.range n := by
  unfold idsL
  refine List.ext_getElem? (fun j => ?_)
  rw [List.getElem?_map]
  by_cases hj : j < n
  · rw [List.getElem?_range hj]; simp [hj]
  · rw [List.getElem?_eq_none (by simpa using hj)]; rfl
theorem idsL_step {n i : Nat} (hi : i < n) : (nums (idsL n i)).set i (.int .u32 (i : Nat)) = nums (idsL n (i + 1)) := by
  unfold nums idsL
  refine List.ext_getElem? (fun j => ?_)
  by_cases e : i = j
  · subst e
    rw [List.getElem?_set_self (by simpa using hi)]
    simp [List.getElem?_range hi]
  · rw [List.getElem?_set_ne e, List.getElem?_map, List.getElem?_map, List.getElem?_map, List.getElem?_map]
    by_cases hj : j < n
    · rw [List.getElem?_range hj]
      have : (j < i) = (j < i + 1) := by rw [eq_iff_iff]; omega
      simp [this]
    · rw [List.getElem?_eq_none (by simpa using hj)]; rfl
theorem made_nums (m : Nat) : madeCells (Value.int .u32 0).cells (m * 1) = (nums (idsL m 0)).toArray := by
  rw [show (Value.int .u32 0).cells = #[.int .u32 0] from rfl]
  apply Array.ext_getElem?
  intro k
  unfold madeCells nums idsL
  rw [Array.getElem?_map, show ((((List.range m).map (fun j => if j < 0 then j else 0)).map (fun x : Nat => (Value.int .u32 x))).toArray)[k]? = (((List.range m).map (fun j => if j < 0 then j else 0)).map (fun x : Nat => (Value.int .u32 x)))[k]? from List.getElem?_toArray, Nat.mul_one]
  rw [List.getElem?_map, List.getElem?_map]
  by_cases hk : k < m
  · rw [Array.getElem?_range, if_pos hk, List.getElem?_range hk]
    show some (#[Value.int .u32 0][k % 1]!) = _
    rw [Nat.mod_one]; rfl
  · rw [Array.getElem?_range, if_neg hk, List.getElem?_eq_none (by simpa using hk)]; rfl
section
variable {w w' : World} {D : Nat → Prop} {p : Nat} {Ls : List (List Nat)}
set_option maxHeartbeats 1000000 in
/-- room: the field has a node for the slot behind it. -/
theorem wroom_ok {q N : Nat} {many : Int} {Dl : Nat → Prop} (hb : w.heap[p]? = some (.cells (whC q (neB Ls) many) 132 (0, 0))) (hl : LkAt w Dl q N Ls) (h256 : Ls.length = 256) {s : Nat} (hs : s < 4194304) :
    Calls Tryd.prog 94 #[lkP p, .int .u32 s] w fun e w' => e = .returned (.tuple #[]) ∧ ∃ N' Dl', LkAt w' Dl' q N' Ls ∧ s < N' ∧ Mod Dl w w' ∧ ∀ k, Dl' k → Dl k ∨ w.heap.size ≤ k := by
  obtain ⟨c0, _, _, hlt⟩ := wh_cells hb
  obtain ⟨l4, l5, l6⟩ := hl.lenH
  have HNo := Lib.hid (lnodes_ok hl)
  have HL := Lib.hid hl
  have HNB : Hid (¬ Dl p) := Lib.hid (box_not hb hl)
  have HB := Lib.hid hb
  clear hb hl l4
  have wn : IntKind.i64.wrap (s : Int) = (s : Int) := IntWalk.i64_in _ (by omega)
  by_cases c : s < N
  · have d1 : decide ((s : Int) < (N : Int)) = true := decide_eq_true (by omega)
    have d1n : decide (s < N) = true := decide_eq_true c
    go_enter Tryd.func94, Tryd.ntmps94
    go_wp2_with (go_at_call 113; refine Calls.mono HNo.out ?_; rintro e w' ⟨rfl, rfl⟩)
    exact bodyPost_ret (results_none rfl _ _ _) rfl ⟨rfl, N, Dl, HL.out, c, Mod.refl _ _, fun k hk => .inl hk⟩
  · have d1 : decide ((s : Int) < (N : Int)) = false := decide_eq_false (by omega)
    have d1n : decide (s < N) = false := decide_eq_false c
    obtain ⟨i0, hi, iz0, iz1, iz2⟩ := info_parts info_n32
    have hmk : ∀ W : World, (Instr.makeSlice 74 (.int .i64 (N : Int)) (.int .i64 (N : Int))).run Tryd.prog W = .ok (.slice (some ⟨W.heap.size, 0, none⟩) N N) (W.alloc (.cells (nums (idsL N 0)).toArray 29)) := fun W => by
      have := run_make W 74 29 i0 _ Tryd.underlying74 hi iz0 .i64 .i64 (N : Int) (N : Int) (by omega) (Int.le_refl _) (by rw [iz2]; omega) (by omega)
      rw [iz1, show ((N : Int)).toNat = N by omega, made_nums] at this
      exact this
    clear hi iz0 iz1 iz2
    go_enter Tryd.func94, Tryd.ntmps94
    go_upto_region 4 with (go_at_call 113; refine Calls.mono HNo.out ?_; rintro e w' ⟨rfl, rfl⟩)
    have hal : Pure w (w.alloc (.cells (nums (idsL N 0)).toArray 29)) := (Mod.refl _ w).alloc _
    have hr0 := heap_new (w := w) (o := .cells (nums (idsL N 0)).toArray 29 (0, 0)) rfl
    have HAL := Lib.hid hal; have HR0 := Lib.hid hr0
    clear hal hr0 hmk
    generalize w.alloc (.cells (nums (idsL N 0)).toArray 29) = W1 at *
    obtain ⟨g, hg⟩ : ∃ g, w.heap.size = g := ⟨_, rfl⟩
    rw [hg] at HR0 ⊢
    have HG := Lib.hid hg
    clear hg
    have hN0 : 1 ≤ N := l6
    go_loopw [20] (fun v wr => ∃ i, v = .int .i64 (i : Nat) ∧ i ≤ N ∧ Pure w wr ∧ wr.heap[g]? = some (.cells (nums (idsL N i)).toArray 29 (0, 0))) (fun v _ => N - (intOf v).toNat)
    case atStart => exact ⟨0, rfl, Nat.zero_le _, HAL.out, HR0.out⟩
    case round =>
      clear HAL HR0
      obtain ⟨i, rfl, hi, hpu, hrw⟩ := hrel
      have HPU := Lib.hid hpu; have HRW := Lib.hid hrw
      clear hpu hrw
      by_cases hlt2 : i < N
      · have hlt' : (i : Int) < (N : Int) := by omega
        have i0 : (0 : Int) ≤ (i : Int) := by omega
        have wi : IntKind.i64.wrap ((i : Int) + 1) = (i : Int) + 1 := IntWalk.i64_in _ (by omega)
        have wu : IntKind.u32.wrap (i : Int) = (i : Int) := u32_of i (by omega)
        have q0 : ∃ v, wr.cell? ⟨g, i, none⟩ = some v := by
          rw [cell_of_row wr g i _ _ (0, 0) HRW.out, List.getElem?_toArray, List.getElem?_eq_getElem (by rw [nums_length, idsL_length]; exact hlt2)]
          exact ⟨_, rfl⟩
        obtain ⟨v0, q0⟩ := q0
        have g0 := frozen_of_row wr g i _ _ HRW.out
        have hX : g < wr.heap.size := lt_of_block HRW.out
        have di : decide (i < N) = true := decide_eq_true hlt2
        have e1 := heap_setCell_same wr g i _ _ (.int .u32 (i : Nat)) HRW.out
        rw [List.setIfInBounds_toArray, idsL_step hlt2] at e1
        have HE1 := Lib.hid e1
        clear e1
        go_wp2
        go_roundw
        case rel => exact ⟨i + 1, by go_num, hlt2, HPU.out.then ((Mod.refl (fun k => k = g) wr).setCell (p := ⟨g, i, none⟩) (fun _ => rfl) _) (fun k hk e => by have := HG.out; omega), HE1.out⟩
        case measure => simp [intOf]; omega
      · have e : N = i := by omega
        subst e
        have hrd : ReadAt wr (.slice (some ⟨g, 0, none⟩) N N) 1 (nums (List.range N)) := by
          have := ReadAt.of_block (w := wr) N N 1 HRW.out (by simp [nums_length, idsL_length]) (by simpa using nums_one (idsL N N))
          simpa [idsL_all] using this
        have hren : ∀ M : Int, (N : Int) ≤ M → M ≤ 4194304 → (s : Int) < M → Calls Tryd.prog 114 #[lkP q, .slice (some ⟨g, 0, none⟩) N N, .int .i64 M] wr fun e w' => e = .returned (.int .i64 0) ∧ ∃ N' Dl', LkAt w' Dl' q N' Ls ∧ s < N' ∧ Mod Dl w w' ∧ ∀ k, Dl' k → Dl k ∨ w.heap.size ≤ k := fun M h1 h2 h3 => by
          obtain ⟨M, rfl⟩ := Int.eq_ofNat_of_zero_le (show 0 ≤ M by omega)
          refine (lrenum_ok (HL.out.pure HPU.out) (by omega) (some ⟨g, 0, none⟩) N hrd (M := M) (by omega) (by omega)).mono ?_
          rintro e w' ⟨he, ⟨D', g1, g2⟩, g3⟩
          have hq := HL.out.self
          refine ⟨he, M, D', g1, by omega, (Mod.of_pure HPU.out).trans (g3.mono (fun k _ hk => by rw [hk]; exact hq)), fun k hk => ?_⟩
          rcases g2 k hk with e | e
          · exact .inl (by rw [e]; exact hq)
          · exact .inr (Nat.le_trans HPU.out.size e)
        have HRen := Lib.hid hren
        clear hren
        have c0 := HPU.out.cell (fun h => h) c0
        have hlt2 := HPU.out.lt hlt
        have w2 : IntKind.i64.wrap (2 * (N : Int)) = 2 * (N : Int) := IntWalk.i64_in _ (by omega)
        have w3 : IntKind.i64.wrap ((s : Int) + 1) = (s : Int) + 1 := IntWalk.i64_in _ (by omega)
        clear hrd hi
        go_wp2_with fail
        all_goals
          refine Calls.mono (HRen.out _ (by omega) (by omega) (by omega)) ?_
          rintro e w5 ⟨rfl, N', Dl', q1, q2, q3, q4⟩
          go_wp2
          go_end0
          exact ⟨rfl, N', Dl', q1, q2, q3, q4⟩
end
end Go.Proofs.YtlalpenfgkfkpaaDoor
