/- word.Bytes, swiss.Index.Layout. -/
import Derived.Test.YtbjiebhbmpafpaaFinds
namespace Go.Proofs.Ytbjiebhbmpafpaa
open Go.RowKit Go.Shelf
set_option maxRecDepth 100000

/-- The lanes of a word while they are read. -/
def arrU (l : List Nat) (i : Nat) : Array Value := #[.int .u8 (if 0 < i then l.getD 0 0 else 0 : Nat), .int .u8 (if 1 < i then l.getD 1 0 else 0 : Nat), .int .u8 (if 2 < i then l.getD 2 0 else 0 : Nat), .int .u8 (if 3 < i then l.getD 3 0 else 0 : Nat), .int .u8 (if 4 < i then l.getD 4 0 else 0 : Nat), .int .u8 (if 5 < i then l.getD 5 0 else 0 : Nat), .int .u8 (if 6 < i then l.getD 6 0 else 0 : Nat), .int .u8 (if 7 < i then l.getD 7 0 else 0 : Nat)]
theorem lane_int {l : List Nat} (h : Bytes8 l) (j : Nat) : ((word8 l : Nat) : Int) / ((2 ^ (8 * j) : Nat) : Int) % 256 = ((l.getD j 0 : Nat) : Int) := by
  have := word8_lane l h.2 j
  omega
theorem lane_int0 {l : List Nat} (h : Bytes8 l) : ((word8 l : Nat) : Int) % 256 = ((l.getD 0 0 : Nat) : Int) := by
  have := word8_lane l h.2 0
  rw [Nat.mul_zero, Nat.pow_zero, Nat.div_one] at this
  omega
theorem lane_int7 {l : List Nat} (h : Bytes8 l) : ((word8 l : Nat) : Int) / 72057594037927936 = ((l.getD 7 0 : Nat) : Int) := by
  have := word8_lane l h.2 7
  have := h.lt
  omega
theorem arrU_step {l : List Nat} {W : World} {B i : Nat} {T : TypeId} (hi : i < 8) (h : W.heap[B]? = some (.cells (arrU l i) T (0, 0))) {v : Value} (hv : v = .int .u8 ((l.getD i 0 : Nat) : Int)) :
    (W.setCell ⟨B, i, none⟩ v).heap[B]? = some (.cells (arrU l (i + 1)) T (0, 0)) := by
  subst hv
  have := heap_set1 (j := i) (v := .int .u8 ((l.getD i 0 : Nat) : Int)) h
  rw [this]
  have : i = 0 ∨ i = 1 ∨ i = 2 ∨ i = 3 ∨ i = 4 ∨ i = 5 ∨ i = 6 ∨ i = 7 := by omega
  rcases this with rfl | rfl | rfl | rfl | rfl | rfl | rfl | rfl <;> rfl
theorem Bytes_ok {l : List Nat} (h : Bytes8 l) (w : World) : Calls Try.prog 105 #[.int .u64 (word8 l)] w fun e w' => e = .returned (.agg (arrU l 8)) ∧ Pure w w' := by
  have hl := h.lt
  have hp : Pure w ((w.alloc (.cells #[.int .u8 0, .int .u8 0, .int .u8 0, .int .u8 0, .int .u8 0, .int .u8 0, .int .u8 0, .int .u8 0] 160)).alloc (.cells #[.int .u8 0, .int .u8 0, .int .u8 0, .int .u8 0, .int .u8 0, .int .u8 0, .int .u8 0, .int .u8 0] 160)) := by (repeat' (first | (with_reducible exact Mod.refl _ _) | (with_reducible refine Mod.alloc ?_ _) | (with_reducible refine Mod.drew ?_) | (with_reducible refine Mod.drewN ?_ _) | (with_reducible refine Mod.setCell ?_ ?_ _) | (refine Mod.then ?_ (by with_reducible assumption) ?_)))
  have hb1 : ((w.alloc (.cells #[.int .u8 0, .int .u8 0, .int .u8 0, .int .u8 0, .int .u8 0, .int .u8 0, .int .u8 0, .int .u8 0] 160)).alloc (.cells #[.int .u8 0, .int .u8 0, .int .u8 0, .int .u8 0, .int .u8 0, .int .u8 0, .int .u8 0, .int .u8 0] 160)).heap[w.heap.size]? = some (.cells (arrU l 0) 160 (0, 0)) := heap_keep (heap_new rfl)
  have hb2 : ((w.alloc (.cells #[.int .u8 0, .int .u8 0, .int .u8 0, .int .u8 0, .int .u8 0, .int .u8 0, .int .u8 0, .int .u8 0] 160)).alloc (.cells #[.int .u8 0, .int .u8 0, .int .u8 0, .int .u8 0, .int .u8 0, .int .u8 0, .int .u8 0, .int .u8 0] 160)).heap[w.heap.size + 1]? = some (.cells (arrU l 0) 160 (0, 0)) := heap_new (by simp)
  go_enter Try.func105, Try.ntmps105
  go_upto_region 2 with fail
  generalize (w.alloc (.cells #[.int .u8 0, .int .u8 0, .int .u8 0, .int .u8 0, .int .u8 0, .int .u8 0, .int .u8 0, .int .u8 0] 160)).alloc (.cells #[.int .u8 0, .int .u8 0, .int .u8 0, .int .u8 0, .int .u8 0, .int .u8 0, .int .u8 0, .int .u8 0] 160) = W1 at *
  have hlw : w.heap.size + 1 < W1.heap.size := lt_of_block hb2
  obtain ⟨b, hb⟩ : ∃ b, w.heap.size = b := ⟨_, rfl⟩
  rw [hb] at hb1 hb2 hlw ⊢
  have HB := Lib.hid hb
  clear hb
  have h1 := Lib.hid hb1; have h2 := Lib.hid hb2; have HP := Lib.hid hp
  clear hb1 hb2 hp
  go_upto_region 3 with fail
  go_loopw [5] (fun k wr => ∃ i, k = .int .i64 (i : Nat) ∧ i ≤ 8 ∧ Pure w wr ∧ wr.heap[b]? = some (.cells (arrU l 0) 160 (0, 0)) ∧ wr.heap[b + 1]? = some (.cells (arrU l i) 160 (0, 0))) (fun k _ => 8 - (intOf k).toNat)
  case atStart => exact ⟨0, rfl, by omega, HP.out, h1.out, h2.out⟩
  case round =>
    obtain ⟨i, rfl, hi, hpu, g1, g2⟩ := hrel
    have HPU := Lib.hid hpu; have G1 := Lib.hid g1
    clear hpu
    by_cases hlt : i < 8
    · have hs := h2
      have : i = 0 ∨ i = 1 ∨ i = 2 ∨ i = 3 ∨ i = 4 ∨ i = 5 ∨ i = 6 ∨ i = 7 := by omega
      have G2 := Lib.hid g2
      have hlen : ∀ j v, (wr.setCell ⟨b + 1, j, none⟩ v).heap[b]? = some (.cells (arrU l 0) 160 (0, 0)) := fun j v => heap_set_other g1 (by dsimp only; omega)
      have hpp : ∀ j v, Pure w (wr.setCell ⟨b + 1, j, none⟩ v) := fun j v => HPU.out.then (Mod.set1 (b + 1) j v) (fun k hk e => by have := HB.out; omega)
      have HLN := Lib.hid hlen; have HPP := Lib.hid hpp
      unfold arrU at g2
      have g2_0 := cell_of_row _ _ 0 _ _ _ g2; have g2_1 := cell_of_row _ _ 1 _ _ _ g2; have g2_2 := cell_of_row _ _ 2 _ _ _ g2; have g2_3 := cell_of_row _ _ 3 _ _ _ g2; have g2_4 := cell_of_row _ _ 4 _ _ _ g2; have g2_5 := cell_of_row _ _ 5 _ _ _ g2; have g2_6 := cell_of_row _ _ 6 _ _ _ g2; have g2_7 := cell_of_row _ _ 7 _ _ _ g2; have g2_f := (fun j => frozen_of_row _ _ j _ _ g2); have g2_l := lt_of_block g2; simp at g2_0 g2_1 g2_2 g2_3 g2_4 g2_5 g2_6 g2_7; have H_g2 := Lib.hid g2; clear g2
      clear g1 h1 h2 hlt hi hlen hpp H_g2
      rcases this with rfl | rfl | rfl | rfl | rfl | rfl | rfl | rfl
      · go_wp2
        exact ⟨⟨1, rfl, by decide, HPP.out _ _, HLN.out _ _, arrU_step (i := 0) (by decide) G2.out (congrArg (Value.int .u8) (lane_int0 h))⟩, by decide⟩
      · go_wp2
        exact ⟨⟨2, rfl, by decide, HPP.out _ _, HLN.out _ _, arrU_step (i := 1) (by decide) G2.out (congrArg (Value.int .u8) (lane_int h 1))⟩, by decide⟩
      · go_wp2
        exact ⟨⟨3, rfl, by decide, HPP.out _ _, HLN.out _ _, arrU_step (i := 2) (by decide) G2.out (congrArg (Value.int .u8) (lane_int h 2))⟩, by decide⟩
      · go_wp2
        exact ⟨⟨4, rfl, by decide, HPP.out _ _, HLN.out _ _, arrU_step (i := 3) (by decide) G2.out (congrArg (Value.int .u8) (lane_int h 3))⟩, by decide⟩
      · go_wp2
        exact ⟨⟨5, rfl, by decide, HPP.out _ _, HLN.out _ _, arrU_step (i := 4) (by decide) G2.out (congrArg (Value.int .u8) (lane_int h 4))⟩, by decide⟩
      · go_wp2
        exact ⟨⟨6, rfl, by decide, HPP.out _ _, HLN.out _ _, arrU_step (i := 5) (by decide) G2.out (congrArg (Value.int .u8) (lane_int h 5))⟩, by decide⟩
      · go_wp2
        exact ⟨⟨7, rfl, by decide, HPP.out _ _, HLN.out _ _, arrU_step (i := 6) (by decide) G2.out (congrArg (Value.int .u8) (lane_int h 6))⟩, by decide⟩
      · go_wp2
        exact ⟨⟨8, rfl, by decide, HPP.out _ _, HLN.out _ _, arrU_step (i := 7) (by decide) G2.out (congrArg (Value.int .u8) (lane_int7 h))⟩, by decide⟩
    · have e : i = 8 := by omega
      subst e
      have HG := Lib.hid g2
      have gg2 := g2
      have gg1 := g1
      unfold arrU at gg1 gg2
      have gg1_0 := cell_of_row _ _ 0 _ _ _ gg1; have gg1_1 := cell_of_row _ _ 1 _ _ _ gg1; have gg1_2 := cell_of_row _ _ 2 _ _ _ gg1; have gg1_3 := cell_of_row _ _ 3 _ _ _ gg1; have gg1_4 := cell_of_row _ _ 4 _ _ _ gg1; have gg1_5 := cell_of_row _ _ 5 _ _ _ gg1; have gg1_6 := cell_of_row _ _ 6 _ _ _ gg1; have gg1_7 := cell_of_row _ _ 7 _ _ _ gg1; have gg1_f := (fun j => frozen_of_row _ _ j _ _ gg1); have gg1_l := lt_of_block gg1; simp at gg1_0 gg1_1 gg1_2 gg1_3 gg1_4 gg1_5 gg1_6 gg1_7; have H_gg1 := Lib.hid gg1; clear gg1
      have gg2_0 := cell_of_row _ _ 0 _ _ _ gg2; have gg2_1 := cell_of_row _ _ 1 _ _ _ gg2; have gg2_2 := cell_of_row _ _ 2 _ _ _ gg2; have gg2_3 := cell_of_row _ _ 3 _ _ _ gg2; have gg2_4 := cell_of_row _ _ 4 _ _ _ gg2; have gg2_5 := cell_of_row _ _ 5 _ _ _ gg2; have gg2_6 := cell_of_row _ _ 6 _ _ _ gg2; have gg2_7 := cell_of_row _ _ 7 _ _ _ gg2; have gg2_f := (fun j => frozen_of_row _ _ j _ _ gg2); have gg2_l := lt_of_block gg2; simp at gg2_0 gg2_1 gg2_2 gg2_3 gg2_4 gg2_5 gg2_6 gg2_7; have H_gg2 := Lib.hid gg2; clear gg2
      clear g1 g2 h1 h2
      go_wp2
      have k8 := heap_set1 (j := 7) (v := .int .u8 ((l[7]?.getD 0 : Nat) : Int)) (heap_set1 (j := 6) (v := .int .u8 ((l[6]?.getD 0 : Nat) : Int)) (heap_set1 (j := 5) (v := .int .u8 ((l[5]?.getD 0 : Nat) : Int)) (heap_set1 (j := 4) (v := .int .u8 ((l[4]?.getD 0 : Nat) : Int)) (heap_set1 (j := 3) (v := .int .u8 ((l[3]?.getD 0 : Nat) : Int)) (heap_set1 (j := 2) (v := .int .u8 ((l[2]?.getD 0 : Nat) : Int)) (heap_set1 (j := 1) (v := .int .u8 ((l[1]?.getD 0 : Nat) : Int)) (heap_set1 (j := 0) (v := .int .u8 ((l[0]?.getD 0 : Nat) : Int)) H_gg1.out)))))))
      have hpw : Pure w ((((((((wr.setCell ⟨b, 0, none⟩ (.int .u8 ((l[0]?.getD 0 : Nat) : Int))).setCell ⟨b, 1, none⟩ (.int .u8 ((l[1]?.getD 0 : Nat) : Int))).setCell ⟨b, 2, none⟩ (.int .u8 ((l[2]?.getD 0 : Nat) : Int))).setCell ⟨b, 3, none⟩ (.int .u8 ((l[3]?.getD 0 : Nat) : Int))).setCell ⟨b, 4, none⟩ (.int .u8 ((l[4]?.getD 0 : Nat) : Int))).setCell ⟨b, 5, none⟩ (.int .u8 ((l[5]?.getD 0 : Nat) : Int))).setCell ⟨b, 6, none⟩ (.int .u8 ((l[6]?.getD 0 : Nat) : Int))).setCell ⟨b, 7, none⟩ (.int .u8 ((l[7]?.getD 0 : Nat) : Int))) := by
        have hs : ∀ (X : World) (j : Nat) (v : Value), Pure w X → Pure w (X.setCell ⟨b, j, none⟩ v) := fun X j v hX => hX.then (Mod.set1 b j v) (fun k hk e => by have := HB.out; omega)
        exact hs _ _ _ (hs _ _ _ (hs _ _ _ (hs _ _ _ (hs _ _ _ (hs _ _ _ (hs _ _ _ (hs _ _ _ HPU.out)))))))
      generalize ((((((((wr.setCell ⟨b, 0, none⟩ (.int .u8 ((l[0]?.getD 0 : Nat) : Int))).setCell ⟨b, 1, none⟩ (.int .u8 ((l[1]?.getD 0 : Nat) : Int))).setCell ⟨b, 2, none⟩ (.int .u8 ((l[2]?.getD 0 : Nat) : Int))).setCell ⟨b, 3, none⟩ (.int .u8 ((l[3]?.getD 0 : Nat) : Int))).setCell ⟨b, 4, none⟩ (.int .u8 ((l[4]?.getD 0 : Nat) : Int))).setCell ⟨b, 5, none⟩ (.int .u8 ((l[5]?.getD 0 : Nat) : Int))).setCell ⟨b, 6, none⟩ (.int .u8 ((l[6]?.getD 0 : Nat) : Int))).setCell ⟨b, 7, none⟩ (.int .u8 ((l[7]?.getD 0 : Nat) : Int))) = W9 at *
      simp at k8
      have q0 := cell_of_row W9 b 0 _ _ _ k8; have q1 := cell_of_row W9 b 1 _ _ _ k8; have q2 := cell_of_row W9 b 2 _ _ _ k8; have q3 := cell_of_row W9 b 3 _ _ _ k8
      have q4 := cell_of_row W9 b 4 _ _ _ k8; have q5 := cell_of_row W9 b 5 _ _ _ k8; have q6 := cell_of_row W9 b 6 _ _ _ k8; have q7 := cell_of_row W9 b 7 _ _ _ k8
      simp at q0 q1 q2 q3 q4 q5 q6 q7
      exact bodyPost_ret (v := .agg (arrU l 8)) (by simp [results, Try.results105, go_sem, q0, q1, q2, q3, q4, q5, q6, q7, arrU]) rfl ⟨rfl, hpw⟩

/-- A slice of a block from an offset on. -/
theorem ReadAt.of_block_at {w : World} {B : Nat} {cs : Array Value} {T : TypeId} {fr : Nat × Nat} (o n c : Nat) {xs : List Value} (hb : w.heap[B]? = some (.cells cs T fr)) (hl : xs.length = n) (hx : ∀ j, j < n → cs[o + j]? = xs[j]?) (h1 : ∀ u ∈ xs, u.oneCell' = true) :
    ReadAt w (.slice (some ⟨B, o, none⟩) n c) 1 xs :=
  ⟨some ⟨B, o, none⟩, n, c, rfl, by omega, h1, (fun h => by cases h), fun ad ha j u hu => by
    cases ha
    have hj : j < n := by rw [← hl]; exact (List.getElem?_eq_some_iff.1 hu).1
    have e : (⟨B, 0, none⟩ : Addr).add (o + j) = (⟨B, o, none⟩ : Addr).add j := by
      unfold Addr.add
      by_cases h0 : j = 0
      · subst h0
        by_cases h1 : o = 0
        · subst h1; rfl
        · simp [h1]
      · have : o + j ≠ 0 := by omega
        simp [h0, this]
    rw [← e]
    refine World.news_of_block hb (o + j) u ?_
    rw [Array.getElem?_toList, hx j hj, hu]⟩
/-- Two slices that are appended to, of different types. -/
theorem two_app {w X Y Z : World} {T1 T2 n1 n2 m1 m2 : Nat} {v1 v2 v1' v2' : Value} {xs1 xs2 ys1 ys2 : List Value} (hT : T1 ≠ T2) (hA : X.ownsRow 0 T1 1 v1 n1 xs1) (hB : X.ownsRow 0 T2 1 v2 n2 xs2)
    (hgA : X.grownBy Y v1.ownBlock) (hrA : Y.ownsRow 0 T1 1 v1' m1 ys1) (hbA : v1'.ownBlock = v1.ownBlock ∨ v1'.ownBlock = some X.heap.size)
    (hgB : Y.grownBy Z v2.ownBlock) (hrB : Z.ownsRow 0 T2 1 v2' m2 ys2) (hbB : v2'.ownBlock = v2.ownBlock ∨ v2'.ownBlock = some Y.heap.size)
    (hp : Pure w X) (f1 : ∀ g, v1.ownBlock = some g → w.heap.size ≤ g) (f2 : ∀ g, v2.ownBlock = some g → w.heap.size ≤ g) :
    Pure w Z ∧ Z.ownsRow 0 T1 1 v1' m1 ys1 ∧ (∀ g, v1'.ownBlock = some g → w.heap.size ≤ g) ∧ ∀ g, v2'.ownBlock = some g → w.heap.size ≤ g := by
  have mA : Mod (fun k => v1.ownBlock = some k) X Y := Mod.of_grown hgA (fun k e _ => e)
  have mB : Mod (fun k => v2.ownBlock = some k) Y Z := Mod.of_grown hgB (fun k e _ => e)
  have hBY : Y.ownsRow 0 T2 1 v2 n2 xs2 := owns_mod hB mA (fun g hg hs => by
    obtain ⟨c1, e1⟩ := owns_type hA hs
    obtain ⟨c2, e2⟩ := owns_type hB hg
    rw [e1] at e2; cases e2; exact hT rfl)
  refine ⟨(hp.then mA (fun k hk hs => by have := f1 k hs; omega)).then mB (fun k hk hs => by have := f2 k hs; omega), owns_mod hrA mB (fun g hg hs => ?_), fun g hg => ?_, fun g hg => ?_⟩
  · obtain ⟨c1, e1⟩ := owns_type hrA hg
    obtain ⟨c2, e2⟩ := owns_type hBY hs
    rw [e1] at e2; cases e2; exact hT rfl
  · rcases hbA with e | e
    · exact f1 g (e ▸ hg)
    · rw [e] at hg; cases hg; exact hp.size
  · rcases hbB with e | e
    · exact f2 g (e ▸ hg)
    · rw [e] at hg; cases hg; exact Nat.le_trans hp.size mA.size
/-! ### Layout -/
def laneC (Gs : List Grp) : List Nat := Gs.flatMap (·.1)
def laneS (Gs : List Grp) : List Nat := Gs.flatMap (fun c => c.2)
def u8s (l : List Nat) : List Value := l.map (fun (x : Nat) => Value.int .u8 ((x : Nat) : Int))
def u32v (l : List Nat) : List Value := l.map (fun (x : Nat) => Value.int .u32 ((x : Nat) : Int))
structure LayInv (w : World) (Gs : List Grp) (k : Nat) (v4 v5 : Value) (W : World) : Prop where
  pu : Pure w W
  c : W.ownsRow 0 5 1 v4 (8 * k) (u8s (laneC (Gs.take k)))
  s : W.ownsRow 0 43 1 v5 (8 * k) (u32v (laneS (Gs.take k)))
  fc : ∀ g, v4.ownBlock = some g → w.heap.size ≤ g
  fs : ∀ g, v5.ownBlock = some g → w.heap.size ≤ g
  sc : ∃ a c, v4 = .slice a (8 * k) c
  ss : ∃ a c, v5 = .slice a (8 * k) c
def layPost (w : World) (Gs : List Grp) (e : Ending) (w' : World) : Prop :=
  ∃ v4 v5, e = .returned (.tuple #[v4, v5]) ∧ LayInv w Gs Gs.length v4 v5 w'
theorem lane_step {Gs : List Grp} {i : Nat} {g : Grp} (hi : i < Gs.length) (hg : grpAt Gs i = g) : u8s (laneC (Gs.take (i + 1))) = u8s (laneC (Gs.take i)) ++ u8s g.1 := by
  unfold laneC u8s
  rw [List.take_add_one, grpAt_some hi, hg]
  simp
theorem laneS_step {Gs : List Grp} {i : Nat} {g : Grp} (hi : i < Gs.length) (hg : grpAt Gs i = g) : u32v (laneS (Gs.take (i + 1))) = u32v (laneS (Gs.take i)) ++ u32v g.2 := by
  unfold laneS u32v
  rw [List.take_add_one, grpAt_some hi, hg]
  simp
theorem info_u8 : (Try.prog.info? 5).map (fun i => (i.zero, i.size, i.bytes)) = some (some (.int .u8 0), 1, 1) := by kernel_rfl
theorem info_u32 : (Try.prog.info? 43).map (fun i => (i.zero, i.size, i.bytes)) = some (some (.int .u32 0), 1, 4) := by kernel_rfl
set_option maxHeartbeats 2000000 in
theorem Layout_ok {w : World} {D : Nat → Prop} {p : Nat} {sv : Value} {Gs : List Grp} (h : IxRow w D p sv Gs) : Calls Try.prog 52 #[.pointer (some ⟨p, 0, none⟩)] w (layPost w Gs) := by
  have hix := Lib.hid h
  obtain ⟨B, c, rfl, hc, hB, hDB, hBf, hcells⟩ := h.at
  have zp := h.box
  have hgl := h.ok.pow.le
  have HZ := Lib.hid (fun (hW : w.cell? ⟨p, 0, none⟩ = _) => izero_ok (w := w) (c := c) (a := some ⟨B, 0, none⟩) hW h.ok.pow.pos h.ok.pow.le)
  clear hcells h hBf
  have zp_0 := cell_of_row _ _ 0 _ _ _ zp; have zp_1 := cell_of_row _ _ 1 _ _ _ zp; have zp_2 := cell_of_row _ _ 2 _ _ _ zp; have zp_f := (fun j => frozen_of_row _ _ j _ _ zp); have zp_l := lt_of_block zp; simp at zp_0 zp_1 zp_2; have H_zp := Lib.hid zp; clear zp
  go_enter Try.func52, Try.ntmps52
  go_upto_region 6 with (go_at_call 79; refine Calls.mono (HZ.out zp_0) ?_; rintro e w' ⟨rfl, rfl⟩)
  have wg : IntKind.i64.wrap (Gs.length : Int) = Gs.length := IntWalk.i64_in _ (by omega)
  go_loopw [4, 5, 16] (fun v4 v5 k wr => ∃ i, k = .int .i64 (i : Nat) ∧ i ≤ Gs.length ∧ LayInv w Gs i v4 v5 wr) (fun _ _ k _ => Gs.length - (intOf k).toNat)
  case atStart => exact ⟨0, rfl, Nat.zero_le _, Mod.refl _ _, World.ownsRow_nil _ _ _ _, World.ownsRow_nil _ _ _ _, (fun g e => by cases e), (fun g e => by cases e), ⟨_, _, rfl⟩, ⟨_, _, rfl⟩⟩
  case round =>
    obtain ⟨i, rfl, hi, hinv⟩ := hrel
    clear zp_0 zp_1 zp_2 zp_f zp_l
    clear H_zp HZ
    obtain ⟨a4, c4, e4⟩ := hinv.sc
    obtain ⟨a5, c5, e5⟩ := hinv.ss
    subst e4 e5
    have HI := Lib.hid hinv
    by_cases hlt : i < Gs.length
    · have hlt' : (i : Int) < (Gs.length : Int) := by omega
      have hix2 := hix.out.pure hinv.pu
      obtain ⟨B3, c3, hsv3, _, hB3, hDB3, hBf3, hcells3⟩ := hix2.at
      cases hsv3
      obtain ⟨zg, zsl⟩ := hcells3 i hlt
      have z0 := zsl 0 (by omega); have z1 := zsl 1 (by omega); have z2 := zsl 2 (by omega); have z3 := zsl 3 (by omega); have z4 := zsl 4 (by omega); have z5 := zsl 5 (by omega); have z6 := zsl 6 (by omega); have z7 := zsl 7 (by omega)
      have HG := Lib.hid (hix2.ok.at hlt)
      clear hcells3 zsl hix2 hinv
      obtain ⟨g, hg⟩ : ∃ g, grpAt Gs i = g := ⟨_, rfl⟩
      rw [hg] at zg z0 z1 z2 z3 z4 z5 z6 z7 HG
      have HGG := Lib.hid hg
      clear hg
      go_upto_region 8 with fail
      have hp7 : Pure wr (wr.alloc (.cells #[.int .u64 (word8 g.1 : Nat), .int .u32 (g.2[0]?.getD 0 : Nat), .int .u32 (g.2[1]?.getD 0 : Nat), .int .u32 (g.2[2]?.getD 0 : Nat), .int .u32 (g.2[3]?.getD 0 : Nat), .int .u32 (g.2[4]?.getD 0 : Nat), .int .u32 (g.2[5]?.getD 0 : Nat), .int .u32 (g.2[6]?.getD 0 : Nat), .int .u32 (g.2[7]?.getD 0 : Nat)] 140)) := (Mod.refl _ wr).alloc _
      have h7 := heap_new (w := wr) (o := .cells #[.int .u64 (word8 g.1 : Nat), .int .u32 (g.2[0]?.getD 0 : Nat), .int .u32 (g.2[1]?.getD 0 : Nat), .int .u32 (g.2[2]?.getD 0 : Nat), .int .u32 (g.2[3]?.getD 0 : Nat), .int .u32 (g.2[4]?.getD 0 : Nat), .int .u32 (g.2[5]?.getD 0 : Nat), .int .u32 (g.2[6]?.getD 0 : Nat), .int .u32 (g.2[7]?.getD 0 : Nat)] 140 (0, 0)) rfl
      have HBY : Hid (∀ W, Calls Try.prog 105 #[.int .u64 (word8 g.1)] W fun e w' => e = .returned (.agg #[.int .u8 (g.1[0]?.getD 0 : Nat), .int .u8 (g.1[1]?.getD 0 : Nat), .int .u8 (g.1[2]?.getD 0 : Nat), .int .u8 (g.1[3]?.getD 0 : Nat), .int .u8 (g.1[4]?.getD 0 : Nat), .int .u8 (g.1[5]?.getD 0 : Nat), .int .u8 (g.1[6]?.getD 0 : Nat), .int .u8 (g.1[7]?.getD 0 : Nat)]) ∧ Pure W w') := fun W => Bytes_ok HG.out.ctl.bytes W
      have HP7 := Lib.hid hp7
      clear z0 z1 z2 z3 z4 z5 z6 z7 zg hp7 hBf3
      generalize wr.alloc (.cells #[.int .u64 (word8 g.1 : Nat), .int .u32 (g.2[0]?.getD 0 : Nat), .int .u32 (g.2[1]?.getD 0 : Nat), .int .u32 (g.2[2]?.getD 0 : Nat), .int .u32 (g.2[3]?.getD 0 : Nat), .int .u32 (g.2[4]?.getD 0 : Nat), .int .u32 (g.2[5]?.getD 0 : Nat), .int .u32 (g.2[6]?.getD 0 : Nat), .int .u32 (g.2[7]?.getD 0 : Nat)] 140) = W7 at *
      obtain ⟨b7, hb7⟩ : ∃ b7, wr.heap.size = b7 := ⟨_, rfl⟩
      rw [hb7] at h7 ⊢
      clear hb7
      have H7 := Lib.hid h7
      have h7_0 := cell_of_row _ _ 0 _ _ _ h7; have h7_1 := cell_of_row _ _ 1 _ _ _ h7; have h7_2 := cell_of_row _ _ 2 _ _ _ h7; have h7_3 := cell_of_row _ _ 3 _ _ _ h7; have h7_4 := cell_of_row _ _ 4 _ _ _ h7; have h7_5 := cell_of_row _ _ 5 _ _ _ h7; have h7_6 := cell_of_row _ _ 6 _ _ _ h7; have h7_7 := cell_of_row _ _ 7 _ _ _ h7; have h7_8 := cell_of_row _ _ 8 _ _ _ h7; have h7_f := (fun j => frozen_of_row _ _ j _ _ h7); have h7_l := lt_of_block h7; simp at h7_0 h7_1 h7_2 h7_3 h7_4 h7_5 h7_6 h7_7 h7_8; have H_h7 := Lib.hid h7; clear h7
      go_upto_region 9 with (go_at_call 105; refine Calls.mono (HBY.out _) ?_; rintro e w8 ⟨rfl, hp8⟩)
      have hp9 : Pure w8 (w8.alloc (.cells #[.int .u8 (g.1[0]?.getD 0 : Nat), .int .u8 (g.1[1]?.getD 0 : Nat), .int .u8 (g.1[2]?.getD 0 : Nat), .int .u8 (g.1[3]?.getD 0 : Nat), .int .u8 (g.1[4]?.getD 0 : Nat), .int .u8 (g.1[5]?.getD 0 : Nat), .int .u8 (g.1[6]?.getD 0 : Nat), .int .u8 (g.1[7]?.getD 0 : Nat)] 160)) := (Mod.refl _ w8).alloc _
      have h8 := heap_new (w := w8) (o := .cells #[.int .u8 (g.1[0]?.getD 0 : Nat), .int .u8 (g.1[1]?.getD 0 : Nat), .int .u8 (g.1[2]?.getD 0 : Nat), .int .u8 (g.1[3]?.getD 0 : Nat), .int .u8 (g.1[4]?.getD 0 : Nat), .int .u8 (g.1[5]?.getD 0 : Nat), .int .u8 (g.1[6]?.getD 0 : Nat), .int .u8 (g.1[7]?.getD 0 : Nat)] 160 (0, 0)) rfl
      have HP9 := Lib.hid (HP7.out.trans (hp8.trans hp9))
      have h79 := (hp8.trans hp9).heap (fun h => h) H_h7.out
      clear h7_0 h7_1 h7_2 h7_3 h7_4 h7_5 h7_6 h7_7 h7_8 h7_f h7_l
      clear H_h7 H7 hp8 hp9 HBY HP7
      generalize w8.alloc (.cells #[.int .u8 (g.1[0]?.getD 0 : Nat), .int .u8 (g.1[1]?.getD 0 : Nat), .int .u8 (g.1[2]?.getD 0 : Nat), .int .u8 (g.1[3]?.getD 0 : Nat), .int .u8 (g.1[4]?.getD 0 : Nat), .int .u8 (g.1[5]?.getD 0 : Nat), .int .u8 (g.1[6]?.getD 0 : Nat), .int .u8 (g.1[7]?.getD 0 : Nat)] 160) = W9 at *
      generalize w8.heap.size = b8 at *
      have hg2 := HG.out.len
      have hg1 := HG.out.ctl.1
      have el1 : (#[.int .u8 (g.1[0]?.getD 0 : Nat), .int .u8 (g.1[1]?.getD 0 : Nat), .int .u8 (g.1[2]?.getD 0 : Nat), .int .u8 (g.1[3]?.getD 0 : Nat), .int .u8 (g.1[4]?.getD 0 : Nat), .int .u8 (g.1[5]?.getD 0 : Nat), .int .u8 (g.1[6]?.getD 0 : Nat), .int .u8 (g.1[7]?.getD 0 : Nat)] : Array Value).toList = u8s g.1 := by
        obtain ⟨x0, x1, x2, x3, x4, x5, x6, x7, e⟩ := eight_of hg1
        rw [e]; rfl
      have el2 : ∀ j, j < 8 → (#[.int .u64 (word8 g.1 : Nat), .int .u32 (g.2[0]?.getD 0 : Nat), .int .u32 (g.2[1]?.getD 0 : Nat), .int .u32 (g.2[2]?.getD 0 : Nat), .int .u32 (g.2[3]?.getD 0 : Nat), .int .u32 (g.2[4]?.getD 0 : Nat), .int .u32 (g.2[5]?.getD 0 : Nat), .int .u32 (g.2[6]?.getD 0 : Nat), .int .u32 (g.2[7]?.getD 0 : Nat)] : Array Value)[1 + j]? = (u32v g.2)[j]? := by
        obtain ⟨x0, x1, x2, x3, x4, x5, x6, x7, e⟩ := eight_of hg2
        rw [e]
        intro j hj
        have : j = 0 ∨ j = 1 ∨ j = 2 ∨ j = 3 ∨ j = 4 ∨ j = 5 ∨ j = 6 ∨ j = 7 := by omega
        rcases this with rfl | rfl | rfl | rfl | rfl | rfl | rfl | rfl <;> rfl
      have one1 : ∀ u ∈ u8s g.1, u.oneCell' = true := fun u hu => by obtain ⟨x, _, rfl⟩ := List.mem_map.1 hu; rfl
      have one2 : ∀ u ∈ u32v g.2, u.oneCell' = true := fun u hu => by obtain ⟨x, _, rfl⟩ := List.mem_map.1 hu; rfl
      have l1 : (u8s g.1).length = 8 * 1 := by unfold u8s; rw [List.length_map, hg1]
      have l2 : (u32v g.2).length = 8 * 1 := by unfold u32v; rw [List.length_map, hg2]
      have rd1 : ReadAt W9 (.slice (some ⟨b8, 0, none⟩) 8 8) 1 (u8s g.1) := by
        have := ReadAt.of_block 8 8 1 h8 (by rw [el1, l1]) (by rw [el1]; exact one1)
        rwa [el1] at this
      have rd2 : ReadAt W9 (.slice (some ⟨b7, 1, none⟩) 8 8) 1 (u32v g.2) := ReadAt.of_block_at 1 8 8 h79 (by omega) el2 one2
      have oc := owns_mod HI.out.c HP9.out (fun _ _ h => h)
      have os := owns_mod HI.out.s HP9.out (fun _ _ h => h)
      have h80 := h8
      have HRD1 := Lib.hid rd1; have HRD2 := Lib.hid rd2; have HOC := Lib.hid oc; have HOS := Lib.hid os; have H79 := Lib.hid h79; have L1 := Lib.hid l1; have L2 := Lib.hid l2
      clear rd1 rd2 oc os el1 el2 one1 one2 h80 l1 l2
      have h8_0 := cell_of_row _ _ 0 _ _ _ h8; have h8_1 := cell_of_row _ _ 1 _ _ _ h8; have h8_2 := cell_of_row _ _ 2 _ _ _ h8; have h8_3 := cell_of_row _ _ 3 _ _ _ h8; have h8_4 := cell_of_row _ _ 4 _ _ _ h8; have h8_5 := cell_of_row _ _ 5 _ _ _ h8; have h8_6 := cell_of_row _ _ 6 _ _ _ h8; have h8_7 := cell_of_row _ _ 7 _ _ _ h8; have h8_f := (fun j => frozen_of_row _ _ j _ _ h8); have h8_l := lt_of_block h8; simp at h8_0 h8_1 h8_2 h8_3 h8_4 h8_5 h8_6 h8_7; have H_h8 := Lib.hid h8; clear h8
      have h79_0 := cell_of_row _ _ 0 _ _ _ h79; have h79_1 := cell_of_row _ _ 1 _ _ _ h79; have h79_2 := cell_of_row _ _ 2 _ _ _ h79; have h79_3 := cell_of_row _ _ 3 _ _ _ h79; have h79_4 := cell_of_row _ _ 4 _ _ _ h79; have h79_5 := cell_of_row _ _ 5 _ _ _ h79; have h79_6 := cell_of_row _ _ 6 _ _ _ h79; have h79_7 := cell_of_row _ _ 7 _ _ _ h79; have h79_8 := cell_of_row _ _ 8 _ _ _ h79; have h79_f := (fun j => frozen_of_row _ _ j _ _ h79); have h79_l := lt_of_block h79; simp at h79_0 h79_1 h79_2 h79_3 h79_4 h79_5 h79_6 h79_7 h79_8; have H_h79 := Lib.hid h79; clear h79
      clear hg1 hg2
      obtain ⟨iA, hiA, iA0, iA1, iA2⟩ := info_parts info_u8
      obtain ⟨iB, hiB, iB0, iB1, iB2⟩ := info_parts info_u32
      have FR := Lib.hid (fun (Y : World) (hg : W9.drew.grownBy Y (Value.slice a4 (8 * i) c4).ownBlock) => (show Y.ownsRow 0 43 1 (.slice a5 (8 * i) c5) (8 * i) (u32v (laneS (Gs.take i))) ∧ ReadAt Y (.slice (some ⟨b7, 1, none⟩) 8 8) 1 (u32v g.2) from by
        have mA : Mod (fun k => (Value.slice a4 (8 * i) c4).ownBlock = some k) W9 Y := Mod.of_drew (Mod.of_grown hg (fun k e _ => e))
        refine ⟨owns_mod HOS.out mA (fun g hg hs => ?_), HRD2.out.frame mA (fun g hg hs => ?_)⟩
        · obtain ⟨c1, e1⟩ := owns_type HOC.out hs
          obtain ⟨c2, e2⟩ := owns_type HOS.out hg
          rw [e1] at e2; cases e2
        · obtain ⟨c1, e1⟩ := owns_type HOC.out hs
          have : b7 = g := by simpa [rdBlock] using hg
          subst this
          rw [H79.out] at e1; cases e1))
      go_region_law ((first
        | (refine step_append_read _ (by rfl) _ _ 44 (by rfl) 5 iA _ 1 1 Try.underlying44 hiA iA0 iA1 iA2 rfl (by decide) (.slice a4 (8 * i) c4) (8 * i) _ (by rfl) HOC.out (.slice (some ⟨b8, 0, none⟩) 8 8) (u8s g.1) 8 (by rfl) HRD1.out L1.out (by unfold maxLen; omega) (by omega) ?_; intro a7 c7 w7 hrA hgA hbA)
        | (refine step_append_read _ (by rfl) _ _ 24 (by rfl) 43 iB _ 1 4 Try.underlying24 hiB iB0 iB1 iB2 rfl (by decide) (.slice a5 (8 * i) c5) (8 * i) _ (by rfl) (FR.out _ hgA).1 (.slice (some ⟨b7, 1, none⟩) 8 8) (u32v g.2) 8 (by rfl) (FR.out _ hgA).2 L2.out (by unfold maxLen; omega) (by omega) ?_; intro a9 c9 w9 hrB hgB hbB)))
      all_goals
        obtain ⟨t1, t2, t3, t4⟩ := two_app (X := W9.drew) (by decide) HOC.out HOS.out hgA hrA hbA hgB hrB hbB (HI.out.pu.trans HP9.out).drew HI.out.fc HI.out.fs
        have HE : Hid (LayInv w Gs (i + 1) (.slice a7 (8 * i + 8) c7) (.slice a9 (8 * i + 8) c9) w9) := ⟨t1, by rw [lane_step hlt HGG.out]; exact t2, by rw [laneS_step hlt HGG.out]; exact hrB, t3, t4, ⟨_, _, rfl⟩, ⟨_, _, rfl⟩⟩
        clear t1 t2 t3 t4 hrA hgA hbA hrB hgB hbB
        go_wp2
        go_roundw
        case rel => exact ⟨i + 1, by go_num, by omega, HE.out⟩
        case measure => simp [intOf]; omega
    · have hlt' : (Gs.length : Int) ≤ (i : Int) := by omega
      have e : Gs.length = i := by omega
      clear hinv
      go_wp2
      exact bodyPost_ret (v := .tuple #[.slice a4 (8 * i) c4, .slice a5 (8 * i) c5]) (by simp [results, Try.results52, go_sem]) rfl ⟨_, _, rfl, by rw [e]; exact HI.out⟩
end Go.Proofs.Ytbjiebhbmpafpaa
