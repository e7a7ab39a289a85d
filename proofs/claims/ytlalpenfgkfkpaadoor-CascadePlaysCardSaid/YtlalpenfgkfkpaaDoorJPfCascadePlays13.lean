/- Lemmas and contracts of functions, strung together out of 2 texts. No condition. -/
import Derived.Test.YtlalpenfgkfkpaaDoorJPfCascadePlays12
/- law20.step: Schedule. Conditions: the cascade lies in memory, the reference's list is read. -/
namespace Go.Proofs.YtlalpenfgkfkpaaDoor
open Go.RowKit Go.Shelf
set_option maxRecDepth 100000
structure Act20 where
  what : Int
  slot : Nat
  birth : Nat
  time : Nat
def actV (t : Act20) : Value := .agg #[.int .i64 t.what, .int .u32 t.slot, .int .u64 t.birth, .int .u64 t.time]
structure ActOk (t : Act20) : Prop where
  s : t.slot ≤ 4294967295
  b : t.birth ≤ 18446744073709551615
  t : t.time ≤ 18446744073709551615
section
variable {w0 w w5 w6 : World} {D D' : Nat → Prop} {p p' now now' n c n' c' b2 : Nat} {a a' : Option Addr} {L L' : List Td} {t : Act20}
/-- The cascade and the reference's list. -/
structure StI (w0 w : World) (p now : Nat) (a : Option Addr) (n c : Nat) (D : Nat → Prop) (L : List Td) : Prop where
  ks : KnS w0 w D p now L
  rd : RdL w a n c L
  off : ∀ g, rdBlock (.slice a n c) = some g → ¬ D g
theorem StI.pure (h : StI w0 w p now a n c D L) (hp : Pure w w5) : StI w0 w5 p now a n c D L := ⟨h.ks.pure hp, h.rd.pure hp, h.off⟩
def StP (w0 w : World) (a : Option Addr) (n c : Nat) (D : Nat → Prop) (e : Ending) (w' : World) : Prop :=
  ∃ p' now' a' n' c' D' L', e = .returned (.tuple #[lkP p', whV now' a' n' c', .bool true]) ∧ StI w0 w' p' now' a' n' c' D' L' ∧ grewD D D' w ∧ Kept w a n c a' n' c' ∧ Mod D w w'
theorem StI.fin (h : StI w0 w p now a n c D L) (hp : Pure w w5) (hr : RdL w5 a' n' c' L') (hk : Kept w a n c a' n' c') (hks : KnS w0 w6 D' p' now' L') (hg : grewD D D' w5) (hm : Mod D w5 w6) (hb : w.heap.size ≤ b2) (hb5 : b2 < w5.heap.size) (hrb : ∀ g, rdBlock (.slice a' n' c') = some g → g ≠ b2) (v0 v1 : Value) :
    StI w0 ((w6.setCell ⟨b2, 0, none⟩ v0).setCell ⟨b2, 1, none⟩ v1) p' now' a' n' c' D' L' ∧ grewD D D' w ∧ Mod D w ((w6.setCell ⟨b2, 0, none⟩ v0).setCell ⟨b2, 1, none⟩ v1) := by
  have hsz := hp.size
  have hDlt : ∀ k, D k → k < w.heap.size := fun k hk => h.ks.lt hk
  have key : ∀ g, rdBlock (.slice a' n' c') = some g → ¬ D g ∧ g < w5.heap.size := fun g hg' => by
    have hlt := hr.lt hg'
    rcases hk.rd hg' with e | e
    · exact ⟨h.off g e, hlt⟩
    · exact ⟨fun hd => by have := hDlt g hd; omega, hlt⟩
  have nb' : ¬ D' b2 := fun hd => by
    rcases hg b2 hd with e | e
    · have := hDlt _ e; omega
    · omega
  have hms := Mod.set2 (w := w6) b2 0 1 v0 v1
  have hpu := h.ks.pu.size
  have hw0 := h.ks.pu
  have h00 : 0 < w.heap.size := h.ks.t.tab.lt
  refine ⟨⟨⟨hks.t.frame hms (fun k hk e => by subst e; exact nb' hk) (fun e => by omega), hks.ge, hks.pu.then hms (fun k hk e => by omega)⟩, (hr.frame hm (fun g hg' => (key g hg').1)).frame hms (fun g hg' => hrb g hg'), fun g hg' hd => ?_⟩, fun k hd => ?_, ((Mod.of_pure hp).trans hm).then hms (fun k hk e => by omega)⟩
  · rcases hg g hd with e | e
    · exact (key g hg').1 e
    · have := (key g hg').2; omega
  · rcases hg k hd with e | e
    · exact .inl e
    · exact .inr (Nat.le_trans hsz e)
/-- Three boxes: a wheel, an act, a wheel's result. -/
def boxA (w : World) (now : Nat) (a : Option Addr) (n c : Nat) (t : Act20) : World := ((w.alloc (.cells #[.int .u64 now, .slice a n c] 45)).alloc (.cells #[.int .i64 t.what, .int .u32 t.slot, .int .u64 t.birth, .int .u64 t.time] 68)).alloc (.cells #[.int .u64 0, .slice none 0 0] 45)
structure BoxA (w W : World) (b0 b1 b2 : Nat) (now : Nat) (a : Option Addr) (n c : Nat) (t : Act20) : Prop where
  pure : Pure w W
  z0 : w.heap.size ≤ b0
  z1 : w.heap.size ≤ b1
  z2 : w.heap.size ≤ b2
  h0 : W.heap[b0]? = some (.cells #[.int .u64 now, .slice a n c] 45 (0, 0))
  h1 : W.heap[b1]? = some (.cells #[.int .i64 t.what, .int .u32 t.slot, .int .u64 t.birth, .int .u64 t.time] 68 (0, 0))
  h2 : W.heap[b2]? = some (.cells #[.int .u64 0, .slice none 0 0] 45 (0, 0))
  ne12 : b1 ≠ b2
  ne02 : b0 ≠ b2
theorem boxA_ok : ∃ W b0 b1 b2, boxA w now a n c t = W ∧ w.heap.size = b0 ∧ w.heap.size + 1 = b1 ∧ w.heap.size + 1 + 1 = b2 ∧ BoxA w W b0 b1 b2 now a n c t := by
  refine ⟨_, _, _, _, rfl, rfl, rfl, rfl, ?_⟩
  have p1 := (Mod.refl (fun _ => False) w).alloc (.cells #[.int .u64 now, .slice a n c] 45)
  have p2 := (Mod.refl (fun _ => False) (w.alloc (.cells #[.int .u64 now, .slice a n c] 45))).alloc (.cells #[.int .i64 t.what, .int .u32 t.slot, .int .u64 t.birth, .int .u64 t.time] 68)
  have p3 := (Mod.refl (fun _ => False) ((w.alloc (.cells #[.int .u64 now, .slice a n c] 45)).alloc (.cells #[.int .i64 t.what, .int .u32 t.slot, .int .u64 t.birth, .int .u64 t.time] 68))).alloc (.cells #[.int .u64 0, .slice none 0 0] 45)
  refine ⟨(p1.trans p2).trans p3, Nat.le_refl _, by omega, by omega, ?_, ?_, ?_, by omega, by omega⟩
  · exact (p2.trans p3).heap (fun h => h) (heap_new rfl)
  · exact p3.heap (fun h => h) (heap_new (by simp))
  · exact heap_new (by simp)
theorem BoxA.cells {W u : World} {b0 b1 b2 : Nat} (h : BoxA w W b0 b1 b2 now a n c t) (hp : Pure W u) : u.cell? ⟨b0, 0, none⟩ = some (.int .u64 now) ∧ u.cell? ⟨b0, 1, none⟩ = some (.slice a n c) ∧ u.cell? ⟨b1, 0, none⟩ = some (.int .i64 t.what) ∧ u.cell? ⟨b1, 1, none⟩ = some (.int .u32 t.slot) ∧ u.cell? ⟨b1, 2, none⟩ = some (.int .u64 t.birth) ∧ u.cell? ⟨b1, 3, none⟩ = some (.int .u64 t.time) := by
  obtain ⟨x0, x1⟩ := whbox (hp.heap (fun h => h) h.h0)
  have h1 := hp.heap (fun h => h) h.h1
  exact ⟨x0, x1, by rw [cell_of_row _ _ 0 _ _ _ h1]; rfl, by rw [cell_of_row _ _ 1 _ _ _ h1]; rfl, by rw [cell_of_row _ _ 2 _ _ _ h1]; rfl, by rw [cell_of_row _ _ 3 _ _ _ h1]; rfl⟩
set_option maxHeartbeats 2000000 in
theorem step_sched (h : StI w0 w p now a n c D L) (ht : ActOk t) (h0 : t.what = 0) :
    Calls Tryd.prog 30 #[lkP p, whV now a n c, actV t] w (StP w0 w a n c D) := by
  unfold whV actV
  obtain ⟨W1, b0, b1, b2, hW, e0, e1, e2, hB⟩ := boxA_ok (w := w) (now := now) (a := a) (n := n) (c := c) (t := t)
  unfold boxA at hW
  have hx := hB.cells (Mod.refl _ W1)
  have hw : (t.what == 0) = true := by rw [h0]; rfl
  have htm := timed_ok t.slot t.time t.birth
  have hs1 := h.pure hB.pure
  have hlL := h.ks.t.at_.count
  rw [h.rd.len] at hlL
  have hrs := fun (W : World) (hp : Pure W1 W) => rsched_ok (now := now) (x := ⟨t.slot, t.time, t.birth⟩) (hs1.pure hp).rd hlL ht.s ht.t ht.b
  have hsc := fun (W : World) (hp : Pure W1 W) => (hs1.pure hp).ks.schedM2 (x := ⟨t.slot, t.time, t.birth⟩) ht.s ht.t ht.b
  obtain ⟨r, hr⟩ : ∃ r, schR now L ⟨t.slot, t.time, t.birth⟩ = r := ⟨_, rfl⟩
  obtain ⟨Ln, hLn⟩ : ∃ Ln, schL now L ⟨t.slot, t.time, t.birth⟩ = Ln := ⟨_, rfl⟩
  rw [hr, hLn] at hrs hsc
  unfold tdV at htm hrs hsc
  unfold whV at hrs
  dsimp only at htm hrs hsc
  have HB := Lib.hid hB; have HW := Lib.hid hW; have E0 := Lib.hid e0; have E1 := Lib.hid e1; have E2 := Lib.hid e2; have HTm := Lib.hid htm; have HRs := Lib.hid hrs; have HSc := Lib.hid hsc; have H1 := Lib.hid hs1; have HH := Lib.hid h
  have HK := Lib.hid (fun (u : World) (hp : Pure W1 u) => hB.cells hp)
  clear hB hW e0 e1 e2 htm hrs hsc hs1 h hr hLn hlL ht h0
  go_enter Tryd.func30, Tryd.ntmps30
  go_upto_region 1 with fail
  rw [HW.out, E2.out, E1.out, E0.out]
  clear HW E0 E1 E2
  obtain ⟨x0, x1, y0, y1, y2, y3⟩ := hx
  go_upto_region 3 with fail
  have HX := Lib.hid (HK.out W1 (Mod.refl _ _))
  go_cut [9, 10] (fun v9 v10 wx => ∃ (b9 : Nat) (a4 : Option Addr) (n4 c4 : Nat), v9 = .pointer (some ⟨b9, 0, none⟩) ∧ v10 = .int .i64 r ∧ Pure W1 wx ∧ W1.heap.size ≤ b9 ∧ wx.heap[b9]? = some (.cells #[.int .u64 now, .slice a4 n4 c4] 45 (0, 0)) ∧ RdL wx a4 n4 c4 Ln ∧ Kept W1 a n c a4 n4 c4)
  case first =>
    refine wp_region_held_drew (S := fun u => u.cell? ⟨b0, 0, none⟩ = some (.int .u64 now) ∧ u.cell? ⟨b0, 1, none⟩ = some (.slice a n c) ∧ u.cell? ⟨b1, 0, none⟩ = some (.int .i64 t.what) ∧ u.cell? ⟨b1, 1, none⟩ = some (.int .u32 t.slot) ∧ u.cell? ⟨b1, 2, none⟩ = some (.int .u64 t.birth) ∧ u.cell? ⟨b1, 3, none⟩ = some (.int .u64 t.time)) (by kernel_rfl) HX.out (fun hHeld => ?_)
    ((refine wpAnyH_take (i := 0) (v := ?_) rfl (by kernel_rfl) (by kernel_rfl) (by kernel_rfl) (fun _ _ _ h => h) (Or.inl ⟨by rfl, ?_⟩) hHeld ?_; rotate_left 1; focus (intro w hS; obtain ⟨s0, s1, s2, s3, s4, s5⟩ := hS; go_simp; try with_reducible rfl)); try simp only [Act.put, List.getElem_toArray, List.getElem_cons_zero, List.getElem_cons_succ, List.setIfInBounds_toArray, List.set_cons_zero, List.set_cons_succ])
    ((refine wpAnyH_take (i := 1) (v := ?_) rfl (by kernel_rfl) (by kernel_rfl) (by kernel_rfl) (fun _ _ _ h => h) (Yields.yieldsIf (Or.inl ⟨by rfl, ?_⟩)) hHeld ?_; rotate_left 1; focus (intro w; go_simp; try with_reducible rfl)); try simp only [Act.put, List.getElem_toArray, List.getElem_cons_zero, List.getElem_cons_succ, List.setIfInBounds_toArray, List.set_cons_zero, List.set_cons_succ])
    ((refine wpAnyH_take (i := 2) (v := ?_) rfl (by kernel_rfl) (by kernel_rfl) (by kernel_rfl) (fun _ _ _ h => h) (Or.inl ⟨by rfl, ?_⟩) hHeld ?_; rotate_left 1; focus (intro w hS; obtain ⟨s0, s1, s2, s3, s4, s5⟩ := hS; go_simp; try with_reducible rfl)); try simp only [Act.put, List.getElem_toArray, List.getElem_cons_zero, List.getElem_cons_succ, List.setIfInBounds_toArray, List.set_cons_zero, List.set_cons_succ])
    ((refine wpAnyH_take (i := 3) (v := ?_) rfl (by kernel_rfl) (by kernel_rfl) (by kernel_rfl) (fun _ _ _ h => h) (Yields.yieldsIf (Or.inl ⟨by rfl, ?_⟩)) hHeld ?_; rotate_left 1; focus (intro w; go_simp; try with_reducible rfl)); try simp only [Act.put, List.getElem_toArray, List.getElem_cons_zero, List.getElem_cons_succ, List.setIfInBounds_toArray, List.set_cons_zero, List.set_cons_succ])
    ((refine wpAnyH_take (i := 4) (v := ?_) rfl (by kernel_rfl) (by kernel_rfl) (by kernel_rfl) (fun _ _ _ h => h) (Or.inl ⟨by rfl, ?_⟩) hHeld ?_; rotate_left 1; focus (intro w hS; obtain ⟨s0, s1, s2, s3, s4, s5⟩ := hS; go_simp; try with_reducible rfl)); try simp only [Act.put, List.getElem_toArray, List.getElem_cons_zero, List.getElem_cons_succ, List.setIfInBounds_toArray, List.set_cons_zero, List.set_cons_succ])
    ((refine wpAnyH_take (i := 5) (v := ?_) rfl (by kernel_rfl) (by kernel_rfl) (by kernel_rfl) (fun _ _ _ h => h) (Yields.yieldsIf (Or.inl ⟨by rfl, ?_⟩)) hHeld ?_; rotate_left 1; focus (intro w; go_simp; try with_reducible rfl)); try simp only [Act.put, List.getElem_toArray, List.getElem_cons_zero, List.getElem_cons_succ, List.setIfInBounds_toArray, List.set_cons_zero, List.set_cons_succ])
    ((refine wpAnyH_take (i := 6) (v := ?_) rfl (by kernel_rfl) (by kernel_rfl) (by kernel_rfl) (fun _ _ _ h => h) (Or.inl ⟨by rfl, ?_⟩) hHeld ?_; rotate_left 1; focus (intro w hS; obtain ⟨s0, s1, s2, s3, s4, s5⟩ := hS; go_simp; try with_reducible rfl)); try simp only [Act.put, List.getElem_toArray, List.getElem_cons_zero, List.getElem_cons_succ, List.setIfInBounds_toArray, List.set_cons_zero, List.set_cons_succ])
    have hdr : Pure W1 W1.drew := (Mod.refl _ _).drew
    clear x0 x1 y0 y1 y2 y3
    refine wpAnyH_ready (rs := [7, 12]) (by kernel_rfl) (by simp) ?_
    refine AllReadyH.cons rfl (fun K hK => ?_) (AllReadyH.cons rfl (fun K hK => ?_) AllReadyH.nil)
    · go_simp
      refine Calls.mono (HTm.out _) ?_
      rintro e u1 ⟨rfl, hq1⟩
      have r1 : Pure W1 u1 := hdr.trans hq1
      refine hK.out _ _ (HK.out _ r1) (fun hHeld => ?_)
      clear hK K
      (try simp only [Act.put, List.getElem_toArray, List.getElem_cons_zero, List.getElem_cons_succ, List.setIfInBounds_toArray, List.set_cons_zero, List.set_cons_succ])
      refine wpAnyH_ready (rs := [8, 12]) (by kernel_rfl) (by simp) ?_
      refine AllReadyH.cons rfl (fun K hK => ?_) (AllReadyH.cons rfl (fun K hK => ?_) AllReadyH.nil)
      · go_simp
        refine Calls.mono (HRs.out _ r1) ?_
        rintro e u2 ⟨a4, n4, c4, rfl, hr4, hk4, hq2⟩
        have r2 : Pure W1 u2 := r1.trans hq2
        refine hK.out _ _ (HK.out _ r2) (fun hHeld => ?_)
        clear hK K
        (try simp only [Act.put, List.getElem_toArray, List.getElem_cons_zero, List.getElem_cons_succ, List.setIfInBounds_toArray, List.set_cons_zero, List.set_cons_succ])
        ((refine wpAnyH_take (i := 9) (v := ?_) rfl (by kernel_rfl) (by kernel_rfl) (by kernel_rfl) (fun _ _ _ h => h) (Yields.yieldsIf (Or.inl ⟨by rfl, ?_⟩)) hHeld ?_; rotate_left 1; focus (intro w; go_simp; try with_reducible rfl)); try simp only [Act.put, List.getElem_toArray, List.getElem_cons_zero, List.getElem_cons_succ, List.setIfInBounds_toArray, List.set_cons_zero, List.set_cons_succ])
        ((refine wpAnyH_take (i := 10) (v := ?_) rfl (by kernel_rfl) (by kernel_rfl) (by kernel_rfl) (fun _ _ _ h => h) (Yields.yieldsIf (Or.inl ⟨by rfl, ?_⟩)) hHeld ?_; rotate_left 1; focus (intro w; go_simp; try with_reducible rfl)); try simp only [Act.put, List.getElem_toArray, List.getElem_cons_zero, List.getElem_cons_succ, List.setIfInBounds_toArray, List.set_cons_zero, List.set_cons_succ])
        ((refine wpAnyH_take (i := 11) (v := ?_) rfl (by kernel_rfl) (by kernel_rfl) (by kernel_rfl) (fun _ _ _ h => h) (Yields.yieldsIf (Or.inl ⟨by rfl, ?_⟩)) hHeld ?_; rotate_left 1; focus (intro w; go_simp; try with_reducible rfl)); try simp only [Act.put, List.getElem_toArray, List.getElem_cons_zero, List.getElem_cons_succ, List.setIfInBounds_toArray, List.set_cons_zero, List.set_cons_succ])
        refine wpAnyH_ready (rs := [12]) (by kernel_rfl) (by simp) ?_
        refine AllReadyH.cons rfl (fun K hK => ?_) AllReadyH.nil
        go_simp
        have r3 := r2.alloc (.cells #[.int .u64 0, .slice none 0 0] 45)
        have hz := heap_new (w := u2) (o := .cells #[.int .u64 0, .slice none 0 0] 45 (0, 0)) rfl
        refine hK.out _ _ (HK.out _ r3) (fun hHeld => ?_)
        clear hK K
        (try simp only [Act.put, List.getElem_toArray, List.getElem_cons_zero, List.getElem_cons_succ, List.setIfInBounds_toArray, List.set_cons_zero, List.set_cons_succ])
        obtain ⟨b9, hb9⟩ : ∃ b, u2.heap.size = b := ⟨_, rfl⟩
        rw [hb9] at hz ⊢
        have hb9w : W1.heap.size ≤ b9 := by have := hdr.size; have := r2.size; omega
        have hne : ∀ g, rdBlock (.slice a4 n4 c4) = some g → g ≠ b9 := fun g hg => by have := hr4.lt hg; omega
        have hrl := hr4.pure ((Mod.refl _ u2).alloc (.cells #[.int .u64 now, .slice a4 n4 c4] 45))
        have hz_0 := cell_of_row _ _ 0 _ _ _ hz; have hz_1 := cell_of_row _ _ 1 _ _ _ hz; have hz_f := (fun j => frozen_of_row _ _ j _ _ hz); have hz_l := lt_of_block hz; simp at hz_0 hz_1; have H_hz := Lib.hid hz; clear hz
        have rS := r2.alloc (.cells #[.int .u64 now, .slice a4 n4 c4] 45)
        have hnw : (u2.alloc (.cells #[.int .u64 now, .slice a4 n4 c4] 45)).heap[b9]? = some (.cells #[.int .u64 now, .slice a4 n4 c4] 45 (0, 0)) := heap_new hb9.symm
        ((refine wpAnyH_ready (rs := [13]) (by kernel_rfl) (by simp) ?_; refine AllReadyH.cons rfl (fun K hK => ?_) AllReadyH.nil; go_simp; skip; refine hK.out _ _ ?_ (fun hHeld => ?_); (· exact HK.out _ rS); clear hK K); try simp only [Act.put, List.getElem_toArray, List.getElem_cons_zero, List.getElem_cons_succ, List.setIfInBounds_toArray, List.set_cons_zero, List.set_cons_succ])
        ((refine wpAnyH_take (i := 14) (v := ?_) rfl (by kernel_rfl) (by kernel_rfl) (by kernel_rfl) (fun _ _ _ h => h) (Yields.yieldsIf (Or.inl ⟨by rfl, ?_⟩)) hHeld ?_; rotate_left 1; focus (intro w; go_simp; try with_reducible rfl)); try simp only [Act.put, List.getElem_toArray, List.getElem_cons_zero, List.getElem_cons_succ, List.setIfInBounds_toArray, List.set_cons_zero, List.set_cons_succ])
        refine wpAnyH_done (by kernel_rfl) ?_ _
        (try go_wp2)
        go_meet
        exact ⟨b9, a4, n4, c4, rfl, rfl, rS, hb9w, hnw, hrl, hk4.mono r1.size⟩
      · go_simp
        have r3 := r1.alloc (.cells #[.int .u64 0, .slice none 0 0] 45)
        have hz := heap_new (w := u1) (o := .cells #[.int .u64 0, .slice none 0 0] 45 (0, 0)) rfl
        refine hK.out _ _ (HK.out _ r3) (fun hHeld => ?_)
        clear hK K
        (try simp only [Act.put, List.getElem_toArray, List.getElem_cons_zero, List.getElem_cons_succ, List.setIfInBounds_toArray, List.set_cons_zero, List.set_cons_succ])
        refine wpAnyH_ready (rs := [8]) (by kernel_rfl) (by simp) ?_
        refine AllReadyH.cons rfl (fun K hK => ?_) AllReadyH.nil
        go_simp
        refine Calls.mono (HRs.out _ r3) ?_
        rintro e u2 ⟨a4, n4, c4, rfl, hr4, hk4, hq2⟩
        have r2 : Pure W1 u2 := r3.trans hq2
        refine hK.out _ _ (HK.out _ r2) (fun hHeld => ?_)
        clear hK K
        (try simp only [Act.put, List.getElem_toArray, List.getElem_cons_zero, List.getElem_cons_succ, List.setIfInBounds_toArray, List.set_cons_zero, List.set_cons_succ])
        have lz := lt_of_block hz
        have hsz9 := r1.size
        have hz := hq2.heap (fun h => h) hz
        obtain ⟨b9, hb9⟩ : ∃ b, u1.heap.size = b := ⟨_, rfl⟩
        rw [hb9] at hz ⊢
        have hb9w : W1.heap.size ≤ b9 := by have := hdr.size; have := r1.size; omega
        have hne : ∀ g, rdBlock (.slice a4 n4 c4) = some g → g ≠ b9 := fun g hg => by rcases hk4.rd hg with e | e; (· have := HH.out.rd.lt e; have := HB.out.pure.size; have := hsz9; omega); (· have := lz; omega)
        have hrl := hr4
        have hz_0 := cell_of_row _ _ 0 _ _ _ hz; have hz_1 := cell_of_row _ _ 1 _ _ _ hz; have hz_f := (fun j => frozen_of_row _ _ j _ _ hz); have hz_l := lt_of_block hz; simp at hz_0 hz_1; have H_hz := Lib.hid hz; clear hz
        ((refine wpAnyH_take (i := 9) (v := ?_) rfl (by kernel_rfl) (by kernel_rfl) (by kernel_rfl) (fun _ _ _ h => h) (Yields.yieldsIf (Or.inl ⟨by rfl, ?_⟩)) hHeld ?_; rotate_left 1; focus (intro w; go_simp; try with_reducible rfl)); try simp only [Act.put, List.getElem_toArray, List.getElem_cons_zero, List.getElem_cons_succ, List.setIfInBounds_toArray, List.set_cons_zero, List.set_cons_succ])
        ((refine wpAnyH_take (i := 10) (v := ?_) rfl (by kernel_rfl) (by kernel_rfl) (by kernel_rfl) (fun _ _ _ h => h) (Yields.yieldsIf (Or.inl ⟨by rfl, ?_⟩)) hHeld ?_; rotate_left 1; focus (intro w; go_simp; try with_reducible rfl)); try simp only [Act.put, List.getElem_toArray, List.getElem_cons_zero, List.getElem_cons_succ, List.setIfInBounds_toArray, List.set_cons_zero, List.set_cons_succ])
        ((refine wpAnyH_take (i := 11) (v := ?_) rfl (by kernel_rfl) (by kernel_rfl) (by kernel_rfl) (fun _ _ _ h => h) (Yields.yieldsIf (Or.inl ⟨by rfl, ?_⟩)) hHeld ?_; rotate_left 1; focus (intro w; go_simp; try with_reducible rfl)); try simp only [Act.put, List.getElem_toArray, List.getElem_cons_zero, List.getElem_cons_succ, List.setIfInBounds_toArray, List.set_cons_zero, List.set_cons_succ])
        have hms := Mod.set2 (w := u2) b9 0 1 (.int .u64 now) (.slice a4 n4 c4)
        have rS := r2.then hms (fun k hk e => by omega)
        ((refine wpAnyH_ready (rs := [13]) (by kernel_rfl) (by simp) ?_; refine AllReadyH.cons rfl (fun K hK => ?_) AllReadyH.nil; go_simp; skip; refine hK.out _ _ ?_ (fun hHeld => ?_); (· exact HK.out _ rS); clear hK K); try simp only [Act.put, List.getElem_toArray, List.getElem_cons_zero, List.getElem_cons_succ, List.setIfInBounds_toArray, List.set_cons_zero, List.set_cons_succ])
        ((refine wpAnyH_take (i := 14) (v := ?_) rfl (by kernel_rfl) (by kernel_rfl) (by kernel_rfl) (fun _ _ _ h => h) (Yields.yieldsIf (Or.inl ⟨by rfl, ?_⟩)) hHeld ?_; rotate_left 1; focus (intro w; go_simp; try with_reducible rfl)); try simp only [Act.put, List.getElem_toArray, List.getElem_cons_zero, List.getElem_cons_succ, List.setIfInBounds_toArray, List.set_cons_zero, List.set_cons_succ])
        refine wpAnyH_done (by kernel_rfl) ?_ _
        (try go_wp2)
        go_meet
        exact ⟨b9, a4, n4, c4, rfl, rfl, rS, hb9w, heap_set12 H_hz.out, hrl.frame hms hne, hk4.mono r3.size⟩
    · go_simp
      have r3 := hdr.alloc (.cells #[.int .u64 0, .slice none 0 0] 45)
      have hz := heap_new (w := W1.drew) (o := .cells #[.int .u64 0, .slice none 0 0] 45 (0, 0)) rfl
      refine hK.out _ _ (HK.out _ r3) (fun hHeld => ?_)
      clear hK K
      (try simp only [Act.put, List.getElem_toArray, List.getElem_cons_zero, List.getElem_cons_succ, List.setIfInBounds_toArray, List.set_cons_zero, List.set_cons_succ])
      refine wpAnyH_ready (rs := [7]) (by kernel_rfl) (by simp) ?_
      refine AllReadyH.cons rfl (fun K hK => ?_) AllReadyH.nil
      go_simp
      refine Calls.mono (HTm.out _) ?_
      rintro e u1 ⟨rfl, hq1⟩
      have r1 : Pure W1 u1 := r3.trans hq1
      refine hK.out _ _ (HK.out _ r1) (fun hHeld => ?_)
      clear hK K
      (try simp only [Act.put, List.getElem_toArray, List.getElem_cons_zero, List.getElem_cons_succ, List.setIfInBounds_toArray, List.set_cons_zero, List.set_cons_succ])
      refine wpAnyH_ready (rs := [8]) (by kernel_rfl) (by simp) ?_
      refine AllReadyH.cons rfl (fun K hK => ?_) AllReadyH.nil
      go_simp
      refine Calls.mono (HRs.out _ r1) ?_
      rintro e u2 ⟨a4, n4, c4, rfl, hr4, hk4, hq2⟩
      have r2 : Pure W1 u2 := r1.trans hq2
      refine hK.out _ _ (HK.out _ r2) (fun hHeld => ?_)
      clear hK K
      (try simp only [Act.put, List.getElem_toArray, List.getElem_cons_zero, List.getElem_cons_succ, List.setIfInBounds_toArray, List.set_cons_zero, List.set_cons_succ])
      have lz := lt_of_block hz
      have hsz9 := hdr.size
      have hz := hq2.heap (fun h => h) (hq1.heap (fun h => h) hz)
      replace hz : u2.heap[W1.heap.size]? = some (.cells #[.int .u64 0, .slice none 0 0] 45 (0, 0)) := hz
      obtain ⟨b9, hb9⟩ : ∃ b, W1.heap.size = b := ⟨_, rfl⟩
      rw [hb9] at hz ⊢
      have hb9w : W1.heap.size ≤ b9 := by have := hdr.size; skip; omega
      have hne : ∀ g, rdBlock (.slice a4 n4 c4) = some g → g ≠ b9 := fun g hg => by rcases hk4.rd hg with e | e; (· have := HH.out.rd.lt e; have := HB.out.pure.size; have := hsz9; omega); (· have := hq1.size; have hsd : (W1.alloc (.cells #[.int .u64 0, .slice none 0 0] 45)).drew.heap.size = W1.heap.size + 1 := (show (W1.alloc (.cells #[.int .u64 0, .slice none 0 0] 45)).heap.size = W1.heap.size + 1 by simp); omega)
      have hrl := hr4
      have hz_0 := cell_of_row _ _ 0 _ _ _ hz; have hz_1 := cell_of_row _ _ 1 _ _ _ hz; have hz_f := (fun j => frozen_of_row _ _ j _ _ hz); have hz_l := lt_of_block hz; simp at hz_0 hz_1; have H_hz := Lib.hid hz; clear hz
      ((refine wpAnyH_take (i := 9) (v := ?_) rfl (by kernel_rfl) (by kernel_rfl) (by kernel_rfl) (fun _ _ _ h => h) (Yields.yieldsIf (Or.inl ⟨by rfl, ?_⟩)) hHeld ?_; rotate_left 1; focus (intro w; go_simp; try with_reducible rfl)); try simp only [Act.put, List.getElem_toArray, List.getElem_cons_zero, List.getElem_cons_succ, List.setIfInBounds_toArray, List.set_cons_zero, List.set_cons_succ])
      ((refine wpAnyH_take (i := 10) (v := ?_) rfl (by kernel_rfl) (by kernel_rfl) (by kernel_rfl) (fun _ _ _ h => h) (Yields.yieldsIf (Or.inl ⟨by rfl, ?_⟩)) hHeld ?_; rotate_left 1; focus (intro w; go_simp; try with_reducible rfl)); try simp only [Act.put, List.getElem_toArray, List.getElem_cons_zero, List.getElem_cons_succ, List.setIfInBounds_toArray, List.set_cons_zero, List.set_cons_succ])
      ((refine wpAnyH_take (i := 11) (v := ?_) rfl (by kernel_rfl) (by kernel_rfl) (by kernel_rfl) (fun _ _ _ h => h) (Yields.yieldsIf (Or.inl ⟨by rfl, ?_⟩)) hHeld ?_; rotate_left 1; focus (intro w; go_simp; try with_reducible rfl)); try simp only [Act.put, List.getElem_toArray, List.getElem_cons_zero, List.getElem_cons_succ, List.setIfInBounds_toArray, List.set_cons_zero, List.set_cons_succ])
      have hms := Mod.set2 (w := u2) b9 0 1 (.int .u64 now) (.slice a4 n4 c4)
      have rS := r2.then hms (fun k hk e => by omega)
      ((refine wpAnyH_ready (rs := [13]) (by kernel_rfl) (by simp) ?_; refine AllReadyH.cons rfl (fun K hK => ?_) AllReadyH.nil; go_simp; skip; refine hK.out _ _ ?_ (fun hHeld => ?_); (· exact HK.out _ rS); clear hK K); try simp only [Act.put, List.getElem_toArray, List.getElem_cons_zero, List.getElem_cons_succ, List.setIfInBounds_toArray, List.set_cons_zero, List.set_cons_succ])
      ((refine wpAnyH_take (i := 14) (v := ?_) rfl (by kernel_rfl) (by kernel_rfl) (by kernel_rfl) (fun _ _ _ h => h) (Yields.yieldsIf (Or.inl ⟨by rfl, ?_⟩)) hHeld ?_; rotate_left 1; focus (intro w; go_simp; try with_reducible rfl)); try simp only [Act.put, List.getElem_toArray, List.getElem_cons_zero, List.getElem_cons_succ, List.setIfInBounds_toArray, List.set_cons_zero, List.set_cons_succ])
      refine wpAnyH_done (by kernel_rfl) ?_ _
      (try go_wp2)
      go_meet
      exact ⟨b9, a4, n4, c4, rfl, rfl, rS, hb9w, heap_set12 H_hz.out, hrl.frame hms hne, hk4.mono r1.size⟩
  case rest =>
    clear x0 x1 y0 y1 y2 y3 HX HRs
    obtain ⟨b9, a4, n4, c4, rfl, rfl, hpx, hb9, h9, hrx, hkx⟩ := hcut
    have hlW : ∀ k, D k → k < w.heap.size := fun k hk => HH.out.ks.lt hk
    have hb2 := lt_of_block HB.out.h2
    have hb1 := lt_of_block HB.out.h1
    have n9 : ¬ (D b9 ∨ b9 = b2) := fun e => by
      rcases e with e | e
      · have := hlW _ e; have := HB.out.pure.size; omega
      · omega
    have n1 : ¬ (D b1 ∨ b1 = b2) := fun e => by
      rcases e with e | e
      · have := hlW _ e; have := HB.out.z1; omega
      · exact HB.out.ne12 e
    have n2 : ¬ D b2 := fun e => by have := hlW _ e; have := HB.out.z2; omega
    have hkm : ∀ u, Mod (fun k => D k ∨ k = b2) wc u → u.cell? ⟨b9, 0, none⟩ = some (.int .u64 now) ∧ u.cell? ⟨b9, 1, none⟩ = some (.slice a4 n4 c4) ∧ u.cell? ⟨b1, 1, none⟩ = some (.int .u32 t.slot) ∧ u.cell? ⟨b1, 2, none⟩ = some (.int .u64 t.birth) ∧ u.cell? ⟨b1, 3, none⟩ = some (.int .u64 t.time) := fun u hm => by
      obtain ⟨x0, x1⟩ := whbox (hm.heap n9 h9)
      obtain ⟨_, _, _, y1, y2, y3⟩ := HK.out wc hpx
      exact ⟨x0, x1, hm.cell n1 y1, hm.cell n1 y2, hm.cell n1 y3⟩
    have hrb : ∀ g, rdBlock (.slice a4 n4 c4) = some g → g ≠ b2 := fun g hg => by
      rcases hkx.rd hg with e | e
      · have := HH.out.rd.lt e; have := HB.out.z2; omega
      · omega
    have HKm := Lib.hid hkm; have HRb := Lib.hid hrb; have HPx := Lib.hid hpx; have HRx := Lib.hid hrx; have HKx := Lib.hid hkx; have HN2 := Lib.hid n2; have HB2 := Lib.hid hb2
    have HX := Lib.hid (hkm wc (Mod.refl _ _))
    clear hkm hrb hpx hrx hkx n2 n1 n9 hlW hb1 hb2 hb9 h9
    go_upto_region 4 with fail
    refine wp_region_held_drew (S := fun u => u.cell? ⟨b9, 0, none⟩ = some (.int .u64 now) ∧ u.cell? ⟨b9, 1, none⟩ = some (.slice a4 n4 c4) ∧ u.cell? ⟨b1, 1, none⟩ = some (.int .u32 t.slot) ∧ u.cell? ⟨b1, 2, none⟩ = some (.int .u64 t.birth) ∧ u.cell? ⟨b1, 3, none⟩ = some (.int .u64 t.time)) (by kernel_rfl) HX.out (fun hHeld => ?_)
    ((refine wpAnyH_take (i := 0) (v := ?_) rfl (by kernel_rfl) (by kernel_rfl) (by kernel_rfl) (fun _ _ _ h => h) (Yields.yieldsIf (Or.inl ⟨by rfl, ?_⟩)) hHeld ?_; rotate_left 1; focus (intro w; go_simp; try with_reducible rfl)); try simp only [Act.put, List.getElem_toArray, List.getElem_cons_zero, List.getElem_cons_succ, List.setIfInBounds_toArray, List.set_cons_zero, List.set_cons_succ])
    ((refine wpAnyH_take (i := 1) (v := ?_) rfl (by kernel_rfl) (by kernel_rfl) (by kernel_rfl) (fun _ _ _ h => h) (Or.inl ⟨by rfl, ?_⟩) hHeld ?_; rotate_left 1; focus (intro w hS; obtain ⟨s0, s1, s2, s3, s4⟩ := hS; go_simp; try with_reducible rfl)); try simp only [Act.put, List.getElem_toArray, List.getElem_cons_zero, List.getElem_cons_succ, List.setIfInBounds_toArray, List.set_cons_zero, List.set_cons_succ])
    ((refine wpAnyH_take (i := 2) (v := ?_) rfl (by kernel_rfl) (by kernel_rfl) (by kernel_rfl) (fun _ _ _ h => h) (Yields.yieldsIf (Or.inl ⟨by rfl, ?_⟩)) hHeld ?_; rotate_left 1; focus (intro w; go_simp; try with_reducible rfl)); try simp only [Act.put, List.getElem_toArray, List.getElem_cons_zero, List.getElem_cons_succ, List.setIfInBounds_toArray, List.set_cons_zero, List.set_cons_succ])
    ((refine wpAnyH_take (i := 3) (v := ?_) rfl (by kernel_rfl) (by kernel_rfl) (by kernel_rfl) (fun _ _ _ h => h) (Yields.yieldsIf (Or.inl ⟨by rfl, ?_⟩)) hHeld ?_; rotate_left 1; focus (intro w; go_simp; try with_reducible rfl)); try simp only [Act.put, List.getElem_toArray, List.getElem_cons_zero, List.getElem_cons_succ, List.setIfInBounds_toArray, List.set_cons_zero, List.set_cons_succ])
    ((refine wpAnyH_take (i := 4) (v := ?_) rfl (by kernel_rfl) (by kernel_rfl) (by kernel_rfl) (fun _ _ _ h => h) (Or.inl ⟨by rfl, ?_⟩) hHeld ?_; rotate_left 1; focus (intro w hS; obtain ⟨s0, s1, s2, s3, s4⟩ := hS; go_simp; try with_reducible rfl)); try simp only [Act.put, List.getElem_toArray, List.getElem_cons_zero, List.getElem_cons_succ, List.setIfInBounds_toArray, List.set_cons_zero, List.set_cons_succ])
    ((refine wpAnyH_take (i := 5) (v := ?_) rfl (by kernel_rfl) (by kernel_rfl) (by kernel_rfl) (fun _ _ _ h => h) (Yields.yieldsIf (Or.inl ⟨by rfl, ?_⟩)) hHeld ?_; rotate_left 1; focus (intro w; go_simp; try with_reducible rfl)); try simp only [Act.put, List.getElem_toArray, List.getElem_cons_zero, List.getElem_cons_succ, List.setIfInBounds_toArray, List.set_cons_zero, List.set_cons_succ])
    ((refine wpAnyH_take (i := 6) (v := ?_) rfl (by kernel_rfl) (by kernel_rfl) (by kernel_rfl) (fun _ _ _ h => h) (Or.inl ⟨by rfl, ?_⟩) hHeld ?_; rotate_left 1; focus (intro w hS; obtain ⟨s0, s1, s2, s3, s4⟩ := hS; go_simp; try with_reducible rfl)); try simp only [Act.put, List.getElem_toArray, List.getElem_cons_zero, List.getElem_cons_succ, List.setIfInBounds_toArray, List.set_cons_zero, List.set_cons_succ])
    ((refine wpAnyH_take (i := 7) (v := ?_) rfl (by kernel_rfl) (by kernel_rfl) (by kernel_rfl) (fun _ _ _ h => h) (Yields.yieldsIf (Or.inl ⟨by rfl, ?_⟩)) hHeld ?_; rotate_left 1; focus (intro w; go_simp; try with_reducible rfl)); try simp only [Act.put, List.getElem_toArray, List.getElem_cons_zero, List.getElem_cons_succ, List.setIfInBounds_toArray, List.set_cons_zero, List.set_cons_succ])
    ((refine wpAnyH_take (i := 8) (v := ?_) rfl (by kernel_rfl) (by kernel_rfl) (by kernel_rfl) (fun _ _ _ h => h) (Or.inl ⟨by rfl, ?_⟩) hHeld ?_; rotate_left 1; focus (intro w hS; obtain ⟨s0, s1, s2, s3, s4⟩ := hS; go_simp; try with_reducible rfl)); try simp only [Act.put, List.getElem_toArray, List.getElem_cons_zero, List.getElem_cons_succ, List.setIfInBounds_toArray, List.set_cons_zero, List.set_cons_succ])
    ((refine wpAnyH_take (i := 11) (v := ?_) rfl (by kernel_rfl) (by kernel_rfl) (by kernel_rfl) (fun _ _ _ h => h) (Yields.yieldsIf (Or.inl ⟨by rfl, ?_⟩)) hHeld ?_; rotate_left 1; focus (intro w; go_simp; try with_reducible rfl)); try simp only [Act.put, List.getElem_toArray, List.getElem_cons_zero, List.getElem_cons_succ, List.setIfInBounds_toArray, List.set_cons_zero, List.set_cons_succ])
    ((refine wpAnyH_ready (rs := [9]) (by kernel_rfl) (by simp) ?_; refine AllReadyH.cons rfl (fun K hK => ?_) AllReadyH.nil; go_simp; refine Calls.mono (HTm.out _) ?_; rintro e u1 ⟨rfl, hq1⟩; refine hK.out _ _ ?_ (fun hHeld => ?_); (· exact HKm.out _ (Mod.of_pure (Mod.of_drew hq1))); clear hK K); try simp only [Act.put, List.getElem_toArray, List.getElem_cons_zero, List.getElem_cons_succ, List.setIfInBounds_toArray, List.set_cons_zero, List.set_cons_succ])
    have hq : Pure wc u1 := Mod.of_drew hq1
    have HQ := Lib.hid hq
    clear hq hq1
    ((refine wpAnyH_ready (rs := [10]) (by kernel_rfl) (by simp) ?_; refine AllReadyH.cons rfl (fun K hK => ?_) AllReadyH.nil; go_simp; refine Calls.mono (HSc.out _ (HPx.out.trans HQ.out)) ?_; rintro e u2 ⟨rfl, D6, hs6, hg6, hm6⟩; refine hK.out _ _ ?_ (fun hHeld => ?_); (· exact HKm.out _ ((Mod.of_pure HQ.out).trans (hm6.mono (fun _ _ h => .inl h)))); clear hK K); try simp only [Act.put, List.getElem_toArray, List.getElem_cons_zero, List.getElem_cons_succ, List.setIfInBounds_toArray, List.set_cons_zero, List.set_cons_succ])
    have h26 := hm6.heap HN2.out ((HPx.out.trans HQ.out).heap (fun h => h) HB.out.h2)
    have HF := Lib.hid (HH.out.fin (HB.out.pure.trans (HPx.out.trans HQ.out)) (HRx.out.pure HQ.out) (HKx.out.mono HB.out.pure.size) hs6 hg6 hm6 HB.out.z2 (Nat.lt_of_lt_of_le HB2.out (HPx.out.trans HQ.out).size) HRb.out (.int .u64 now) (.slice a4 n4 c4))
    have HM6 := Lib.hid hm6
    clear hs6 hg6 hm6
    have h26_0 := cell_of_row _ _ 0 _ _ _ h26; have h26_1 := cell_of_row _ _ 1 _ _ _ h26; have h26_f := (fun j => frozen_of_row _ _ j _ _ h26); have h26_l := lt_of_block h26; simp at h26_0 h26_1; have H_h26 := Lib.hid h26; clear h26
    ((refine wpAnyH_take (i := 12) (v := ?_) rfl (by kernel_rfl) (by kernel_rfl) (by kernel_rfl) (fun _ _ _ h => h) (Yields.yieldsIf (Or.inl ⟨by rfl, ?_⟩)) hHeld ?_; rotate_left 1; focus (intro w; go_simp; try with_reducible rfl)); try simp only [Act.put, List.getElem_toArray, List.getElem_cons_zero, List.getElem_cons_succ, List.setIfInBounds_toArray, List.set_cons_zero, List.set_cons_succ])
    ((refine wpAnyH_take (i := 13) (v := ?_) rfl (by kernel_rfl) (by kernel_rfl) (by kernel_rfl) (fun _ _ _ h => h) (Yields.yieldsIf (Or.inl ⟨by rfl, ?_⟩)) hHeld ?_; rotate_left 1; focus (intro w; go_simp; try with_reducible rfl)); try simp only [Act.put, List.getElem_toArray, List.getElem_cons_zero, List.getElem_cons_succ, List.setIfInBounds_toArray, List.set_cons_zero, List.set_cons_succ])
    ((refine wpAnyH_ready (rs := [14]) (by kernel_rfl) (by simp) ?_; refine AllReadyH.cons rfl (fun K hK => ?_) AllReadyH.nil; go_simp; skip; refine hK.out _ _ ?_ (fun hHeld => ?_); (· exact HKm.out _ (((Mod.of_pure HQ.out).trans (HM6.out.mono (fun _ _ h => .inl h))).trans ((Mod.set2 b2 0 1 _ _).mono (fun _ _ h => .inr h)))); clear hK K); try simp only [Act.put, List.getElem_toArray, List.getElem_cons_zero, List.getElem_cons_succ, List.setIfInBounds_toArray, List.set_cons_zero, List.set_cons_succ])
    ((refine wpAnyH_take (i := 15) (v := ?_) rfl (by kernel_rfl) (by kernel_rfl) (by kernel_rfl) (fun _ _ _ h => h) (Yields.yieldsIf (Or.inl ⟨by rfl, ?_⟩)) hHeld ?_; rotate_left 1; focus (intro w; go_simp; try with_reducible rfl)); try simp only [Act.put, List.getElem_toArray, List.getElem_cons_zero, List.getElem_cons_succ, List.setIfInBounds_toArray, List.set_cons_zero, List.set_cons_succ])
    refine wpAnyH_done (by kernel_rfl) ?_ _
    clear hHeld
    go_wp2
    refine bodyPost_ret (v := .tuple #[lkP p, .agg #[.int .u64 now, .slice a4 n4 c4], .bool true]) (by simp [results, Tryd.results30, go_sem, h26_0, h26_1, h26_l]) rfl ⟨p, now, a4, n4, c4, D6, Ln, rfl, HF.out.1, HF.out.2.1, HKx.out.mono HB.out.pure.size, HF.out.2.2⟩
end
end Go.Proofs.YtlalpenfgkfkpaaDoor

/- law20.step: Cancel. Conditions: the cascade lies in memory, the reference's list is read. -/
namespace Go.Proofs.YtlalpenfgkfkpaaDoor
open Go.RowKit Go.Shelf
set_option maxRecDepth 100000
section
variable {w0 w w5 w6 : World} {D D' : Nat → Prop} {p p' now now' n c n' c' b2 : Nat} {a a' : Option Addr} {L L' : List Td} {t : Act20}
theorem KnS.cancelM2 (h : KnS w0 w D p now L) {s : Nat} (h32 : s ≤ 4294967295) :
    Calls Tryd.prog 24 #[lkP p, .int .u32 s] w fun e w' => e = .returned (.tuple #[tdV (getT L s).1, .int .i64 (getT L s).2]) ∧ ∃ D', KnS w0 w' D' p now (canL L s) ∧ grewD D D' w ∧ Mod D w w' := by
  refine (h.t.at_.cancel h32).mono ?_
  rintro e w' ⟨rfl, ⟨D', hc, hg⟩, hm⟩
  exact ⟨rfl, D', h.step (h.t.next hc hg hm) hg hm, hg, hm⟩
theorem StP.drew {e : Ending} {w' : World} (h : StP w0 w a n c D e w') : StP w0 w a n c D e w'.drew := by
  obtain ⟨p', now', a', n', c', D', L', h1, h2, h3, h4, h5⟩ := h
  exact ⟨p', now', a', n', c', D', L', h1, h2.pure (Mod.refl _ _).drew, h3, h4, h5.drew⟩
set_option maxHeartbeats 2000000 in
theorem step_cancel (h : StI w0 w p now a n c D L) (ht : ActOk t) (h0 : t.what = 1) :
    Calls Tryd.prog 30 #[lkP p, whV now a n c, actV t] w (StP w0 w a n c D) := by
  unfold whV actV
  obtain ⟨W1, b0, b1, b2, hW, e0, e1, e2, hB⟩ := boxA_ok (w := w) (now := now) (a := a) (n := n) (c := c) (t := t)
  unfold boxA at hW
  have hx := hB.cells (Mod.refl _ W1)
  have hw0 : (t.what == 0) = false := by rw [h0]; rfl
  have hw1 : (t.what == 1) = true := by rw [h0]; rfl
  have hs1 := h.pure hB.pure
  have hlL := h.ks.t.at_.count
  rw [h.rd.len] at hlL
  have hca := rcan_ok (now := now) hs1.rd hlL (s := t.slot) ht.s
  have hcc := fun (W : World) (hp : Pure W1 W) => (hs1.pure hp).ks.cancelM2 (s := t.slot) ht.s
  obtain ⟨y, hy⟩ : ∃ y, (getT L t.slot).1 = y := ⟨_, rfl⟩
  obtain ⟨er, her⟩ : ∃ y, (getT L t.slot).2 = y := ⟨_, rfl⟩
  obtain ⟨Ln, hLn⟩ : ∃ Ln, canL L t.slot = Ln := ⟨_, rfl⟩
  rw [hy, her, hLn] at hca
  rw [hy, her, hLn] at hcc
  unfold tdV at hca hcc
  unfold whV at hca
  have HB := Lib.hid hB; have HW := Lib.hid hW; have E0 := Lib.hid e0; have E1 := Lib.hid e1; have E2 := Lib.hid e2; have HCa := Lib.hid hca; have HCc := Lib.hid hcc; have HH := Lib.hid h
  have HK := Lib.hid (fun (u : World) (hp : Pure W1 u) => hB.cells hp)
  clear hB hW e0 e1 e2 hca hcc hs1 h hy her hLn hlL ht h0
  go_enter Tryd.func30, Tryd.ntmps30
  go_upto_region 1 with fail
  rw [HW.out, E2.out, E1.out, E0.out]
  clear HW E0 E1 E2
  obtain ⟨x0, x1, y0, y1, y2, y3⟩ := hx
  go_upto_region 7 with (first
    | (go_at_call 66; refine Calls.mono HCa.out ?_; rintro e w4 ⟨a4, n4, c4, rfl, hr4, hk4, hp4⟩
       have HP4 := Lib.hid hp4; have HR4 := Lib.hid hr4; have HK4 := Lib.hid hk4
       clear hp4 hr4 hk4 x0 x1 y0 y1 y2 y3))
  have pa := (Mod.refl (fun _ => False) w4).alloc (.cells #[.int .u64 now, .slice a4 n4 c4] 45)
  have pb := (Mod.refl (fun _ => False) (w4.alloc (.cells #[.int .u64 now, .slice a4 n4 c4] 45))).alloc (.cells #[.int .u32 y.slot, .int .u64 y.dl, .int .u64 y.birth] 31)
  have h11 := pb.heap (fun h => h) (heap_new (w := w4) (o := .cells #[.int .u64 now, .slice a4 n4 c4] 45 (0, 0)) rfl)
  have h12 : ((w4.alloc (.cells #[.int .u64 now, .slice a4 n4 c4] 45)).alloc (.cells #[.int .u32 y.slot, .int .u64 y.dl, .int .u64 y.birth] 31)).heap[w4.heap.size + 1]? = some (.cells #[.int .u32 y.slot, .int .u64 y.dl, .int .u64 y.birth] 31 (0, 0)) := heap_new (by simp)
  have pab := pa.trans pb
  obtain ⟨b11, hb11⟩ : ∃ b, w4.heap.size = b := ⟨_, rfl⟩
  rw [hb11] at h11 h12 ⊢
  obtain ⟨b12, hb12⟩ : ∃ b, b11 + 1 = b := ⟨_, rfl⟩
  rw [hb12] at h12 ⊢
  generalize (w4.alloc (.cells #[.int .u64 now, .slice a4 n4 c4] 45)).alloc (.cells #[.int .u32 y.slot, .int .u64 y.dl, .int .u64 y.birth] 31) = W5 at *
  have hw1s := HP4.out.size
  have hb2 := lt_of_block HB.out.h2
  have hlW : ∀ k, D k → k < w.heap.size := fun k hk => HH.out.ks.lt hk
  have hws := HB.out.pure.size
  have n11 : ¬ D b11 := fun e => by have := hlW _ e; omega
  have n12 : ¬ D b12 := fun e => by have := hlW _ e; omega
  have n2 : ¬ D b2 := fun e => by have := hlW _ e; have := HB.out.z2; omega
  have m11 : b2 ≠ b11 := by omega
  have m12 : b2 ≠ b12 := by omega
  have p5 := HP4.out.trans pab
  have hr5 := HR4.out.pure pab
  have hcc := HCc.out W5 p5
  obtain ⟨_, _, y0, y1, y2, y3⟩ := HK.out W5 p5
  have HP5 := Lib.hid p5; have HR5 := Lib.hid hr5; have HCc5 := Lib.hid hcc; have H11 := Lib.hid h11; have H12 := Lib.hid h12; have HN11 := Lib.hid n11; have HN12 := Lib.hid n12; have HN2 := Lib.hid n2
  have HLT5 := Lib.hid (And.intro (lt_of_block h11) (lt_of_block h12))
  clear pa pb pab hb11 hb12 h11 h12 hlW n11 n12 n2 p5 hr5 hcc HCc hw1s hws hb2
  go_upto_region 8 with (first
    | (go_at_call 24; refine Calls.mono HCc5.out ?_; rintro e w6 ⟨rfl, D6, hs6, hg6, hm6⟩
       have HS6 := Lib.hid hs6; have HG6 := Lib.hid hg6; have HM6 := Lib.hid hm6
       clear hs6 hg6 hm6 y0 y1 y2 y3))
  have pc := (Mod.refl (fun _ => False) w6).alloc (.cells #[.int .u32 y.slot, .int .u64 y.dl, .int .u64 y.birth] 31)
  have h14 := heap_new (w := w6) (o := .cells #[.int .u32 y.slot, .int .u64 y.dl, .int .u64 y.birth] 31 (0, 0)) rfl
  obtain ⟨b14, hb14⟩ : ∃ b, w6.heap.size = b := ⟨_, rfl⟩
  rw [hb14] at h14 ⊢
  generalize w6.alloc (.cells #[.int .u32 y.slot, .int .u64 y.dl, .int .u64 y.birth] 31) = W7 at *
  have hm7 : Mod D W5 W7 := HM6.out.trans (Mod.of_pure pc)
  have h117 := hm7.heap HN11.out H11.out
  have h127 := hm7.heap HN12.out H12.out
  have h27 := hm7.heap HN2.out (HP5.out.heap (fun h => h) HB.out.h2)
  have m14 : b2 ≠ b14 := by have := lt_of_block HB.out.h2; have := HP5.out.size; have := HM6.out.size; omega
  have hrb : ∀ g, rdBlock (.slice a4 n4 c4) = some g → g ≠ b2 := fun g hg => by
    rcases HK4.out.rd hg with e | e
    · have := HH.out.rd.lt e; have := HB.out.z2; omega
    · have := lt_of_block HB.out.h2; omega
  have hF := HH.out.fin (HB.out.pure.trans HP5.out) HR5.out (HK4.out.mono HB.out.pure.size) (HS6.out.pure pc) HG6.out hm7 HB.out.z2 (Nat.lt_of_lt_of_le (lt_of_block HB.out.h2) HP5.out.size) hrb (.int .u64 now) (.slice a4 n4 c4)
  have HF := Lib.hid hF
  have HST := Lib.hid (show StP w0 w a n c D (.returned (.tuple #[lkP p, whV now a4 n4 c4, .bool true])) ((W7.setCell ⟨b2, 0, none⟩ (.int .u64 now)).setCell ⟨b2, 1, none⟩ (.slice a4 n4 c4)) from ⟨p, now, a4, n4, c4, D6, Ln, rfl, hF.1, hF.2.1, HK4.out.mono HB.out.pure.size, hF.2.2⟩)
  clear pc hb14 hm7 hrb hF HF
  have h117_0 := cell_of_row _ _ 0 _ _ _ h117; have h117_1 := cell_of_row _ _ 1 _ _ _ h117; have h117_f := (fun j => frozen_of_row _ _ j _ _ h117); have h117_l := lt_of_block h117; simp at h117_0 h117_1; have H_h117 := Lib.hid h117; clear h117
  have h127_0 := cell_of_row _ _ 0 _ _ _ h127; have h127_1 := cell_of_row _ _ 1 _ _ _ h127; have h127_2 := cell_of_row _ _ 2 _ _ _ h127; have h127_f := (fun j => frozen_of_row _ _ j _ _ h127); have h127_l := lt_of_block h127; simp at h127_0 h127_1 h127_2; have H_h127 := Lib.hid h127; clear h127
  have h14_0 := cell_of_row _ _ 0 _ _ _ h14; have h14_1 := cell_of_row _ _ 1 _ _ _ h14; have h14_2 := cell_of_row _ _ 2 _ _ _ h14; have h14_f := (fun j => frozen_of_row _ _ j _ _ h14); have h14_l := lt_of_block h14; simp at h14_0 h14_1 h14_2; have H_h14 := Lib.hid h14; clear h14
  have h27_0 := cell_of_row _ _ 0 _ _ _ h27; have h27_1 := cell_of_row _ _ 1 _ _ _ h27; have h27_f := (fun j => frozen_of_row _ _ j _ _ h27); have h27_l := lt_of_block h27; simp at h27_0 h27_1; have H_h27 := Lib.hid h27; clear h27
  go_region
  all_goals
    go_wp2
    refine bodyPost_ret (v := .tuple #[lkP p, .agg #[.int .u64 now, .slice a4 n4 c4], .bool true]) (by simp [results, Tryd.results30, go_sem, h27_0, h27_1, h27_l]) rfl ?_
    first | exact HST.out | exact HST.out.drew
end
end Go.Proofs.YtlalpenfgkfkpaaDoor
