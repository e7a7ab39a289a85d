/- Lemmas and contracts of functions, strung together out of 6 texts. No condition. -/
import Derived.Test.YtlalpenfgkfkpaaGreatDoorJPfDuePlays12
import Derived.Test.YtlalpenfgkfkpaaGreatDoorJPfDuePlays10
import Derived.Test.YtlalpenfgkfkpaaGreatDoorJPfDuePlays2
/- law21.step: Remove. Conditions: the deadlines lie in memory, the reference's list is read. Printed by wip/gen_d21t.py. -/
namespace Go.Proofs.YtlalpenfgkfkpaaGreatDoor
open Go.RowKit Go.Shelf
set_option maxRecDepth 100000
section
variable {w0 w w5 w6 : World} {D D' : Nat → Prop} {p p' now now' n c n' c' b2 : Nat} {a a' : Option Addr} {L L' : List Td} {t : Act21}
theorem KnD.removeM2 (h : KnD w0 w D p now L) {s : Nat} (h32 : s ≤ 4294967295) :
    Calls Tryz.prog 19 #[lkP p, .int .u32 s] w fun e w' => e = .returned (.int .i64 (getT L s).2) ∧ ∃ D', KnD w0 w' D' p now (canL L s) ∧ grewD D D' w ∧ Mod D w w' := by
  refine (h.t.at_.remove h32).mono ?_
  rintro e w' ⟨rfl, ⟨D', hc, hg⟩, hm⟩
  exact ⟨rfl, D', h.step hc hg hm, hg, hm⟩
set_option maxHeartbeats 2000000 in
theorem dstep_remove (h : StD w0 w p now a n c D L) (ht : A21Ok w0 t) (h0 : t.what = 1) :
    Calls Tryz.prog 8 #[lkP p, whV now a n c, act21V t] w (StPD w0 w a n c D) := by
  unfold whV act21V
  obtain ⟨W1, b0, b1, b2, hW, e0, e1, e2, hB⟩ := boxD_ok (w := w) (now := now) (a := a) (n := n) (c := c) (t := t)
  unfold boxD at hW
  have hx := hB.cells (Mod.refl _ W1)
  have hw0 : (t.what == 0) = false := by rw [h0]; rfl
  have hw1 : (t.what == 1) = true := by rw [h0]; rfl
  have hs1 := h.pure hB.pure
  have hlL := h.ks.count
  rw [h.rd.len] at hlL
  have hca := r21rem_ok (now := now) hs1.rd hlL (s := t.slot)
  have hcc := fun (W : World) (hp : Pure W1 W) => (hs1.pure hp).ks.removeM2 (s := t.slot) ht.s
  obtain ⟨er, her⟩ : ∃ y, (getT L t.slot).2 = y := ⟨_, rfl⟩
  obtain ⟨Ln, hLn⟩ : ∃ Ln, canL L t.slot = Ln := ⟨_, rfl⟩
  rw [her, hLn] at hca
  rw [her, hLn] at hcc
  unfold whV at hca
  have HB := Lib.hid hB; have HW := Lib.hid hW; have E0 := Lib.hid e0; have E1 := Lib.hid e1; have E2 := Lib.hid e2; have HCa := Lib.hid hca; have HCc := Lib.hid hcc; have HH := Lib.hid h
  have HK := Lib.hid (fun (u : World) (hp : Pure W1 u) => hB.cells hp)
  clear hB hW e0 e1 e2 hca hcc hs1 h her hLn hlL ht h0
  go_enter Tryz.func8, Tryz.ntmps8
  go_upto_region 1 with fail
  rw [HW.out, E2.out, E1.out, E0.out]
  clear HW E0 E1 E2
  obtain ⟨x0, x1, y0, y1, y2, y3, y4⟩ := hx
  go_upto_region 7 with (first
    | (go_at_call 25; refine Calls.mono HCa.out ?_; rintro e w4 ⟨a4, n4, c4, rfl, hr4, hk4, hp4⟩
       have HP4 := Lib.hid hp4; have HR4 := Lib.hid hr4; have HK4 := Lib.hid hk4
       clear hp4 hr4 hk4 x0 x1 y0 y1 y2 y3 y4))
  have pa := (Mod.refl (fun _ => False) w4).alloc (.cells #[.int .u64 now, .slice a4 n4 c4] 31)
  have h16 := heap_new (w := w4) (o := .cells #[.int .u64 now, .slice a4 n4 c4] 31 (0, 0)) rfl
  obtain ⟨b16, hb16⟩ : ∃ b, w4.heap.size = b := ⟨_, rfl⟩
  rw [hb16] at h16 ⊢
  generalize w4.alloc (.cells #[.int .u64 now, .slice a4 n4 c4] 31) = W5 at *
  have hlW : ∀ k, D k → k < w.heap.size := fun k hk => HH.out.ks.lt hk
  have hws := HB.out.pure.size
  have hw1s := HP4.out.size
  have hb2 := lt_of_block HB.out.h2
  have n9 : ¬ (D b16 ∨ b16 = b2) := fun e => by
    rcases e with e | e
    · have := hlW _ e; omega
    · omega
  have n1 : ¬ (D b1 ∨ b1 = b2) := fun e => by
    rcases e with e | e
    · have := hlW _ e; have := HB.out.z1; omega
    · exact HB.out.ne12 e
  have n2 : ¬ D b2 := fun e => by have := hlW _ e; have := HB.out.z2; omega
  have p5 := HP4.out.trans pa
  have hkm : ∀ u, Mod (fun k => D k ∨ k = b2) W5 u → u.cell? ⟨b16, 0, none⟩ = some (.int .u64 now) ∧ u.cell? ⟨b16, 1, none⟩ = some (.slice a4 n4 c4) ∧ u.cell? ⟨b1, 1, none⟩ = some (.int .u32 t.slot) := fun u hm => by
    obtain ⟨x0, x1⟩ := whbox (hm.heap n9 h16)
    obtain ⟨_, _, _, y1, _⟩ := HK.out W5 p5
    exact ⟨x0, x1, hm.cell n1 y1⟩
  have hrb : ∀ g, rdBlock (.slice a4 n4 c4) = some g → g ≠ b2 := fun g hg => by
    rcases HK4.out.rd hg with e | e
    · have := HH.out.rd.lt e; have := HB.out.z2; omega
    · omega
  have hr5 := HR4.out.pure pa
  have HKm := Lib.hid hkm; have HRb := Lib.hid hrb; have HPx := Lib.hid p5; have HRx := Lib.hid hr5; have HN2 := Lib.hid n2; have HB2 := Lib.hid hb2
  have HX := Lib.hid (hkm W5 (Mod.refl _ _))
  clear hkm hrb p5 hr5 n2 n1 n9 hlW hws hw1s hb2 h16 pa hb16
  refine wp_region_held_drew (S := fun u => u.cell? ⟨b16, 0, none⟩ = some (.int .u64 now) ∧ u.cell? ⟨b16, 1, none⟩ = some (.slice a4 n4 c4) ∧ u.cell? ⟨b1, 1, none⟩ = some (.int .u32 t.slot)) (by kernel_rfl) HX.out (fun hHeld => ?_)
  ((refine wpAnyH_take (i := 0) (v := ?_) rfl (by kernel_rfl) (by kernel_rfl) (by kernel_rfl) (fun _ _ _ h => h) (Yields.yieldsIf (Or.inl ⟨by rfl, ?_⟩)) hHeld ?_; rotate_left 1; focus (intro w; go_simp; try with_reducible rfl)); try simp only [Act.put, List.getElem_toArray, List.getElem_cons_zero, List.getElem_cons_succ, List.setIfInBounds_toArray, List.set_cons_zero, List.set_cons_succ])
  ((refine wpAnyH_take (i := 1) (v := ?_) rfl (by kernel_rfl) (by kernel_rfl) (by kernel_rfl) (fun _ _ _ h => h) (Or.inl ⟨by rfl, ?_⟩) hHeld ?_; rotate_left 1; focus (intro w hS; obtain ⟨s0, s1, s2⟩ := hS; go_simp; try with_reducible rfl)); try simp only [Act.put, List.getElem_toArray, List.getElem_cons_zero, List.getElem_cons_succ, List.setIfInBounds_toArray, List.set_cons_zero, List.set_cons_succ])
  ((refine wpAnyH_take (i := 2) (v := ?_) rfl (by kernel_rfl) (by kernel_rfl) (by kernel_rfl) (fun _ _ _ h => h) (Yields.yieldsIf (Or.inl ⟨by rfl, ?_⟩)) hHeld ?_; rotate_left 1; focus (intro w; go_simp; try with_reducible rfl)); try simp only [Act.put, List.getElem_toArray, List.getElem_cons_zero, List.getElem_cons_succ, List.setIfInBounds_toArray, List.set_cons_zero, List.set_cons_succ])
  ((refine wpAnyH_take (i := 3) (v := ?_) rfl (by kernel_rfl) (by kernel_rfl) (by kernel_rfl) (fun _ _ _ h => h) (Yields.yieldsIf (Or.inl ⟨by rfl, ?_⟩)) hHeld ?_; rotate_left 1; focus (intro w; go_simp; try with_reducible rfl)); try simp only [Act.put, List.getElem_toArray, List.getElem_cons_zero, List.getElem_cons_succ, List.setIfInBounds_toArray, List.set_cons_zero, List.set_cons_succ])
  ((refine wpAnyH_take (i := 4) (v := ?_) rfl (by kernel_rfl) (by kernel_rfl) (by kernel_rfl) (fun _ _ _ h => h) (Or.inl ⟨by rfl, ?_⟩) hHeld ?_; rotate_left 1; focus (intro w hS; obtain ⟨s0, s1, s2⟩ := hS; go_simp; try with_reducible rfl)); try simp only [Act.put, List.getElem_toArray, List.getElem_cons_zero, List.getElem_cons_succ, List.setIfInBounds_toArray, List.set_cons_zero, List.set_cons_succ])
  ((refine wpAnyH_take (i := 6) (v := ?_) rfl (by kernel_rfl) (by kernel_rfl) (by kernel_rfl) (fun _ _ _ h => h) (Yields.yieldsIf (Or.inl ⟨by rfl, ?_⟩)) hHeld ?_; rotate_left 1; focus (intro w; go_simp; try with_reducible rfl)); try simp only [Act.put, List.getElem_toArray, List.getElem_cons_zero, List.getElem_cons_succ, List.setIfInBounds_toArray, List.set_cons_zero, List.set_cons_succ])
  have HQ : Hid (Pure W5 W5.drew) := Lib.hid (Mod.refl _ _).drew
  ((refine wpAnyH_ready (rs := [5]) (by kernel_rfl) (by simp) ?_; refine AllReadyH.cons rfl (fun K hK => ?_) AllReadyH.nil; go_simp; refine Calls.mono (HCc.out _ (HPx.out.trans HQ.out)) ?_; rintro e u2 ⟨rfl, D6, hs6, hg6, hm6⟩; refine hK.out _ _ ?_ (fun hHeld => ?_); (· exact HKm.out _ ((Mod.of_pure HQ.out).trans (hm6.mono (fun _ _ h => .inl h)))); clear hK K); try simp only [Act.put, List.getElem_toArray, List.getElem_cons_zero, List.getElem_cons_succ, List.setIfInBounds_toArray, List.set_cons_zero, List.set_cons_succ])
  have h26 := hm6.heap HN2.out ((HPx.out.trans HQ.out).heap (fun h => h) HB.out.h2)
  have HF := Lib.hid (HH.out.fin (HB.out.pure.trans (HPx.out.trans HQ.out)) (HRx.out.pure HQ.out) (HK4.out.mono HB.out.pure.size) hs6 hg6 hm6 HB.out.z2 (Nat.lt_of_lt_of_le HB2.out (HPx.out.trans HQ.out).size) HRb.out (.int .u64 now) (.slice a4 n4 c4))
  have HM6 := Lib.hid hm6
  clear hs6 hg6 hm6
  have h26_0 := cell_of_row _ _ 0 _ _ _ h26; have h26_1 := cell_of_row _ _ 1 _ _ _ h26; have h26_f := (fun j => frozen_of_row _ _ j _ _ h26); have h26_l := lt_of_block h26; simp at h26_0 h26_1; have H_h26 := Lib.hid h26; clear h26
  ((refine wpAnyH_take (i := 7) (v := ?_) rfl (by kernel_rfl) (by kernel_rfl) (by kernel_rfl) (fun _ _ _ h => h) (Yields.yieldsIf (Or.inl ⟨by rfl, ?_⟩)) hHeld ?_; rotate_left 1; focus (intro w; go_simp; try with_reducible rfl)); try simp only [Act.put, List.getElem_toArray, List.getElem_cons_zero, List.getElem_cons_succ, List.setIfInBounds_toArray, List.set_cons_zero, List.set_cons_succ])
  ((refine wpAnyH_take (i := 8) (v := ?_) rfl (by kernel_rfl) (by kernel_rfl) (by kernel_rfl) (fun _ _ _ h => h) (Yields.yieldsIf (Or.inl ⟨by rfl, ?_⟩)) hHeld ?_; rotate_left 1; focus (intro w; go_simp; try with_reducible rfl)); try simp only [Act.put, List.getElem_toArray, List.getElem_cons_zero, List.getElem_cons_succ, List.setIfInBounds_toArray, List.set_cons_zero, List.set_cons_succ])
  ((refine wpAnyH_ready (rs := [9]) (by kernel_rfl) (by simp) ?_; refine AllReadyH.cons rfl (fun K hK => ?_) AllReadyH.nil; go_simp; skip; refine hK.out _ _ ?_ (fun hHeld => ?_); (· exact HKm.out _ (((Mod.of_pure HQ.out).trans (HM6.out.mono (fun _ _ h => .inl h))).trans ((Mod.set2 b2 0 1 _ _).mono (fun _ _ h => .inr h)))); clear hK K); try simp only [Act.put, List.getElem_toArray, List.getElem_cons_zero, List.getElem_cons_succ, List.setIfInBounds_toArray, List.set_cons_zero, List.set_cons_succ])
  ((refine wpAnyH_take (i := 10) (v := ?_) rfl (by kernel_rfl) (by kernel_rfl) (by kernel_rfl) (fun _ _ _ h => h) (Yields.yieldsIf (Or.inl ⟨by rfl, ?_⟩)) hHeld ?_; rotate_left 1; focus (intro w; go_simp; try with_reducible rfl)); try simp only [Act.put, List.getElem_toArray, List.getElem_cons_zero, List.getElem_cons_succ, List.setIfInBounds_toArray, List.set_cons_zero, List.set_cons_succ])
  refine wpAnyH_done (by kernel_rfl) ?_ _
  clear hHeld
  go_wp2
  refine bodyPost_ret (v := .tuple #[lkP p, .agg #[.int .u64 now, .slice a4 n4 c4], .bool true]) (by simp [results, Tryz.results8, go_sem, h26_0, h26_1, h26_l]) rfl ⟨p, now, a4, n4, c4, D6, Ln, rfl, HF.out.1, HF.out.2.1, HK4.out.mono HB.out.pure.size, HF.out.2.2⟩
end
end Go.Proofs.YtlalpenfgkfkpaaGreatDoor

/- law21.step: Expire, two kinds. Conditions: the deadlines lie in memory, the reference's list is read. Printed by wip/gen_d21u.py. -/
namespace Go.Proofs.YtlalpenfgkfkpaaGreatDoor
open Go.RowKit Go.Shelf
set_option maxRecDepth 100000
section
variable {w0 w w5 w6 : World} {D D' : Nat → Prop} {p p' now now' n c n' c' b2 n2 c2 t0 tt : Nat} {a a' a2 : Option Addr} {L L' : List Td} {t : Act21}
theorem KnD.expireM2 (h : KnD w0 w D p now L) (ht0 : t0 ≤ 18446744073709551615) (htt : max now t0 = tt) (hr : RdL w a2 n2 c2 (dueE tt L)) (hoff : ∀ g, rdBlock (.slice a2 n2 c2) = some g → ¬ D g) :
    Calls Tryz.prog 15 #[lkP p, .int .u64 t0] w fun e w' => ∃ a1 c1, e = .returned (.slice a1 n2 c1) ∧ (∃ D', KnD w0 w' D' p tt (restE tt L) ∧ grewD D D' w ∧ Mod D w w') ∧ ∀ W, Pure w' W → Calls Tryz.prog 10 #[.slice a1 n2 c1, .slice a2 n2 c2] W fun e w'' => e = .returned (.bool true) ∧ Pure W w'' := by
  have hc := h.count
  refine (h.t.at_.expire h.t.tab h.t.off ht0).mono ?_
  rintro e w' ⟨a1, c1, rfl, h1, ⟨D', hc', hg, _⟩, hm⟩
  rw [htt] at h1 hc' ⊢
  have h1' := RdL.of_row h1
  rw [hr.len] at h1' ⊢
  have hl : n2 ≤ 4194304 := by
    have : (dueE tt L).length ≤ L.length := (List.takeWhile_sublist _).length_le
    rw [hr.len] at this
    omega
  exact ⟨a1, c1, rfl, ⟨D', h.step hc' hg hm, hg, hm⟩, fun W hW => rsame_ok (h1'.pure hW).rd ((hr.frame hm hoff).pure hW).rd hr.len hl⟩
theorem r21exp_any (h : RdL w a n c L) (hl : n ≤ 4194304) {t0 : Nat} (htt : max now t0 = tt) (ht : tt ≤ 18446744073709551615) :
    Calls Tryz.prog 26 #[whV now a n c, .int .u64 t0] w fun e w' => ∃ a1 n1 c1 a2 n2 c2, e = .returned (.tuple #[whV tt a1 n1 c1, .slice a2 n2 c2]) ∧ RdL w' a1 n1 c1 (restE tt L) ∧ Kept w a n c a1 n1 c1 ∧ RdL w' a2 n2 c2 (dueE tt L) ∧ (∀ g, rdBlock (.slice a2 n2 c2) = some g → w.heap.size ≤ g) ∧ Pure w w' := by
  refine (r21exp_ok h hl htt ht).mono ?_
  rintro e w' ⟨a1, c1, a2, c2, rfl, h1, h2, h3, h4, hp⟩
  exact ⟨a1, _, c1, a2, _, c2, rfl, RdL.of_row h1, .inr h3, RdL.of_row h2, fun g hg => h4 g (rdBlock_own hg), hp⟩
theorem nextU_lt (h : DueAt w D p now L) : nextD L ≤ 18446744073709551615 := by
  cases L with
  | nil => show 18446744073709551615 ≤ _; omega
  | cons x L => exact (h.law.rng x List.mem_cons_self).2.2.1
set_option maxHeartbeats 2000000 in
theorem dstep_exp2 (h : StD w0 w p now a n c D L) (ht : A21Ok w0 t) (h0 : t.what = 2) :
    Calls Tryz.prog 8 #[lkP p, whV now a n c, act21V t] w (StPD w0 w a n c D) := by
  unfold whV act21V
  obtain ⟨W1, b0, b1, b2, hW, e0, e1, e2, hB⟩ := boxD_ok (w := w) (now := now) (a := a) (n := n) (c := c) (t := t)
  unfold boxD at hW
  have hx := hB.cells (Mod.refl _ W1)
  have hw0 : (t.what == 0) = false := by rw [h0]; rfl
  have hw1 : (t.what == 1) = false := by rw [h0]; rfl
  have hw2 : (t.what == 2) = true := by rw [h0]; rfl
  have hw3 : (t.what == 3) = false := by rw [h0]; rfl
  have hs1 := h.pure hB.pure
  have hlL := h.ks.count
  rw [h.rd.len] at hlL
  have h64 := h.ks.t.at_.now64
  have htd := ht.d
  have hnl := nextU_lt h.ks.t.at_
  obtain ⟨t0, hte⟩ : ∃ t0, t.time = t0 := ⟨_, rfl⟩
  have ht64 : t0 ≤ 18446744073709551615 := by omega
  obtain ⟨nw', hnw'⟩ : ∃ x, max now t0 = x := ⟨_, rfl⟩
  have hnw64 : nw' ≤ 18446744073709551615 := by omega
  have hca := fun (W : World) (hp : Pure W1 W) => r21exp_any (now := now) (hs1.pure hp).rd hlL hnw' hnw64
  have hcc := fun (W : World) (hp : Pure W1 W) (a2 : Option Addr) (n2 c2 : Nat) (hr : RdL W a2 n2 c2 (dueE nw' L)) (hwD : ∀ g, rdBlock (.slice a2 n2 c2) = some g → ¬ D g) => (hs1.pure hp).ks.expireM2 ht64 hnw' hr hwD
  obtain ⟨Ln, hLn⟩ : ∃ x, restE nw' L = x := ⟨_, rfl⟩
  obtain ⟨lo, hlo⟩ : ∃ x, dueE nw' L = x := ⟨_, rfl⟩
  rw [hLn, hlo] at hca
  rw [hLn, hlo] at hcc
  unfold whV at hca
  have HB := Lib.hid hB; have HW := Lib.hid hW; have E0 := Lib.hid e0; have E1 := Lib.hid e1; have E2 := Lib.hid e2; have HCa := Lib.hid hca; have HCc := Lib.hid hcc; have HH := Lib.hid h
  have HK := Lib.hid (fun (u : World) (hp : Pure W1 u) => hB.cells hp)
  clear hB hW e0 e1 e2 hca hcc hs1 h hnw' hnw64 hLn hlo hlL ht h0 h64 ht64 htd hnl
  have HTE := Lib.hid hte
  clear hte
  go_enter Tryz.func8, Tryz.ntmps8
  go_upto_region 1 with fail
  rw [HW.out, E2.out, E1.out, E0.out]
  clear HW E0 E1 E2
  obtain ⟨x0, x1, y0, y1, y2, y3, y4⟩ := hx
  rw [HTE.out] at y3
  go_upto_region 13 with fail
  have hca := HCa.out W1 (Mod.refl _ _)
  have HCa2 := Lib.hid hca
  clear hca HCa
  go_upto_region 14 with (first
    | (go_at_call 26; refine Calls.mono HCa2.out ?_; rintro e w4 ⟨a4, n4, c4, a5, n5, c5, rfl, hr4, hk4, hr5, hf5, hp4⟩
       have HP4 := Lib.hid (Mod.trans ((Mod.refl _ _) : Pure W1 W1) hp4); have HR4 := Lib.hid hr4; have HK4 := Lib.hid (hk4.mono (Mod.size ((Mod.refl _ _) : Pure W1 W1))); have HR5 := Lib.hid hr5
       have HF5 := Lib.hid (fun g hg => Nat.le_trans (Mod.size ((Mod.refl _ _) : Pure W1 W1)) (hf5 g hg))
       clear hp4 hr4 hk4 hr5 hf5 x0 x1 y0 y1 y2 y3 y4))
  have pa := (Mod.refl (fun _ => False) w4).alloc (.cells #[.int .u64 nw', .slice a4 n4 c4] 31)
  have h16 := heap_new (w := w4) (o := .cells #[.int .u64 nw', .slice a4 n4 c4] 31 (0, 0)) rfl
  obtain ⟨b16, hb16⟩ : ∃ b, w4.heap.size = b := ⟨_, rfl⟩
  rw [hb16] at h16 ⊢
  generalize w4.alloc (.cells #[.int .u64 nw', .slice a4 n4 c4] 31) = W5 at *
  have hlW : ∀ k, D k → k < w.heap.size := fun k hk => HH.out.ks.lt hk
  have hws := HB.out.pure.size
  have hw1s := HP4.out.size
  have hb2 := lt_of_block HB.out.h2
  have n9 : ¬ (D b16 ∨ b16 = b2) := fun e => by
    rcases e with e | e
    · have := hlW _ e; omega
    · omega
  have n1 : ¬ (D b1 ∨ b1 = b2) := fun e => by
    rcases e with e | e
    · have := hlW _ e; have := HB.out.z1; omega
    · exact HB.out.ne12 e
  have n2 : ¬ D b2 := fun e => by have := hlW _ e; have := HB.out.z2; omega
  have p5 := HP4.out.trans pa
  have hkm : ∀ u, Mod (fun k => D k ∨ k = b2) W5 u → u.cell? ⟨b16, 0, none⟩ = some (.int .u64 nw') ∧ u.cell? ⟨b16, 1, none⟩ = some (.slice a4 n4 c4) := fun u hm => by
    obtain ⟨x0, x1⟩ := whbox (hm.heap n9 h16)
    exact ⟨x0, x1⟩
  have hrb : ∀ g, rdBlock (.slice a4 n4 c4) = some g → g ≠ b2 := fun g hg => by
    rcases HK4.out.rd hg with e | e
    · have := HH.out.rd.lt e; have := HB.out.z2; omega
    · omega
  have hr5 := HR4.out.pure pa
  have hcc := HCc.out W5.drew p5.drew a5 n5 c5 ((HR5.out.pure pa).pure (Mod.refl _ _).drew) (fun g hg hd => by have := HF5.out g hg; have := hlW g hd; omega)
  have HCc5 := Lib.hid hcc
  clear hcc HCc
  have HKm := Lib.hid hkm; have HRb := Lib.hid hrb; have HPx := Lib.hid p5; have HRx := Lib.hid hr5; have HN2 := Lib.hid n2; have HB2 := Lib.hid hb2
  have HX := Lib.hid (hkm W5 (Mod.refl _ _))
  clear hkm hrb p5 hr5 n2 n1 n9 hlW hws hw1s hb2 h16 pa hb16
  refine wp_region_held_drew (S := fun u => u.cell? ⟨b16, 0, none⟩ = some (.int .u64 nw') ∧ u.cell? ⟨b16, 1, none⟩ = some (.slice a4 n4 c4)) (by kernel_rfl) HX.out (fun hHeld => ?_)
  ((refine wpAnyH_take (i := 0) (v := ?_) rfl (by kernel_rfl) (by kernel_rfl) (by kernel_rfl) (fun _ _ _ h => h) (Yields.yieldsIf (Or.inl ⟨by rfl, ?_⟩)) hHeld ?_; rotate_left 1; focus (intro w; go_simp; try with_reducible rfl)); try simp only [Act.put, List.getElem_toArray, List.getElem_cons_zero, List.getElem_cons_succ, List.setIfInBounds_toArray, List.set_cons_zero, List.set_cons_succ])
  ((refine wpAnyH_take (i := 1) (v := ?_) rfl (by kernel_rfl) (by kernel_rfl) (by kernel_rfl) (fun _ _ _ h => h) (Or.inl ⟨by rfl, ?_⟩) hHeld ?_; rotate_left 1; focus (intro w hS; obtain ⟨s0, s1⟩ := hS; go_simp; try with_reducible rfl)); try simp only [Act.put, List.getElem_toArray, List.getElem_cons_zero, List.getElem_cons_succ, List.setIfInBounds_toArray, List.set_cons_zero, List.set_cons_succ])
  ((refine wpAnyH_take (i := 2) (v := ?_) rfl (by kernel_rfl) (by kernel_rfl) (by kernel_rfl) (fun _ _ _ h => h) (Yields.yieldsIf (Or.inl ⟨by rfl, ?_⟩)) hHeld ?_; rotate_left 1; focus (intro w; go_simp; try with_reducible rfl)); try simp only [Act.put, List.getElem_toArray, List.getElem_cons_zero, List.getElem_cons_succ, List.setIfInBounds_toArray, List.set_cons_zero, List.set_cons_succ])
  ((refine wpAnyH_take (i := 3) (v := ?_) rfl (by kernel_rfl) (by kernel_rfl) (by kernel_rfl) (fun _ _ _ h => h) (Yields.yieldsIf (Or.inl ⟨by rfl, ?_⟩)) hHeld ?_; rotate_left 1; focus (intro w; go_simp; try with_reducible rfl)); try simp only [Act.put, List.getElem_toArray, List.getElem_cons_zero, List.getElem_cons_succ, List.setIfInBounds_toArray, List.set_cons_zero, List.set_cons_succ])
  ((refine wpAnyH_take (i := 5) (v := ?_) rfl (by kernel_rfl) (by kernel_rfl) (by kernel_rfl) (fun _ _ _ h => h) (Yields.yieldsIf (Or.inl ⟨by rfl, ?_⟩)) hHeld ?_; rotate_left 1; focus (intro w; go_simp; try with_reducible rfl)); try simp only [Act.put, List.getElem_toArray, List.getElem_cons_zero, List.getElem_cons_succ, List.setIfInBounds_toArray, List.set_cons_zero, List.set_cons_succ])
  have HQ : Hid (Pure W5 W5.drew) := Lib.hid (Mod.refl _ _).drew
  ((refine wpAnyH_ready (rs := [4]) (by kernel_rfl) (by simp) ?_; refine AllReadyH.cons rfl (fun K hK => ?_) AllReadyH.nil; go_simp; refine Calls.mono HCc5.out ?_; rintro e u1 ⟨a8, c8, rfl, ⟨D6, hs5, hg6, hm5⟩, hsm⟩; have HSm := Lib.hid hsm; clear hsm; refine hK.out _ _ ?_ (fun hHeld => ?_); (· exact HKm.out _ ((Mod.of_pure HQ.out).trans (hm5.mono (fun _ _ h => .inl h)))); clear hK K); try simp only [Act.put, List.getElem_toArray, List.getElem_cons_zero, List.getElem_cons_succ, List.setIfInBounds_toArray, List.set_cons_zero, List.set_cons_succ])
  ((refine wpAnyH_ready (rs := [6]) (by kernel_rfl) (by simp) ?_; refine AllReadyH.cons rfl (fun K hK => ?_) AllReadyH.nil; go_simp; refine Calls.mono (HSm.out _ (Mod.refl _ _)) ?_; rintro e u2 ⟨rfl, hp6⟩; refine hK.out _ _ ?_ (fun hHeld => ?_); (· exact HKm.out _ ((Mod.of_pure HQ.out).trans ((hm5.trans (Mod.of_pure hp6)).mono (fun _ _ h => .inl h)))); clear hK K); try simp only [Act.put, List.getElem_toArray, List.getElem_cons_zero, List.getElem_cons_succ, List.setIfInBounds_toArray, List.set_cons_zero, List.set_cons_succ])
  have hs6 := hs5.pure hp6
  have hm6 := hm5.trans (Mod.of_pure hp6)
  clear hs5 hm5 hp6
  have h26 := hm6.heap HN2.out ((HPx.out.trans HQ.out).heap (fun h => h) HB.out.h2)
  have HF := Lib.hid (HH.out.fin (HB.out.pure.trans (HPx.out.trans HQ.out)) (HRx.out.pure HQ.out) (HK4.out.mono HB.out.pure.size) hs6 hg6 hm6 HB.out.z2 (Nat.lt_of_lt_of_le HB2.out (HPx.out.trans HQ.out).size) HRb.out (.int .u64 nw') (.slice a4 n4 c4))
  have HM6 := Lib.hid hm6
  clear hs6 hg6 hm6
  have h26_0 := cell_of_row _ _ 0 _ _ _ h26; have h26_1 := cell_of_row _ _ 1 _ _ _ h26; have h26_f := (fun j => frozen_of_row _ _ j _ _ h26); have h26_l := lt_of_block h26; simp at h26_0 h26_1; have H_h26 := Lib.hid h26; clear h26
  ((refine wpAnyH_take (i := 7) (v := ?_) rfl (by kernel_rfl) (by kernel_rfl) (by kernel_rfl) (fun _ _ _ h => h) (Yields.yieldsIf (Or.inl ⟨by rfl, ?_⟩)) hHeld ?_; rotate_left 1; focus (intro w; go_simp; try with_reducible rfl)); try simp only [Act.put, List.getElem_toArray, List.getElem_cons_zero, List.getElem_cons_succ, List.setIfInBounds_toArray, List.set_cons_zero, List.set_cons_succ])
  ((refine wpAnyH_ready (rs := [8]) (by kernel_rfl) (by simp) ?_; refine AllReadyH.cons rfl (fun K hK => ?_) AllReadyH.nil; go_simp; skip; refine hK.out _ _ ?_ (fun hHeld => ?_); (· exact HKm.out _ (((Mod.of_pure HQ.out).trans (HM6.out.mono (fun _ _ h => .inl h))).trans ((Mod.set2 b2 0 1 _ _).mono (fun _ _ h => .inr h)))); clear hK K); try simp only [Act.put, List.getElem_toArray, List.getElem_cons_zero, List.getElem_cons_succ, List.setIfInBounds_toArray, List.set_cons_zero, List.set_cons_succ])
  ((refine wpAnyH_take (i := 9) (v := ?_) rfl (by kernel_rfl) (by kernel_rfl) (by kernel_rfl) (fun _ _ _ h => h) (Yields.yieldsIf (Or.inl ⟨by rfl, ?_⟩)) hHeld ?_; rotate_left 1; focus (intro w; go_simp; try with_reducible rfl)); try simp only [Act.put, List.getElem_toArray, List.getElem_cons_zero, List.getElem_cons_succ, List.setIfInBounds_toArray, List.set_cons_zero, List.set_cons_succ])
  refine wpAnyH_done (by kernel_rfl) ?_ _
  clear hHeld
  go_wp2
  refine bodyPost_ret (v := .tuple #[lkP p, .agg #[.int .u64 nw', .slice a4 n4 c4], .bool true]) (by simp [results, Tryz.results8, go_sem, h26_0, h26_1, h26_l]) rfl ⟨p, nw', a4, n4, c4, D6, Ln, rfl, HF.out.1, HF.out.2.1, HK4.out.mono HB.out.pure.size, HF.out.2.2⟩
set_option maxHeartbeats 2000000 in
theorem dstep_exp3 (h : StD w0 w p now a n c D L) (ht : A21Ok w0 t) (h0 : t.what = 3) :
    Calls Tryz.prog 8 #[lkP p, whV now a n c, act21V t] w (StPD w0 w a n c D) := by
  unfold whV act21V
  obtain ⟨W1, b0, b1, b2, hW, e0, e1, e2, hB⟩ := boxD_ok (w := w) (now := now) (a := a) (n := n) (c := c) (t := t)
  unfold boxD at hW
  have hx := hB.cells (Mod.refl _ W1)
  have hw0 : (t.what == 0) = false := by rw [h0]; rfl
  have hw1 : (t.what == 1) = false := by rw [h0]; rfl
  have hw2 : (t.what == 2) = false := by rw [h0]; rfl
  have hw3 : (t.what == 3) = true := by rw [h0]; rfl
  have hs1 := h.pure hB.pure
  have hlL := h.ks.count
  rw [h.rd.len] at hlL
  have h64 := h.ks.t.at_.now64
  have htd := ht.d
  have hnl := nextU_lt h.ks.t.at_
  have hnx := r21next_ok (now := now) hs1.rd
  unfold whV at hnx
  obtain ⟨t0, hte⟩ : ∃ t0, nextD L = t0 := ⟨_, rfl⟩
  rw [hte] at hnx
  have HNx := Lib.hid hnx
  clear hnx
  have ht64 : t0 ≤ 18446744073709551615 := by omega
  obtain ⟨nw', hnw'⟩ : ∃ x, max now t0 = x := ⟨_, rfl⟩
  have hnw64 : nw' ≤ 18446744073709551615 := by omega
  have hca := fun (W : World) (hp : Pure W1 W) => r21exp_any (now := now) (hs1.pure hp).rd hlL hnw' hnw64
  have hcc := fun (W : World) (hp : Pure W1 W) (a2 : Option Addr) (n2 c2 : Nat) (hr : RdL W a2 n2 c2 (dueE nw' L)) (hwD : ∀ g, rdBlock (.slice a2 n2 c2) = some g → ¬ D g) => (hs1.pure hp).ks.expireM2 ht64 hnw' hr hwD
  obtain ⟨Ln, hLn⟩ : ∃ x, restE nw' L = x := ⟨_, rfl⟩
  obtain ⟨lo, hlo⟩ : ∃ x, dueE nw' L = x := ⟨_, rfl⟩
  rw [hLn, hlo] at hca
  rw [hLn, hlo] at hcc
  unfold whV at hca
  have HB := Lib.hid hB; have HW := Lib.hid hW; have E0 := Lib.hid e0; have E1 := Lib.hid e1; have E2 := Lib.hid e2; have HCa := Lib.hid hca; have HCc := Lib.hid hcc; have HH := Lib.hid h
  have HK := Lib.hid (fun (u : World) (hp : Pure W1 u) => hB.cells hp)
  clear hB hW e0 e1 e2 hca hcc hs1 h hnw' hnw64 hLn hlo hlL ht h0 h64 ht64 htd hnl hte
  go_enter Tryz.func8, Tryz.ntmps8
  go_upto_region 1 with fail
  rw [HW.out, E2.out, E1.out, E0.out]
  clear HW E0 E1 E2
  obtain ⟨x0, x1, y0, y1, y2, y3, y4⟩ := hx
  go_upto_region 13 with (go_at_call 21; refine Calls.mono HNx.out ?_; rintro e v1 ⟨rfl, hpv⟩; have HPv := Lib.hid hpv; have hkx := HK.out v1 hpv; clear hpv)
  clear x0 x1 y0 y1 y2 y3 y4
  obtain ⟨x0, x1, y0, y1, y2, y3, y4⟩ := hkx
  have hca := HCa.out v1 HPv.out
  have HCa2 := Lib.hid hca
  clear hca HCa
  go_upto_region 14 with (first
    | (go_at_call 26; refine Calls.mono HCa2.out ?_; rintro e w4 ⟨a4, n4, c4, a5, n5, c5, rfl, hr4, hk4, hr5, hf5, hp4⟩
       have HP4 := Lib.hid (Mod.trans (HPv.out : Pure W1 v1) hp4); have HR4 := Lib.hid hr4; have HK4 := Lib.hid (hk4.mono (Mod.size (HPv.out : Pure W1 v1))); have HR5 := Lib.hid hr5
       have HF5 := Lib.hid (fun g hg => Nat.le_trans (Mod.size (HPv.out : Pure W1 v1)) (hf5 g hg))
       clear hp4 hr4 hk4 hr5 hf5 x0 x1 y0 y1 y2 y3 y4))
  have pa := (Mod.refl (fun _ => False) w4).alloc (.cells #[.int .u64 nw', .slice a4 n4 c4] 31)
  have h16 := heap_new (w := w4) (o := .cells #[.int .u64 nw', .slice a4 n4 c4] 31 (0, 0)) rfl
  obtain ⟨b16, hb16⟩ : ∃ b, w4.heap.size = b := ⟨_, rfl⟩
  rw [hb16] at h16 ⊢
  generalize w4.alloc (.cells #[.int .u64 nw', .slice a4 n4 c4] 31) = W5 at *
  have hlW : ∀ k, D k → k < w.heap.size := fun k hk => HH.out.ks.lt hk
  have hws := HB.out.pure.size
  have hw1s := HP4.out.size
  have hb2 := lt_of_block HB.out.h2
  have n9 : ¬ (D b16 ∨ b16 = b2) := fun e => by
    rcases e with e | e
    · have := hlW _ e; omega
    · omega
  have n1 : ¬ (D b1 ∨ b1 = b2) := fun e => by
    rcases e with e | e
    · have := hlW _ e; have := HB.out.z1; omega
    · exact HB.out.ne12 e
  have n2 : ¬ D b2 := fun e => by have := hlW _ e; have := HB.out.z2; omega
  have p5 := HP4.out.trans pa
  have hkm : ∀ u, Mod (fun k => D k ∨ k = b2) W5 u → u.cell? ⟨b16, 0, none⟩ = some (.int .u64 nw') ∧ u.cell? ⟨b16, 1, none⟩ = some (.slice a4 n4 c4) := fun u hm => by
    obtain ⟨x0, x1⟩ := whbox (hm.heap n9 h16)
    exact ⟨x0, x1⟩
  have hrb : ∀ g, rdBlock (.slice a4 n4 c4) = some g → g ≠ b2 := fun g hg => by
    rcases HK4.out.rd hg with e | e
    · have := HH.out.rd.lt e; have := HB.out.z2; omega
    · omega
  have hr5 := HR4.out.pure pa
  have hcc := HCc.out W5.drew p5.drew a5 n5 c5 ((HR5.out.pure pa).pure (Mod.refl _ _).drew) (fun g hg hd => by have := HF5.out g hg; have := hlW g hd; omega)
  have HCc5 := Lib.hid hcc
  clear hcc HCc
  have HKm := Lib.hid hkm; have HRb := Lib.hid hrb; have HPx := Lib.hid p5; have HRx := Lib.hid hr5; have HN2 := Lib.hid n2; have HB2 := Lib.hid hb2
  have HX := Lib.hid (hkm W5 (Mod.refl _ _))
  clear hkm hrb p5 hr5 n2 n1 n9 hlW hws hw1s hb2 h16 pa hb16
  refine wp_region_held_drew (S := fun u => u.cell? ⟨b16, 0, none⟩ = some (.int .u64 nw') ∧ u.cell? ⟨b16, 1, none⟩ = some (.slice a4 n4 c4)) (by kernel_rfl) HX.out (fun hHeld => ?_)
  ((refine wpAnyH_take (i := 0) (v := ?_) rfl (by kernel_rfl) (by kernel_rfl) (by kernel_rfl) (fun _ _ _ h => h) (Yields.yieldsIf (Or.inl ⟨by rfl, ?_⟩)) hHeld ?_; rotate_left 1; focus (intro w; go_simp; try with_reducible rfl)); try simp only [Act.put, List.getElem_toArray, List.getElem_cons_zero, List.getElem_cons_succ, List.setIfInBounds_toArray, List.set_cons_zero, List.set_cons_succ])
  ((refine wpAnyH_take (i := 1) (v := ?_) rfl (by kernel_rfl) (by kernel_rfl) (by kernel_rfl) (fun _ _ _ h => h) (Or.inl ⟨by rfl, ?_⟩) hHeld ?_; rotate_left 1; focus (intro w hS; obtain ⟨s0, s1⟩ := hS; go_simp; try with_reducible rfl)); try simp only [Act.put, List.getElem_toArray, List.getElem_cons_zero, List.getElem_cons_succ, List.setIfInBounds_toArray, List.set_cons_zero, List.set_cons_succ])
  ((refine wpAnyH_take (i := 2) (v := ?_) rfl (by kernel_rfl) (by kernel_rfl) (by kernel_rfl) (fun _ _ _ h => h) (Yields.yieldsIf (Or.inl ⟨by rfl, ?_⟩)) hHeld ?_; rotate_left 1; focus (intro w; go_simp; try with_reducible rfl)); try simp only [Act.put, List.getElem_toArray, List.getElem_cons_zero, List.getElem_cons_succ, List.setIfInBounds_toArray, List.set_cons_zero, List.set_cons_succ])
  ((refine wpAnyH_take (i := 3) (v := ?_) rfl (by kernel_rfl) (by kernel_rfl) (by kernel_rfl) (fun _ _ _ h => h) (Yields.yieldsIf (Or.inl ⟨by rfl, ?_⟩)) hHeld ?_; rotate_left 1; focus (intro w; go_simp; try with_reducible rfl)); try simp only [Act.put, List.getElem_toArray, List.getElem_cons_zero, List.getElem_cons_succ, List.setIfInBounds_toArray, List.set_cons_zero, List.set_cons_succ])
  ((refine wpAnyH_take (i := 5) (v := ?_) rfl (by kernel_rfl) (by kernel_rfl) (by kernel_rfl) (fun _ _ _ h => h) (Yields.yieldsIf (Or.inl ⟨by rfl, ?_⟩)) hHeld ?_; rotate_left 1; focus (intro w; go_simp; try with_reducible rfl)); try simp only [Act.put, List.getElem_toArray, List.getElem_cons_zero, List.getElem_cons_succ, List.setIfInBounds_toArray, List.set_cons_zero, List.set_cons_succ])
  have HQ : Hid (Pure W5 W5.drew) := Lib.hid (Mod.refl _ _).drew
  ((refine wpAnyH_ready (rs := [4]) (by kernel_rfl) (by simp) ?_; refine AllReadyH.cons rfl (fun K hK => ?_) AllReadyH.nil; go_simp; refine Calls.mono HCc5.out ?_; rintro e u1 ⟨a8, c8, rfl, ⟨D6, hs5, hg6, hm5⟩, hsm⟩; have HSm := Lib.hid hsm; clear hsm; refine hK.out _ _ ?_ (fun hHeld => ?_); (· exact HKm.out _ ((Mod.of_pure HQ.out).trans (hm5.mono (fun _ _ h => .inl h)))); clear hK K); try simp only [Act.put, List.getElem_toArray, List.getElem_cons_zero, List.getElem_cons_succ, List.setIfInBounds_toArray, List.set_cons_zero, List.set_cons_succ])
  ((refine wpAnyH_ready (rs := [6]) (by kernel_rfl) (by simp) ?_; refine AllReadyH.cons rfl (fun K hK => ?_) AllReadyH.nil; go_simp; refine Calls.mono (HSm.out _ (Mod.refl _ _)) ?_; rintro e u2 ⟨rfl, hp6⟩; refine hK.out _ _ ?_ (fun hHeld => ?_); (· exact HKm.out _ ((Mod.of_pure HQ.out).trans ((hm5.trans (Mod.of_pure hp6)).mono (fun _ _ h => .inl h)))); clear hK K); try simp only [Act.put, List.getElem_toArray, List.getElem_cons_zero, List.getElem_cons_succ, List.setIfInBounds_toArray, List.set_cons_zero, List.set_cons_succ])
  have hs6 := hs5.pure hp6
  have hm6 := hm5.trans (Mod.of_pure hp6)
  clear hs5 hm5 hp6
  have h26 := hm6.heap HN2.out ((HPx.out.trans HQ.out).heap (fun h => h) HB.out.h2)
  have HF := Lib.hid (HH.out.fin (HB.out.pure.trans (HPx.out.trans HQ.out)) (HRx.out.pure HQ.out) (HK4.out.mono HB.out.pure.size) hs6 hg6 hm6 HB.out.z2 (Nat.lt_of_lt_of_le HB2.out (HPx.out.trans HQ.out).size) HRb.out (.int .u64 nw') (.slice a4 n4 c4))
  have HM6 := Lib.hid hm6
  clear hs6 hg6 hm6
  have h26_0 := cell_of_row _ _ 0 _ _ _ h26; have h26_1 := cell_of_row _ _ 1 _ _ _ h26; have h26_f := (fun j => frozen_of_row _ _ j _ _ h26); have h26_l := lt_of_block h26; simp at h26_0 h26_1; have H_h26 := Lib.hid h26; clear h26
  ((refine wpAnyH_take (i := 7) (v := ?_) rfl (by kernel_rfl) (by kernel_rfl) (by kernel_rfl) (fun _ _ _ h => h) (Yields.yieldsIf (Or.inl ⟨by rfl, ?_⟩)) hHeld ?_; rotate_left 1; focus (intro w; go_simp; try with_reducible rfl)); try simp only [Act.put, List.getElem_toArray, List.getElem_cons_zero, List.getElem_cons_succ, List.setIfInBounds_toArray, List.set_cons_zero, List.set_cons_succ])
  ((refine wpAnyH_ready (rs := [8]) (by kernel_rfl) (by simp) ?_; refine AllReadyH.cons rfl (fun K hK => ?_) AllReadyH.nil; go_simp; skip; refine hK.out _ _ ?_ (fun hHeld => ?_); (· exact HKm.out _ (((Mod.of_pure HQ.out).trans (HM6.out.mono (fun _ _ h => .inl h))).trans ((Mod.set2 b2 0 1 _ _).mono (fun _ _ h => .inr h)))); clear hK K); try simp only [Act.put, List.getElem_toArray, List.getElem_cons_zero, List.getElem_cons_succ, List.setIfInBounds_toArray, List.set_cons_zero, List.set_cons_succ])
  ((refine wpAnyH_take (i := 9) (v := ?_) rfl (by kernel_rfl) (by kernel_rfl) (by kernel_rfl) (fun _ _ _ h => h) (Yields.yieldsIf (Or.inl ⟨by rfl, ?_⟩)) hHeld ?_; rotate_left 1; focus (intro w; go_simp; try with_reducible rfl)); try simp only [Act.put, List.getElem_toArray, List.getElem_cons_zero, List.getElem_cons_succ, List.setIfInBounds_toArray, List.set_cons_zero, List.set_cons_succ])
  refine wpAnyH_done (by kernel_rfl) ?_ _
  clear hHeld
  go_wp2
  refine bodyPost_ret (v := .tuple #[lkP p, .agg #[.int .u64 nw', .slice a4 n4 c4], .bool true]) (by simp [results, Tryz.results8, go_sem, h26_0, h26_1, h26_l]) rfl ⟨p, nw', a4, n4, c4, D6, Ln, rfl, HF.out.1, HF.out.2.1, HK4.out.mono HB.out.pure.size, HF.out.2.2⟩
end
end Go.Proofs.YtlalpenfgkfkpaaGreatDoor

/- law21.step: Renumber. Conditions: the deadlines lie in memory, the reference's list is read. Printed by wip/gen_d21v.py. -/
namespace Go.Proofs.YtlalpenfgkfkpaaGreatDoor
open Go.RowKit Go.Shelf
set_option maxRecDepth 100000
section
variable {w0 w w5 w6 : World} {D D' : Nat → Prop} {p p' now now' n c n' c' b2 : Nat} {a a' : Option Addr} {L L' : List Td} {t : Act21} {tv : List Nat}
theorem KnD.renumberM2 (h : KnD w0 w D p now L) {a0 : Option Addr} {n0 c0 : Nat} (hto : ReadAt w (.slice a0 n0 c0) 1 (nums tv)) (hn0 : tv.length = n0) (hn4 : n0 ≤ 4194304) (ht32 : ∀ t ∈ tv, t ≤ 4294967295) :
    Calls Tryz.prog 18 #[lkP p, .slice a0 n0 c0] w fun e w' => e = .returned (.int .i64 (renR tv L)) ∧ ∃ D', KnD w0 w' D' p now (renM tv L) ∧ grewD D D' w ∧ Mod D w w' := by
  refine (h.t.at_.renumber hto hn0 hn4 ht32).mono ?_
  rintro e w' ⟨rfl, ⟨D', hc, hg⟩, hm⟩
  exact ⟨rfl, D', h.step hc hg hm, hg, hm⟩
set_option maxHeartbeats 2000000 in
theorem dstep_ren (h : StD w0 w p now a n c D L) (ht : A21Ok w0 t) (h0 : t.what = 4) (h100 : t.tn ≤ 100) :
    Calls Tryz.prog 8 #[lkP p, whV now a n c, act21V t] w (StPD w0 w a n c D) := by
  unfold whV act21V
  obtain ⟨W1, b0, b1, b2, hW, e0, e1, e2, hB⟩ := boxD_ok (w := w) (now := now) (a := a) (n := n) (c := c) (t := t)
  unfold boxD at hW
  have hx := hB.cells (Mod.refl _ W1)
  have hw0 : (t.what == 0) = false := by rw [h0]; rfl
  have hw1 : (t.what == 1) = false := by rw [h0]; rfl
  have hw2 : (t.what == 2) = false := by rw [h0]; rfl
  have hw3 : (t.what == 3) = false := by rw [h0]; rfl
  have hw4 : (t.what == 4) = true := by rw [h0]; rfl
  have hs1 := h.pure hB.pure
  have hlL := h.ks.count
  rw [h.rd.len] at hlL
  have hlr := fun (y : Td) (hy : y ∈ L) => (h.ks.t.at_.law.rng y hy).1
  have htW := fun (W : World) (hp : Pure W1 W) => ht.pure (h.ks.pu.trans (hB.pure.trans hp))
  have htn4 : t.tn ≤ 4194304 := by omega
  have hca := r21ren_ok (now := now) hs1.rd ⟨(htW W1 (Mod.refl _ _)).rd, ht.len⟩ hlL (fun y hy => by have := hlr y hy; omega)
  have hcc := fun (W : World) (hp : Pure W1 W) (a0 : Option Addr) (c0 : Nat) (hr : ReadAt W (.slice a0 t.tn c0) 1 (nums t.tv)) => (hs1.pure hp).ks.renumberM2 hr ht.len htn4 ht.u
  have HT0 := Lib.hid ht; have HTW := Lib.hid htW; have HTN := Lib.hid htn4
  obtain ⟨er, her⟩ : ∃ y, renR t.tv L = y := ⟨_, rfl⟩
  obtain ⟨Ln, hLn⟩ : ∃ Ln, renM t.tv L = Ln := ⟨_, rfl⟩
  rw [her, hLn] at hca
  rw [her, hLn] at hcc
  unfold whV at hca
  have HB := Lib.hid hB; have HW := Lib.hid hW; have E0 := Lib.hid e0; have E1 := Lib.hid e1; have E2 := Lib.hid e2; have HCa := Lib.hid hca; have HCc := Lib.hid hcc; have HH := Lib.hid h
  have HK := Lib.hid (fun (u : World) (hp : Pure W1 u) => hB.cells hp)
  clear hB hW e0 e1 e2 hca hcc hs1 h her hLn hlL htW htn4 hlr ht h0 h100
  obtain ⟨i0, hi, iz0, iz1, iz2⟩ := info_parts info_n32
  go_enter Tryz.func8, Tryz.ntmps8
  go_upto_region 1 with fail
  rw [HW.out, E2.out, E1.out, E0.out]
  clear HW E0 E1 E2
  obtain ⟨x0, x1, y0, y1, y2, y3, y4⟩ := hx
  go_upto_region 17 with (first
    | (go_at_call 27; refine Calls.mono HCa.out ?_; rintro e w4 ⟨a4, c4, rfl, hr4, hk4, hp4⟩
       have HP4 := Lib.hid hp4; have HR4 := Lib.hid hr4; have HK4 := Lib.hid hk4
       clear hp4 hr4 hk4 x0 x1 y0 y1 y2 y3 y4))
  have pa := (Mod.refl (fun _ => False) w4).alloc (.cells #[.int .u64 now, .slice a4 n c4] 31)
  have h16 := heap_new (w := w4) (o := .cells #[.int .u64 now, .slice a4 n c4] 31 (0, 0)) rfl
  obtain ⟨b16, hb16⟩ : ∃ b, w4.heap.size = b := ⟨_, rfl⟩
  rw [hb16] at h16 ⊢
  generalize w4.alloc (.cells #[.int .u64 now, .slice a4 n c4] 31) = W5 at *
  have p5 := HP4.out.trans pa
  have HTo := Lib.hid (HTW.out W5 p5).rd
  have HTl := Lib.hid (HTW.out W5 p5).len
  obtain ⟨_, _, _, _, _, _, y4⟩ := HK.out W5 p5
  go_upto_region 18 with (first
    | (at_builtin; refine wpList_append_read _ rfl _ _ 36 rfl 33 i0 _ 1 4 Tryz.underlying36 hi iz0 iz1 iz2 rfl (by decide) (.slice none 0 0) 0 [] rfl (World.ownsRow_nil _ _ _ _) (.slice t.ta t.tn t.tc) _ t.tn rfl HTo.out (by rw [nums_length, HTl.out, Nat.mul_one]) (by unfold maxLen; have := HTN.out; omega) (by have := HTN.out; omega) ?_; intro a8 c8 w7 hr8 hg8 hb8
       rw [Nat.zero_add] at hr8 hb8 ⊢
       rw [List.nil_append] at hr8
       have p7 : Pure W5 w7 := Mod.of_grown hg8 (fun k e _ => by cases e)
       have HR8 := Lib.hid hr8; have HB8 := Lib.hid hb8; have HP7 := Lib.hid p7
       clear hr8 hg8 hb8 p7))
  clear y4
  have h16 := HP7.out.heap (fun h => h) h16
  have HS7 := Lib.hid HP7.out.size
  have hlW : ∀ k, D k → k < w.heap.size := fun k hk => HH.out.ks.lt hk
  have hws := HB.out.pure.size
  have hw1s := HP4.out.size
  have hb2 := lt_of_block HB.out.h2
  have n9 : ¬ (D b16 ∨ b16 = b2) := fun e => by
    rcases e with e | e
    · have := hlW _ e; omega
    · omega
  have n1 : ¬ (D b1 ∨ b1 = b2) := fun e => by
    rcases e with e | e
    · have := hlW _ e; have := HB.out.z1; omega
    · exact HB.out.ne12 e
  have n2 : ¬ D b2 := fun e => by have := hlW _ e; have := HB.out.z2; omega
  have p5 := (HP4.out.trans pa).trans HP7.out
  have hkm : ∀ u, Mod (fun k => D k ∨ k = b2) w7 u → u.cell? ⟨b16, 0, none⟩ = some (.int .u64 now) ∧ u.cell? ⟨b16, 1, none⟩ = some (.slice a4 n c4) ∧ u.cell? ⟨b1, 4, none⟩ = some (.slice t.ta t.tn t.tc) := fun u hm => by
    obtain ⟨x0, x1⟩ := whbox (hm.heap n9 h16)
    obtain ⟨_, _, _, _, _, _, y4⟩ := HK.out w7 p5
    exact ⟨x0, x1, hm.cell n1 y4⟩
  have hrb : ∀ g, rdBlock (.slice a4 n c4) = some g → g ≠ b2 := fun g hg => by
    rcases HK4.out.rd hg with e | e
    · have := HH.out.rd.lt e; have := HB.out.z2; omega
    · omega
  have hr5 := HR4.out.pure (pa.trans HP7.out)
  have h8D : ∀ g, rdBlock (.slice a8 t.tn c8) = some g → ¬ D g := fun g hg hd => by
    have hg := rdBlock_own hg
    have := hlW _ hd
    rcases HB8.out with e | e
    · rw [e] at hg; cases hg
    · rw [e] at hg; injection hg with hg; have := pa.size; omega
  have hown : RdN w7.drew a8 t.tn c8 t.tv := RdN.pure ⟨ReadAt.of_owns HR8.out (nums_one t.tv), HTl.out⟩ (Mod.refl _ _).drew
  have hcc := HCc.out w7.drew p5.drew a8 c8 hown.rd
  have HCc5 := Lib.hid hcc; have H8D := Lib.hid h8D; have HOwn := Lib.hid hown
  clear hcc HCc h8D hown
  have HKm := Lib.hid hkm; have HRb := Lib.hid hrb; have HPx := Lib.hid p5; have HRx := Lib.hid hr5; have HN2 := Lib.hid n2; have HB2 := Lib.hid hb2
  have HX := Lib.hid (hkm w7 (Mod.refl _ _))
  clear hkm hrb p5 hr5 n2 n1 n9 hlW hws hw1s hb2 h16 pa hb16
  refine wp_region_held_drew (S := fun u => u.cell? ⟨b16, 0, none⟩ = some (.int .u64 now) ∧ u.cell? ⟨b16, 1, none⟩ = some (.slice a4 n c4) ∧ u.cell? ⟨b1, 4, none⟩ = some (.slice t.ta t.tn t.tc)) (by kernel_rfl) HX.out (fun hHeld => ?_)
  ((refine wpAnyH_take (i := 0) (v := ?_) rfl (by kernel_rfl) (by kernel_rfl) (by kernel_rfl) (fun _ _ _ h => h) (Yields.yieldsIf (Or.inl ⟨by rfl, ?_⟩)) hHeld ?_; rotate_left 1; focus (intro w; go_simp; try with_reducible rfl)); try simp only [Act.put, List.getElem_toArray, List.getElem_cons_zero, List.getElem_cons_succ, List.setIfInBounds_toArray, List.set_cons_zero, List.set_cons_succ])
  ((refine wpAnyH_take (i := 1) (v := ?_) rfl (by kernel_rfl) (by kernel_rfl) (by kernel_rfl) (fun _ _ _ h => h) (Or.inl ⟨by rfl, ?_⟩) hHeld ?_; rotate_left 1; focus (intro w hS; obtain ⟨s0, s1, s2⟩ := hS; go_simp; try with_reducible rfl)); try simp only [Act.put, List.getElem_toArray, List.getElem_cons_zero, List.getElem_cons_succ, List.setIfInBounds_toArray, List.set_cons_zero, List.set_cons_succ])
  ((refine wpAnyH_take (i := 2) (v := ?_) rfl (by kernel_rfl) (by kernel_rfl) (by kernel_rfl) (fun _ _ _ h => h) (Yields.yieldsIf (Or.inl ⟨by rfl, ?_⟩)) hHeld ?_; rotate_left 1; focus (intro w; go_simp; try with_reducible rfl)); try simp only [Act.put, List.getElem_toArray, List.getElem_cons_zero, List.getElem_cons_succ, List.setIfInBounds_toArray, List.set_cons_zero, List.set_cons_succ])
  ((refine wpAnyH_take (i := 3) (v := ?_) rfl (by kernel_rfl) (by kernel_rfl) (by kernel_rfl) (fun _ _ _ h => h) (Yields.yieldsIf (Or.inl ⟨by rfl, ?_⟩)) hHeld ?_; rotate_left 1; focus (intro w; go_simp; try with_reducible rfl)); try simp only [Act.put, List.getElem_toArray, List.getElem_cons_zero, List.getElem_cons_succ, List.setIfInBounds_toArray, List.set_cons_zero, List.set_cons_succ])
  ((refine wpAnyH_take (i := 5) (v := ?_) rfl (by kernel_rfl) (by kernel_rfl) (by kernel_rfl) (fun _ _ _ h => h) (Yields.yieldsIf (Or.inl ⟨by rfl, ?_⟩)) hHeld ?_; rotate_left 1; focus (intro w; go_simp; try with_reducible rfl)); try simp only [Act.put, List.getElem_toArray, List.getElem_cons_zero, List.getElem_cons_succ, List.setIfInBounds_toArray, List.set_cons_zero, List.set_cons_succ])
  have HQ : Hid (Pure w7 w7.drew) := Lib.hid (Mod.refl _ _).drew
  ((refine wpAnyH_ready (rs := [4]) (by kernel_rfl) (by simp) ?_; refine AllReadyH.cons rfl (fun K hK => ?_) AllReadyH.nil; go_simp; refine Calls.mono HCc5.out ?_; rintro e u1 ⟨rfl, D6, hs5, hg6, hm5⟩; have HSm := Lib.hid (r15same_ok ⟨HOwn.out.rd.frame hm5 (fun g hg => H8D.out g hg), HOwn.out.len⟩ ⟨(HT0.out.pure hs5.pu).rd, HT0.out.len⟩ HTN.out); refine hK.out _ _ ?_ (fun hHeld => ?_); (· exact HKm.out _ ((Mod.of_pure HQ.out).trans (hm5.mono (fun _ _ h => .inl h)))); clear hK K); try simp only [Act.put, List.getElem_toArray, List.getElem_cons_zero, List.getElem_cons_succ, List.setIfInBounds_toArray, List.set_cons_zero, List.set_cons_succ])
  ((refine wpAnyH_take (i := 6) (v := ?_) rfl (by kernel_rfl) (by kernel_rfl) (by kernel_rfl) (fun _ _ _ h => h) (Yields.yieldsIf (Or.inl ⟨by rfl, ?_⟩)) hHeld ?_; rotate_left 1; focus (intro w; go_simp; try with_reducible rfl)); try simp only [Act.put, List.getElem_toArray, List.getElem_cons_zero, List.getElem_cons_succ, List.setIfInBounds_toArray, List.set_cons_zero, List.set_cons_succ])
  ((refine wpAnyH_take (i := 7) (v := ?_) rfl (by kernel_rfl) (by kernel_rfl) (by kernel_rfl) (fun _ _ _ h => h) (Yields.yieldsIf (Or.inl ⟨by rfl, ?_⟩)) hHeld ?_; rotate_left 1; focus (intro w; go_simp; try with_reducible rfl)); try simp only [Act.put, List.getElem_toArray, List.getElem_cons_zero, List.getElem_cons_succ, List.setIfInBounds_toArray, List.set_cons_zero, List.set_cons_succ])
  ((refine wpAnyH_take (i := 8) (v := ?_) rfl (by kernel_rfl) (by kernel_rfl) (by kernel_rfl) (fun _ _ _ h => h) (Yields.yieldsIf (Or.inl ⟨by rfl, ?_⟩)) hHeld ?_; rotate_left 1; focus (intro w; go_simp; try with_reducible rfl)); try simp only [Act.put, List.getElem_toArray, List.getElem_cons_zero, List.getElem_cons_succ, List.setIfInBounds_toArray, List.set_cons_zero, List.set_cons_succ])
  ((refine wpAnyH_take (i := 9) (v := ?_) rfl (by kernel_rfl) (by kernel_rfl) (by kernel_rfl) (fun _ _ _ h => h) (Yields.yieldsIf (Or.inl ⟨by rfl, ?_⟩)) hHeld ?_; rotate_left 1; focus (intro w; go_simp; try with_reducible rfl)); try simp only [Act.put, List.getElem_toArray, List.getElem_cons_zero, List.getElem_cons_succ, List.setIfInBounds_toArray, List.set_cons_zero, List.set_cons_succ])
  ((refine wpAnyH_take (i := 10) (v := ?_) rfl (by kernel_rfl) (by kernel_rfl) (by kernel_rfl) (fun _ _ _ h => h) (Or.inl ⟨by rfl, ?_⟩) hHeld ?_; rotate_left 1; focus (intro w hS; obtain ⟨s0, s1, s2⟩ := hS; go_simp; try with_reducible rfl)); try simp only [Act.put, List.getElem_toArray, List.getElem_cons_zero, List.getElem_cons_succ, List.setIfInBounds_toArray, List.set_cons_zero, List.set_cons_succ])
  ((refine wpAnyH_ready (rs := [11]) (by kernel_rfl) (by simp) ?_; refine AllReadyH.cons rfl (fun K hK => ?_) AllReadyH.nil; go_simp; refine Calls.mono HSm.out ?_; rintro e u2 ⟨rfl, hp6⟩; refine hK.out _ _ ?_ (fun hHeld => ?_); (· exact HKm.out _ ((Mod.of_pure HQ.out).trans ((hm5.trans (Mod.of_pure hp6)).mono (fun _ _ h => .inl h)))); clear hK K); try simp only [Act.put, List.getElem_toArray, List.getElem_cons_zero, List.getElem_cons_succ, List.setIfInBounds_toArray, List.set_cons_zero, List.set_cons_succ])
  have hs6 := hs5.pure hp6
  have hm6 := hm5.trans (Mod.of_pure hp6)
  clear hs5 hm5 hp6
  have h26 := hm6.heap HN2.out ((HPx.out.trans HQ.out).heap (fun h => h) HB.out.h2)
  have HF := Lib.hid (HH.out.fin (HB.out.pure.trans (HPx.out.trans HQ.out)) (HRx.out.pure HQ.out) (HK4.out.mono HB.out.pure.size) hs6 hg6 hm6 HB.out.z2 (Nat.lt_of_lt_of_le HB2.out (HPx.out.trans HQ.out).size) HRb.out (.int .u64 now) (.slice a4 n c4))
  have HM6 := Lib.hid hm6
  clear hs6 hg6 hm6
  have h26_0 := cell_of_row _ _ 0 _ _ _ h26; have h26_1 := cell_of_row _ _ 1 _ _ _ h26; have h26_f := (fun j => frozen_of_row _ _ j _ _ h26); have h26_l := lt_of_block h26; simp at h26_0 h26_1; have H_h26 := Lib.hid h26; clear h26
  ((refine wpAnyH_take (i := 12) (v := ?_) rfl (by kernel_rfl) (by kernel_rfl) (by kernel_rfl) (fun _ _ _ h => h) (Yields.yieldsIf (Or.inl ⟨by rfl, ?_⟩)) hHeld ?_; rotate_left 1; focus (intro w; go_simp; try with_reducible rfl)); try simp only [Act.put, List.getElem_toArray, List.getElem_cons_zero, List.getElem_cons_succ, List.setIfInBounds_toArray, List.set_cons_zero, List.set_cons_succ])
  ((refine wpAnyH_take (i := 13) (v := ?_) rfl (by kernel_rfl) (by kernel_rfl) (by kernel_rfl) (fun _ _ _ h => h) (Yields.yieldsIf (Or.inl ⟨by rfl, ?_⟩)) hHeld ?_; rotate_left 1; focus (intro w; go_simp; try with_reducible rfl)); try simp only [Act.put, List.getElem_toArray, List.getElem_cons_zero, List.getElem_cons_succ, List.setIfInBounds_toArray, List.set_cons_zero, List.set_cons_succ])
  ((refine wpAnyH_ready (rs := [14]) (by kernel_rfl) (by simp) ?_; refine AllReadyH.cons rfl (fun K hK => ?_) AllReadyH.nil; go_simp; skip; refine hK.out _ _ ?_ (fun hHeld => ?_); (· exact HKm.out _ (((Mod.of_pure HQ.out).trans (HM6.out.mono (fun _ _ h => .inl h))).trans ((Mod.set2 b2 0 1 _ _).mono (fun _ _ h => .inr h)))); clear hK K); try simp only [Act.put, List.getElem_toArray, List.getElem_cons_zero, List.getElem_cons_succ, List.setIfInBounds_toArray, List.set_cons_zero, List.set_cons_succ])
  ((refine wpAnyH_take (i := 15) (v := ?_) rfl (by kernel_rfl) (by kernel_rfl) (by kernel_rfl) (fun _ _ _ h => h) (Yields.yieldsIf (Or.inl ⟨by rfl, ?_⟩)) hHeld ?_; rotate_left 1; focus (intro w; go_simp; try with_reducible rfl)); try simp only [Act.put, List.getElem_toArray, List.getElem_cons_zero, List.getElem_cons_succ, List.setIfInBounds_toArray, List.set_cons_zero, List.set_cons_succ])
  refine wpAnyH_done (by kernel_rfl) ?_ _
  clear hHeld
  go_wp2
  refine bodyPost_ret (v := .tuple #[lkP p, .agg #[.int .u64 now, .slice a4 n c4], .bool true]) (by simp [results, Tryz.results8, go_sem, h26_0, h26_1, h26_l]) rfl ⟨p, now, a4, n, c4, D6, Ln, rfl, HF.out.1, HF.out.2.1, HK4.out.mono HB.out.pure.size, HF.out.2.2⟩
end
end Go.Proofs.YtlalpenfgkfkpaaGreatDoor

/- law21.step: Copy. Conditions: the deadlines lie in memory, the reference's list is read. Printed by wip/gen_d21w.py. -/
namespace Go.Proofs.YtlalpenfgkfkpaaGreatDoor
open Go.RowKit Go.Shelf
set_option maxRecDepth 100000
section
variable {w0 w w5 w6 : World} {D D' : Nat → Prop} {p p' now now' n c n' c' b2 tt : Nat} {a a' : Option Addr} {L L' : List Td} {t : Act21}
theorem KnD.expireM3 (h : KnD w0 w D p now L) (ht : tt ≤ 18446744073709551615) :
    Calls Tryz.prog 15 #[lkP p, .int .u64 tt] w fun e w' => ∃ v, e = .returned v ∧ ∃ D' now' L', KnD w0 w' D' p now' L' ∧ grewD D D' w ∧ Mod D w w' := by
  refine (h.t.at_.expire h.t.tab h.t.off ht).mono ?_
  rintro e w' ⟨a1, c1, rfl, _, ⟨D', hc, hg, _⟩, hm⟩
  exact ⟨_, rfl, D', _, _, h.step hc hg hm, hg, hm⟩
theorem grD_step {Dc Dn : Nat → Prop} {s : Nat} {u : World} (hd : ∀ k, Dc k → D k ∨ s ≤ k) (hg : grewD Dc Dn u) (hu : s ≤ u.heap.size) : ∀ k, Dn k → D k ∨ s ≤ k := fun k hk => by
  rcases hg k hk with e | e
  · exact hd k e
  · exact .inr (by omega)
/-- Behind all that the old one went through. -/
theorem StD.copied {W1 v1 v4 : World} {D2 : Nat → Prop} {p2 : Nat} (h : StD w0 w p now a n c D L) (hp : Pure w W1) (hc : DueAt v1 D2 p2 now L) (hp1 : Pure W1 v1) (hf : ∀ k, D2 k → W1.heap.size ≤ k) (hm : Mod (fun k => D k ∨ v1.heap.size ≤ k) v1 v4) {b2 : Nat} (hb : w.heap.size ≤ b2) (hb2 : b2 < W1.heap.size) (v0 v1' : Value) :
    StPD w0 w a n c D (.returned (.tuple #[lkP p2, whV now a n c, .bool true])) ((v4.setCell ⟨b2, 0, none⟩ v0).setCell ⟨b2, 1, none⟩ v1') := by
  have s1 := hp.size; have s2 := hp1.size; have s0 := h.ks.pu.size
  have hD : ∀ k, D k → k < w.heap.size := fun k hk => h.ks.lt hk
  have hms := Mod.set2 (w := v4) b2 0 1 v0 v1'
  have h00 := h.ks.t.tab.lt
  have hall : Mod (fun k => D k ∨ w.heap.size ≤ k) w ((v4.setCell ⟨b2, 0, none⟩ v0).setCell ⟨b2, 1, none⟩ v1') :=
    ((Mod.of_pure (hp.trans hp1)).trans (hm.mono (fun k _ hk => by rcases hk with e | e; (· exact .inl e); (· exact .inr (by omega))))).trans (hms.mono (fun k _ hk => .inr (by omega)))
  have hc4 : DueAt v4 D2 p2 now L := hc.frame hm (fun k hk e => by
    rcases e with e | e
    · have := hD k e; have := hf k hk; omega
    · have := hc.lt hk; omega)
  refine ⟨p2, now, a, n, c, D2, L, rfl, ⟨⟨⟨hc4.frame hms (fun k hk e => by have := hf k hk; omega), h.ks.t.tab.mod hall (fun e => by rcases e with e | e; (· exact h.ks.t.off e); (· omega)), fun e => by have := hf 0 e; omega⟩, fun k hk => by have := hf k hk; omega, h.ks.pu.then hall (fun k hk e => by
    rcases e with e | e
    · have := h.ks.ge k e; omega
    · omega)⟩, h.rd.frame hall (fun g hg e => by
      rcases e with e | e
      · exact h.off g hg e
      · have := h.rd.lt hg; omega), fun g hg e => by have := h.rd.lt hg; have := hf g e; omega⟩, fun k hk => .inr (by have := hf k hk; omega), .inl ⟨rfl, rfl, rfl⟩, (Mod.refl _ w).then hall (fun k hk e => by
      rcases e with e | e
      · exact e
      · omega)⟩
set_option maxHeartbeats 2000000 in
theorem dstep_copy (h : StD w0 w p now a n c D L) (ht : A21Ok w0 t) (h0 : ∀ k : Int, 0 ≤ k → k ≤ 4 → t.what ≠ k) :
    Calls Tryz.prog 8 #[lkP p, whV now a n c, act21V t] w (StPD w0 w a n c D) := by
  unfold act21V
  have hst := h
  unfold whV
  obtain ⟨W1, b0, b1, b2, hW, e0, e1, e2, hB⟩ := boxD_ok (w := w) (now := now) (a := a) (n := n) (c := c) (t := t)
  unfold boxD at hW
  have hx := hB.cells (Mod.refl _ W1)
  have hw0 : (t.what == 0) = false := by simpa using h0 0 (by omega) (by omega)
  have hw1 : (t.what == 1) = false := by simpa using h0 1 (by omega) (by omega)
  have hw2 : (t.what == 2) = false := by simpa using h0 2 (by omega) (by omega)
  have hw3 : (t.what == 3) = false := by simpa using h0 3 (by omega) (by omega)
  have hw4 : (t.what == 4) = false := by simpa using h0 4 (by omega) (by omega)
  have hs1 := h.pure hB.pure
  have h64 := h.ks.t.at_.now64
  have hcp := hs1.ks.t.at_.copy
  obtain ⟨tt, hte⟩ : ∃ tt, now + min 50 (18446744073709551615 - now) = tt := ⟨_, rfl⟩
  have ht64 : tt ≤ 18446744073709551615 := by omega
  obtain ⟨d, hd⟩ : ∃ d : Nat, 18446744073709551615 - now = d := ⟨_, rfl⟩
  have hdI : (18446744073709551615 : Int) - (now : Int) = (d : Int) := by omega
  have wd : IntKind.u64.wrap (d : Int) = (d : Int) := by simp [IntKind.wrap, IntKind.signed, IntKind.bits]; omega
  have wt : IntKind.u64.wrap ((now : Int) + min (50 : Int) (d : Int)) = (tt : Int) := by
    have e : (now : Int) + min (50 : Int) (d : Int) = (tt : Int) := by omega
    rw [e]; simp [IntKind.wrap, IntKind.signed, IntKind.bits]; omega
  have HT64 := Lib.hid ht64
  have HB := Lib.hid hB; have HW := Lib.hid hW; have E0 := Lib.hid e0; have E1 := Lib.hid e1; have E2 := Lib.hid e2; have HH := Lib.hid hst; have HS1 := Lib.hid hs1; have HCp := Lib.hid hcp
  have HK := Lib.hid (fun (u : World) (hp : Pure W1 u) => hB.cells hp)
  clear hB hW e0 e1 e2 hs1 h hst h0 h64 ht64 hte hd hcp ht
  go_enter Tryz.func8, Tryz.ntmps8
  go_upto_region 1 with fail
  rw [HW.out, E2.out, E1.out, E0.out]
  clear HW E0 E1 E2
  obtain ⟨x0, x1, y0, y1, y2, y3, y4⟩ := hx
  go_upto_region 20 with (go_at_call 29; refine Calls.mono HCp.out ?_; rintro e v1 ⟨p2, D2, rfl, hc2, hp1, hf2⟩; have HC2 := Lib.hid hc2; have HP1 := Lib.hid hp1; have HF2 := Lib.hid hf2; clear hc2 hp1 hf2)
  clear x0 x1 y0 y1 y2 y3 y4 hw0 hw1 hw2 hw3 hw4 HCp
  have hsc := (HS1.out.ks.pure HP1.out).setM2 (s := 66) (dl := 18446744073709551615) (b := 1152921504606846976) (by decide) (by decide) (by decide)
  have HSc := Lib.hid hsc
  clear hsc
  go_upto_region 21 with (go_at_call 9; refine Calls.mono HSc.out ?_; rintro e v2 ⟨rfl, D3, hs3, hg3, hm3⟩; have HS3 := Lib.hid hs3; have HG3 := Lib.hid hg3; have HM3 := Lib.hid hm3; clear hs3 hg3 hm3)
  have hd3 := grD_step (fun k hk => .inl hk) HG3.out (Nat.le_refl _)
  have hM3 : Mod (fun k => D k ∨ v1.heap.size ≤ k) v1 v2 := HM3.out.mono (fun k _ hk => .inl hk)
  have hca := HS3.out.removeM2 (s := 0) (by omega)
  have HD3 := Lib.hid hd3; have HMa := Lib.hid hM3; have HCa := Lib.hid hca
  clear hd3 hM3 hca HSc
  go_upto_region 22 with (go_at_call 19; refine Calls.mono HCa.out ?_; rintro e v3 ⟨rfl, D4, hs4, hg4, hm4⟩; have HS4 := Lib.hid hs4; have HG4 := Lib.hid hg4; have HM4 := Lib.hid hm4; clear hs4 hg4 hm4)
  have hd4 := grD_step HD3.out HG4.out HMa.out.size
  have hM4 := HMa.out.trans (HM4.out.mono (fun k _ hk => HD3.out k hk))
  have HD4 := Lib.hid hd4; have HMb := Lib.hid hM4
  have HNo := Lib.hid HS4.out.t.at_.now_
  have HAd := Lib.hid (HS4.out.expireM3 HT64.out)
  clear hd4 hM4 HCa
  go_upto_region 23 with (first
    | (go_at_call 16; refine Calls.mono HNo.out ?_; rintro e w' ⟨rfl, rfl⟩)
    | (go_at_call 15; refine Calls.mono HAd.out ?_; rintro e v4 ⟨va, rfl, D5, now5, L5, hs5, hg5, hm5⟩
       have HM5 := Lib.hid hm5
       clear hs5 hg5 hm5))
  have hM5 := HMb.out.trans (HM5.out.mono (fun k _ hk => HD4.out k hk))
  have hlW : ∀ k, D k → k < w.heap.size := fun k hk => HH.out.ks.lt hk
  have hb2 := lt_of_block HB.out.h2
  have hb0 := lt_of_block HB.out.h0
  have hs1 := HP1.out.size
  have n0 : ¬ (D b0 ∨ v1.heap.size ≤ b0) := fun e => by
    rcases e with e | e
    · have := hlW _ e; have := HB.out.z0; omega
    · omega
  have n2 : ¬ (D b2 ∨ v1.heap.size ≤ b2) := fun e => by
    rcases e with e | e
    · have := hlW _ e; have := HB.out.z2; omega
    · omega
  have h04 := hM5.heap n0 (HP1.out.heap (fun h => h) HB.out.h0)
  have h24 := hM5.heap n2 (HP1.out.heap (fun h => h) HB.out.h2)
  have n02 := HB.out.ne02
  have hST := HH.out.copied HB.out.pure HC2.out HP1.out HF2.out hM5 HB.out.z2 hb2 (.int .u64 now) (.slice a n c)
  have HST := Lib.hid hST
  clear hM5 hlW hb2 hb0 hs1 n0 n2 hST HMb HMa
  have h04_0 := cell_of_row _ _ 0 _ _ _ h04; have h04_1 := cell_of_row _ _ 1 _ _ _ h04; have h04_f := (fun j => frozen_of_row _ _ j _ _ h04); have h04_l := lt_of_block h04; simp at h04_0 h04_1; have H_h04 := Lib.hid h04; clear h04
  have h24_0 := cell_of_row _ _ 0 _ _ _ h24; have h24_1 := cell_of_row _ _ 1 _ _ _ h24; have h24_f := (fun j => frozen_of_row _ _ j _ _ h24); have h24_l := lt_of_block h24; simp at h24_0 h24_1; have H_h24 := Lib.hid h24; clear h24
  go_region
  all_goals
    go_wp2
    refine bodyPost_ret (v := .tuple #[lkP p2, .agg #[.int .u64 now, .slice a n c], .bool true]) (by simp [results, Tryz.results8, go_sem, h24_0, h24_1, h24_l]) rfl ?_
    first | exact HST.out | exact HST.out.drew
end
end Go.Proofs.YtlalpenfgkfkpaaGreatDoor

/- law21.known: it returns true. Condition: the table of math/bits lies in memory. -/
namespace Go.Proofs.YtlalpenfgkfkpaaGreatDoor
open Go.RowKit
set_option maxRecDepth 100000
theorem num_lit {w : World} (l : List Nat) {n : Nat} (hn : l.length = n) : ReadAt (w.alloc (.cells (nums l).toArray 33)) (.slice (some ⟨w.heap.size, 0, none⟩) n n) 1 (nums l) := by
  have := ReadAt.of_block (w := w.alloc (.cells (nums l).toArray 33)) n n 1 (heap_new rfl) (by rw [List.toList_toArray, nums_length, hn, Nat.mul_one]) (by rw [List.toList_toArray]; exact nums_one l)
  exact this
theorem r1 : setR 10 [] 1 20 5 = 0 ∧ setL 10 [] 1 20 5 = [⟨1, 20, 5⟩] := ⟨by decide, rfl⟩
theorem r2 : setR 10 [⟨1, 20, 5⟩] 2 18446744073709551615 6 = 0 ∧ setL 10 [⟨1, 20, 5⟩] 2 18446744073709551615 6 = [⟨1, 20, 5⟩, ⟨2, 18446744073709551615, 6⟩] := ⟨by decide, rfl⟩
theorem r3 : setR 10 [⟨1, 20, 5⟩, ⟨2, 18446744073709551615, 6⟩] 3 20 2 = 0 ∧ setL 10 [⟨1, 20, 5⟩, ⟨2, 18446744073709551615, 6⟩] 3 20 2 = [⟨3, 20, 2⟩, ⟨1, 20, 5⟩, ⟨2, 18446744073709551615, 6⟩] := ⟨by decide, rfl⟩
theorem r4 : setR 10 [⟨3, 20, 2⟩, ⟨1, 20, 5⟩, ⟨2, 18446744073709551615, 6⟩] 4 15 9 = 0 ∧ setL 10 [⟨3, 20, 2⟩, ⟨1, 20, 5⟩, ⟨2, 18446744073709551615, 6⟩] 4 15 9 = [⟨4, 15, 9⟩, ⟨3, 20, 2⟩, ⟨1, 20, 5⟩, ⟨2, 18446744073709551615, 6⟩] := ⟨by decide, rfl⟩
theorem r5 : setR 10 [⟨4, 15, 9⟩, ⟨3, 20, 2⟩, ⟨1, 20, 5⟩, ⟨2, 18446744073709551615, 6⟩] 1 20 7 = 11 ∧ setL 10 [⟨4, 15, 9⟩, ⟨3, 20, 2⟩, ⟨1, 20, 5⟩, ⟨2, 18446744073709551615, 6⟩] 1 20 7 = [⟨4, 15, 9⟩, ⟨3, 20, 2⟩, ⟨1, 20, 5⟩, ⟨2, 18446744073709551615, 6⟩] := ⟨by decide, rfl⟩
theorem r6 : setR 10 [⟨4, 15, 9⟩, ⟨3, 20, 2⟩, ⟨1, 20, 5⟩, ⟨2, 18446744073709551615, 6⟩] 9 30 6 = 11 ∧ setL 10 [⟨4, 15, 9⟩, ⟨3, 20, 2⟩, ⟨1, 20, 5⟩, ⟨2, 18446744073709551615, 6⟩] 9 30 6 = [⟨4, 15, 9⟩, ⟨3, 20, 2⟩, ⟨1, 20, 5⟩, ⟨2, 18446744073709551615, 6⟩] := ⟨by decide, rfl⟩
theorem r7 : setR 10 [⟨4, 15, 9⟩, ⟨3, 20, 2⟩, ⟨1, 20, 5⟩, ⟨2, 18446744073709551615, 6⟩] 5 10 8 = 3 ∧ setL 10 [⟨4, 15, 9⟩, ⟨3, 20, 2⟩, ⟨1, 20, 5⟩, ⟨2, 18446744073709551615, 6⟩] 5 10 8 = [⟨4, 15, 9⟩, ⟨3, 20, 2⟩, ⟨1, 20, 5⟩, ⟨2, 18446744073709551615, 6⟩] := ⟨by decide, rfl⟩
theorem r8 : setR 10 [⟨4, 15, 9⟩, ⟨3, 20, 2⟩, ⟨1, 20, 5⟩, ⟨2, 18446744073709551615, 6⟩] 4 18446744073709551615 9 = 0 ∧ setL 10 [⟨4, 15, 9⟩, ⟨3, 20, 2⟩, ⟨1, 20, 5⟩, ⟨2, 18446744073709551615, 6⟩] 4 18446744073709551615 9 = [⟨3, 20, 2⟩, ⟨1, 20, 5⟩, ⟨2, 18446744073709551615, 6⟩, ⟨4, 18446744073709551615, 9⟩] := ⟨by decide, rfl⟩
theorem r9 : dueE 19 [⟨3, 20, 2⟩, ⟨1, 20, 5⟩, ⟨2, 18446744073709551615, 6⟩, ⟨4, 18446744073709551615, 9⟩] = [] ∧ restE 19 [⟨3, 20, 2⟩, ⟨1, 20, 5⟩, ⟨2, 18446744073709551615, 6⟩, ⟨4, 18446744073709551615, 9⟩] = [⟨3, 20, 2⟩, ⟨1, 20, 5⟩, ⟨2, 18446744073709551615, 6⟩, ⟨4, 18446744073709551615, 9⟩] := ⟨rfl, rfl⟩
theorem r10 : dueE 20 [⟨3, 20, 2⟩, ⟨1, 20, 5⟩, ⟨2, 18446744073709551615, 6⟩, ⟨4, 18446744073709551615, 9⟩] = [⟨3, 20, 2⟩, ⟨1, 20, 5⟩] ∧ restE 20 [⟨3, 20, 2⟩, ⟨1, 20, 5⟩, ⟨2, 18446744073709551615, 6⟩, ⟨4, 18446744073709551615, 9⟩] = [⟨2, 18446744073709551615, 6⟩, ⟨4, 18446744073709551615, 9⟩] := ⟨rfl, rfl⟩
theorem r11 : dueE 20 [⟨2, 18446744073709551615, 6⟩, ⟨4, 18446744073709551615, 9⟩] = [] ∧ restE 20 [⟨2, 18446744073709551615, 6⟩, ⟨4, 18446744073709551615, 9⟩] = [⟨2, 18446744073709551615, 6⟩, ⟨4, 18446744073709551615, 9⟩] := ⟨rfl, rfl⟩
theorem r12 : (getT [⟨2, 18446744073709551615, 6⟩, ⟨4, 18446744073709551615, 9⟩] 2).1.dl = 18446744073709551615 ∧ (getT [⟨2, 18446744073709551615, 6⟩, ⟨4, 18446744073709551615, 9⟩] 2).1.birth = 6 ∧ (getT [⟨2, 18446744073709551615, 6⟩, ⟨4, 18446744073709551615, 9⟩] 2).2 = 0 := ⟨by decide, by decide, by decide⟩
theorem r13 : renR [0, 0, 7, 0, 2] [⟨2, 18446744073709551615, 6⟩, ⟨4, 18446744073709551615, 9⟩] = 0 ∧ renM [0, 0, 7, 0, 2] [⟨2, 18446744073709551615, 6⟩, ⟨4, 18446744073709551615, 9⟩] = [⟨7, 18446744073709551615, 6⟩, ⟨2, 18446744073709551615, 9⟩] := ⟨by decide, rfl⟩
theorem r14 : (getT [⟨7, 18446744073709551615, 6⟩, ⟨2, 18446744073709551615, 9⟩] 7).1.dl = 18446744073709551615 ∧ (getT [⟨7, 18446744073709551615, 6⟩, ⟨2, 18446744073709551615, 9⟩] 7).1.birth = 6 ∧ (getT [⟨7, 18446744073709551615, 6⟩, ⟨2, 18446744073709551615, 9⟩] 7).2 = 0 := ⟨by decide, by decide, by decide⟩
theorem r15 : (getT [⟨7, 18446744073709551615, 6⟩, ⟨2, 18446744073709551615, 9⟩] 4).1.dl = 0 ∧ (getT [⟨7, 18446744073709551615, 6⟩, ⟨2, 18446744073709551615, 9⟩] 4).1.birth = 0 ∧ (getT [⟨7, 18446744073709551615, 6⟩, ⟨2, 18446744073709551615, 9⟩] 4).2 = 9 := ⟨by decide, by decide, by decide⟩
theorem r16 : (getT [⟨7, 18446744073709551615, 6⟩, ⟨2, 18446744073709551615, 9⟩] 2).2 = 0 ∧ canL [⟨7, 18446744073709551615, 6⟩, ⟨2, 18446744073709551615, 9⟩] 2 = [⟨7, 18446744073709551615, 6⟩] := ⟨by decide, rfl⟩
theorem r17 : (getT [⟨7, 18446744073709551615, 6⟩] 2).2 = 9 ∧ canL [⟨7, 18446744073709551615, 6⟩] 2 = [⟨7, 18446744073709551615, 6⟩] := ⟨by decide, rfl⟩
theorem r18 : dueE 18446744073709551615 [⟨7, 18446744073709551615, 6⟩] = [] ∧ restE 18446744073709551615 [⟨7, 18446744073709551615, 6⟩] = [⟨7, 18446744073709551615, 6⟩] := ⟨rfl, rfl⟩
set_option maxHeartbeats 4000000 in
theorem known21_ok (w : World) (hT : TabW w) : Calls Tryz.prog 5 #[] w fun e w' => e = .returned (.bool true) ∧ Pure w w' := by
  have HN := Lib.hid (KnD.new (now := 10) hT (by decide))
  clear hT
  have U1 : True := trivial
  have U2 : True := trivial
  have U3 : True := trivial
  have U4 : True := trivial
  have U5 : True := trivial
  have U6 : True := trivial
  have HX1 : Hid (∀ W, Calls Tryz.prog 12 #[.int .u32 4, .int .u64 15, .int .u64 9] W fun e w' => e = .returned (.agg #[.int .u32 4, .int .u64 15, .int .u64 9]) ∧ Pure W w') := Lib.hid (fun W => timed21_ok 4 15 9 W)
  have HX2 : Hid (∀ W, Calls Tryz.prog 12 #[.int .u32 3, .int .u64 20, .int .u64 2] W fun e w' => e = .returned (.agg #[.int .u32 3, .int .u64 20, .int .u64 2]) ∧ Pure W w') := Lib.hid (fun W => timed21_ok 3 20 2 W)
  have HX3 : Hid (∀ W, Calls Tryz.prog 12 #[.int .u32 1, .int .u64 20, .int .u64 5] W fun e w' => e = .returned (.agg #[.int .u32 1, .int .u64 20, .int .u64 5]) ∧ Pure W w') := Lib.hid (fun W => timed21_ok 1 20 5 W)
  have HX4 : Hid (∀ W, Calls Tryz.prog 12 #[.int .u32 2, .int .u64 18446744073709551615, .int .u64 6] W fun e w' => e = .returned (.agg #[.int .u32 2, .int .u64 18446744073709551615, .int .u64 6]) ∧ Pure W w') := Lib.hid (fun W => timed21_ok 2 18446744073709551615 6 W)
  have HX5 : Hid (∀ W, Calls Tryz.prog 12 #[.int .u32 3, .int .u64 20, .int .u64 2] W fun e w' => e = .returned (.agg #[.int .u32 3, .int .u64 20, .int .u64 2]) ∧ Pure W w') := Lib.hid (fun W => timed21_ok 3 20 2 W)
  have HX6 : Hid (∀ W, Calls Tryz.prog 12 #[.int .u32 1, .int .u64 20, .int .u64 5] W fun e w' => e = .returned (.agg #[.int .u32 1, .int .u64 20, .int .u64 5]) ∧ Pure W w') := Lib.hid (fun W => timed21_ok 1 20 5 W)
  have T1 : True := trivial
  have T2 : True := trivial
  have T3 : True := trivial
  have T4 : True := trivial
  have T5 : True := trivial
  have T6 : True := trivial
  have T7 : True := trivial
  have T8 : True := trivial
  have T9 : True := trivial
  have T10 : True := trivial
  have T11 : True := trivial
  have T12 : True := trivial
  have T13 : True := trivial
  have T14 : True := trivial
  have T15 : True := trivial
  have T16 : True := trivial
  have T17 : True := trivial
  have T18 : True := trivial
  go_enter Tryz.func5, Tryz.ntmps5
  go_upto_region 2 with (go_at_call 6; refine Calls.mono HN.out ?_; rintro e w1 ⟨p, D, rfl, hs⟩; have HS := Lib.hid hs; clear hs)
  go_upto_region 4 with (first
    | (go_at_call 9; clear T1; refine Calls.mono (HS.out.set (s := 1) (dl := 20) (b := 5) (by decide) (by decide) (by decide) r1.1 r1.2) ?_; rintro e w' ⟨rfl, D', hs⟩; replace HS := Lib.hid hs; clear hs)
    | (go_at_call 9; clear T2; refine Calls.mono (HS.out.set (s := 2) (dl := 18446744073709551615) (b := 6) (by decide) (by decide) (by decide) r2.1 r2.2) ?_; rintro e w' ⟨rfl, D', hs⟩; replace HS := Lib.hid hs; clear hs)
    | (go_at_call 9; clear T3; refine Calls.mono (HS.out.set (s := 3) (dl := 20) (b := 2) (by decide) (by decide) (by decide) r3.1 r3.2) ?_; rintro e w' ⟨rfl, D', hs⟩; replace HS := Lib.hid hs; clear hs)
    | (go_at_call 9; clear T4; refine Calls.mono (HS.out.set (s := 4) (dl := 15) (b := 9) (by decide) (by decide) (by decide) r4.1 r4.2) ?_; rintro e w' ⟨rfl, D', hs⟩; replace HS := Lib.hid hs; clear hs)
    | (go_at_call 9; clear T5; refine Calls.mono (HS.out.set (s := 1) (dl := 20) (b := 7) (by decide) (by decide) (by decide) r5.1 r5.2) ?_; rintro e w' ⟨rfl, D', hs⟩; replace HS := Lib.hid hs; clear hs)
    | (go_at_call 9; clear T6; refine Calls.mono (HS.out.set (s := 9) (dl := 30) (b := 6) (by decide) (by decide) (by decide) r6.1 r6.2) ?_; rintro e w' ⟨rfl, D', hs⟩; replace HS := Lib.hid hs; clear hs)
    | (go_at_call 9; clear T7; refine Calls.mono (HS.out.set (s := 5) (dl := 10) (b := 8) (by decide) (by decide) (by decide) r7.1 r7.2) ?_; rintro e w' ⟨rfl, D', hs⟩; replace HS := Lib.hid hs; clear hs))
  go_upto_region 6 with (first
    | (go_at_call 11; refine Calls.mono (HS.out.all (n := 4) rfl) ?_; rintro e w' ⟨a, c, rfl, hw, hs⟩; replace HS := Lib.hid hs; have HW := Lib.hid hw; clear hs hw)
    | (go_at_call 12; clear U1; refine Calls.mono (HX1.out _) ?_; rintro e w' ⟨rfl, hp⟩; replace HS := Lib.hid (HS.out.pure hp); (try replace HW := Lib.hid (HW.out.pure hp)); clear hp)
    | (go_at_call 12; clear U2; refine Calls.mono (HX2.out _) ?_; rintro e w' ⟨rfl, hp⟩; replace HS := Lib.hid (HS.out.pure hp); (try replace HW := Lib.hid (HW.out.pure hp)); clear hp)
    | (go_at_call 12; clear U3; refine Calls.mono (HX3.out _) ?_; rintro e w' ⟨rfl, hp⟩; replace HS := Lib.hid (HS.out.pure hp); (try replace HW := Lib.hid (HW.out.pure hp)); clear hp)
    | (go_at_call 12; clear U4; refine Calls.mono (HX4.out _) ?_; rintro e w' ⟨rfl, hp⟩; replace HS := Lib.hid (HS.out.pure hp); (try replace HW := Lib.hid (HW.out.pure hp)); clear hp)
    | (go_at_call 10; refine Calls.mono (rsame_ok (L := [⟨4, 15, 9⟩, ⟨3, 20, 2⟩, ⟨1, 20, 5⟩, ⟨2, 18446744073709551615, 6⟩]) (HW.out.pure ((Mod.refl _ _).alloc _)).rd (lit_read [⟨4, 15, 9⟩, ⟨3, 20, 2⟩, ⟨1, 20, 5⟩, ⟨2, 18446744073709551615, 6⟩] (n := 4) rfl) rfl (by decide)) ?_; rintro e w' ⟨rfl, hp⟩; have hp := ((Mod.refl (fun _ => False) _).alloc _).trans hp; replace HS := Lib.hid (HS.out.pure hp); clear HW hp)
    | (go_at_call 13; refine Calls.mono (HS.out.lens (a := 4) (b := 3) rfl rfl) ?_; rintro e w' ⟨rfl, hs⟩; replace HS := Lib.hid hs; clear hs)
    | (go_at_call 14; refine Calls.mono (HS.out.next (n := 15) rfl) ?_; rintro e w' ⟨rfl, hs⟩; replace HS := Lib.hid hs; clear hs))
  go_upto_region 8 with (first
    | (go_at_call 9; clear T8; refine Calls.mono (HS.out.set (s := 4) (dl := 18446744073709551615) (b := 9) (by decide) (by decide) (by decide) r8.1 r8.2) ?_; rintro e w' ⟨rfl, D', hs⟩; replace HS := Lib.hid hs; clear hs)
    | (go_at_call 15; clear T9; refine Calls.mono (HS.out.expire (t0 := 19) (by decide) (now' := 19) (n := 0) (by decide) r9.1 r9.2 rfl) ?_; rintro e w' ⟨a, c, rfl, hw, D', hs⟩; replace HS := Lib.hid hs; clear hs hw)
    | (go_at_call 15; clear T10; refine Calls.mono (HS.out.expire (t0 := 20) (by decide) (now' := 20) (n := 2) (by decide) r10.1 r10.2 rfl) ?_; rintro e w' ⟨a, c, rfl, hw, D', hs⟩; replace HS := Lib.hid hs; have HW := Lib.hid hw; clear hs hw)
    | (go_at_call 12; clear U5; refine Calls.mono (HX5.out _) ?_; rintro e w' ⟨rfl, hp⟩; replace HS := Lib.hid (HS.out.pure hp); (try replace HW := Lib.hid (HW.out.pure hp)); clear hp)
    | (go_at_call 12; clear U6; refine Calls.mono (HX6.out _) ?_; rintro e w' ⟨rfl, hp⟩; replace HS := Lib.hid (HS.out.pure hp); (try replace HW := Lib.hid (HW.out.pure hp)); clear hp)
    | (go_at_call 10; refine Calls.mono (rsame_ok (L := [⟨3, 20, 2⟩, ⟨1, 20, 5⟩]) (HW.out.pure ((Mod.refl _ _).alloc _)).rd (lit_read [⟨3, 20, 2⟩, ⟨1, 20, 5⟩] (n := 2) rfl) rfl (by decide)) ?_; rintro e w' ⟨rfl, hp⟩; have hp := ((Mod.refl (fun _ => False) _).alloc _).trans hp; replace HS := Lib.hid (HS.out.pure hp); clear HW hp)
    | (go_at_call 16; refine Calls.mono HS.out.now_ ?_; rintro e w' ⟨rfl, hs⟩; replace HS := Lib.hid hs; clear hs)
    | (go_at_call 15; clear T11; refine Calls.mono (HS.out.expire (t0 := 5) (by decide) (now' := 20) (n := 0) (by decide) r11.1 r11.2 rfl) ?_; rintro e w' ⟨a, c, rfl, hw, D', hs⟩; replace HS := Lib.hid hs; clear hs hw)
    | (go_at_call 17; clear T12; refine Calls.mono (HS.out.gets (s := 2) (dl := 18446744073709551615) (b := 6) (by decide) r12.1 r12.2.1 r12.2.2) ?_; rintro e w' ⟨rfl, hs⟩; replace HS := Lib.hid hs; clear hs))
  go_wp2_with (first
    | (go_at_call 18; refine Calls.mono ((HS.out.pure ((Mod.refl _ _).alloc _)).renumber (tv := [0, 0, 7, 0, 2]) (n0 := 5) (num_lit [0, 0, 7, 0, 2] rfl) rfl (by decide) (by decide) r13.1 r13.2) ?_; rintro e w' ⟨rfl, D', hs⟩; replace HS := Lib.hid hs; clear hs)
    | (go_at_call 17; clear T14; refine Calls.mono (HS.out.gets (s := 7) (dl := 18446744073709551615) (b := 6) (by decide) r14.1 r14.2.1 r14.2.2) ?_; rintro e w' ⟨rfl, hs⟩; replace HS := Lib.hid hs; clear hs)
    | (go_at_call 17; clear T15; refine Calls.mono (HS.out.gets (s := 4) (dl := 0) (b := 0) (by decide) r15.1 r15.2.1 r15.2.2) ?_; rintro e w' ⟨rfl, hs⟩; replace HS := Lib.hid hs; clear hs)
    | (go_at_call 19; clear T16; refine Calls.mono (HS.out.remove (s := 2) (by decide) r16.1 r16.2) ?_; rintro e w' ⟨rfl, D', hs⟩; replace HS := Lib.hid hs; clear hs)
    | (go_at_call 19; clear T17; refine Calls.mono (HS.out.remove (s := 2) (by decide) r17.1 r17.2) ?_; rintro e w' ⟨rfl, D', hs⟩; replace HS := Lib.hid hs; clear hs)
    | (go_at_call 15; clear T18; refine Calls.mono (HS.out.expire (t0 := 18446744073709551615) (by decide) (now' := 18446744073709551615) (n := 0) (by decide) r18.1 r18.2 rfl) ?_; rintro e w' ⟨a, c, rfl, hw, D', hs⟩; replace HS := Lib.hid hs; clear hs hw)
    | (go_at_call 13; refine Calls.mono (HS.out.lens (a := 1) (b := 0) rfl rfl) ?_; rintro e w' ⟨rfl, hs⟩; replace HS := Lib.hid hs; clear hs))
  go_ret
  exact ⟨rfl, HS.out.pu⟩
end Go.Proofs.YtlalpenfgkfkpaaGreatDoor

/- law21.step in one; law21.DuePlays: it returns true. Condition: the table of math/bits lies in memory, the acts are read. Printed by wip/gen_d21x.py. -/
namespace Go.Proofs.YtlalpenfgkfkpaaGreatDoor
open Go.RowKit Go.Shelf
set_option maxRecDepth 100000
section
variable {w0 w wr w5 w6 w7 : World} {D D' : Nat → Prop} {p p' now now' n c n' c' b b9 tt : Nat} {a a' : Option Addr} {L L' : List Td} {t : Act21} {es : List Act21}
theorem dstep_ok (h : StD w0 w p now a n c D L) (ht : A21Ok w0 t) (h100 : t.tn ≤ 100) : Calls Tryz.prog 8 #[lkP p, whV now a n c, act21V t] w (StPD w0 w a n c D) := by
  by_cases h0 : t.what = 0
  · exact dstep_set h ht h0
  by_cases h1 : t.what = 1
  · exact dstep_remove h ht h1
  by_cases h2 : t.what = 2
  · exact dstep_exp2 h ht h2
  by_cases h3 : t.what = 3
  · exact dstep_exp3 h ht h3
  by_cases h4 : t.what = 4
  · exact dstep_ren h ht h4 h100
  exact dstep_copy h ht (fun k k0 k5 e => by omega)
structure JmD (w0 wr : World) (p now b : Nat) (a : Option Addr) (n c : Nat) (D : Nat → Prop) (L : List Td) : Prop where
  ks : KnD w0 wr D p now L
  rd : RdL wr a n c L
  off : ∀ g, rdBlock (.slice a n c) = some g → ¬ D g ∧ g ≠ b
  box : wr.heap[b]? = some (.cells #[.int .u64 now, .slice a n c] 31 (0, 0))
  nb : ¬ D b
  bw : w0.heap.size ≤ b
  w00 : 0 < w0.heap.size
theorem JmD.pure (h : JmD w0 wr p now b a n c D L) (hp : Pure wr w5) : JmD w0 w5 p now b a n c D L :=
  ⟨h.ks.pure hp, h.rd.pure hp, h.off, hp.heap (fun h => h) h.box, h.nb, h.bw, h.w00⟩
theorem JmD.st (h : JmD w0 wr p now b a n c D L) : StD w0 wr p now a n c D L := ⟨h.ks, h.rd, fun g hg => (h.off g hg).1⟩
theorem JmD.stepped (h : JmD w0 wr p now b a n c D L) (hp : Pure wr w5) (hS : StD w0 w6 p' now' a' n' c' D' L') (hg : grewD D D' w5) (hk : Kept w5 a n c a' n' c') (hm : Mod D w5 w6) (hp7 : Pure w6 w7) :
    JmD w0 ((w7.setCell ⟨b, 0, none⟩ (.int .u64 now')).setCell ⟨b, 1, none⟩ (.slice a' n' c')) p' now' b a' n' c' D' L' := by
  have hbl := lt_of_block h.box
  have hsz := hp.size
  have nb' : ¬ D' b := fun hd => by
    rcases hg b hd with e | e
    · exact h.nb e
    · omega
  have ne : ∀ g, rdBlock (.slice a' n' c') = some g → g ≠ b := fun g hg' => by
    rcases hk.rd hg' with e | e
    · exact (h.off g e).2
    · omega
  have hms := Mod.set2 (w := w7) b 0 1 (.int .u64 now') (.slice a' n' c')
  have hS7 := hS.pure hp7
  exact ⟨⟨hS7.ks.t.frame hms (fun k hk e => by subst e; exact nb' hk) (fun e => by have := h.bw; have := h.w00; omega), hS7.ks.ge, hS7.ks.pu.then hms (fun k hk e => by have := h.bw; omega)⟩, hS7.rd.frame hms ne, fun g hg' => ⟨hS.off g hg', ne g hg'⟩, heap_set12 (hp7.heap (fun h => h) (hm.heap h.nb (hp.heap (fun h => h) h.box))), nb', h.bw, h.w00⟩
/-- Behind a step, the reference's deadlines in a new block. -/
structure StXD (w0 wr wx : World) (a : Option Addr) (n c : Nat) (D : Nat → Prop) (p' b9 now' : Nat) (a' : Option Addr) (n' c' : Nat) (D' : Nat → Prop) (L' : List Td) : Prop where
  st : StD w0 wx p' now' a' n' c' D' L'
  gr : grewD D D' wr
  kp : Kept wr a n c a' n' c'
  mo : Mod D wr wx
  hp : wx.heap[b9]? = some (.cells #[.int .u64 now', .slice a' n' c'] 31 (0, 0))
  nd : ¬ D' b9
  ge : wr.heap.size ≤ b9
theorem StXD.last (h5 : Pure wr w5) (hst : StD w0 w6 p' now' a' n' c' D' L') (hg : grewD D D' w5) (hk : Kept w5 a n c a' n' c') (hm : Mod D w5 w6) (hlt : ∀ k, D k → k < wr.heap.size) :
    StXD w0 wr (w6.alloc (.cells #[.int .u64 now', .slice a' n' c'] 31)) a n c D p' w6.heap.size now' a' n' c' D' L' := by
  have pa := (Mod.refl (fun _ => False) w6).alloc (.cells #[.int .u64 now', .slice a' n' c'] 31)
  have s1 := h5.size; have s2 := hm.size
  exact ⟨hst.pure pa, fun k hk => by rcases hg k hk with e | e; (· exact .inl e); (· exact .inr (by omega)), hk.mono s1, ((Mod.of_pure h5).trans hm).trans (Mod.of_pure pa), heap_new rfl, fun hd => by have := hst.ks.lt hd; omega, by omega⟩
theorem StXD.first (h5 : Pure wr w5) (h9 : w5.heap[b9]? = some (.cells #[.int .u64 0, .slice none 0 0] 31 (0, 0))) (hge : wr.heap.size ≤ b9) (hst : StD w0 w6 p' now' a' n' c' D' L') (hg : grewD D D' w5) (hk : Kept w5 a n c a' n' c') (hm : Mod D w5 w6) (hlt : ∀ k, D k → k < wr.heap.size) (hra : ∀ g, rdBlock (.slice a n c) = some g → g < wr.heap.size) (hw0 : w0.heap.size ≤ wr.heap.size) (h00 : 0 < wr.heap.size) :
    StXD w0 wr ((w6.setCell ⟨b9, 0, none⟩ (.int .u64 now')).setCell ⟨b9, 1, none⟩ (.slice a' n' c')) a n c D p' b9 now' a' n' c' D' L' := by
  have s1 := h5.size; have s2 := hm.size
  have hb := lt_of_block h9
  have nd : ¬ D' b9 := fun hd => by
    rcases hg b9 hd with e | e
    · have := hlt _ e; omega
    · omega
  have nd0 : ¬ D b9 := fun hd => by have := hlt _ hd; omega
  have hms := Mod.set2 (w := w6) b9 0 1 (.int .u64 now') (.slice a' n' c')
  refine ⟨⟨⟨hst.ks.t.frame hms (fun k hk e => by subst e; exact nd hk) (fun e => by omega), hst.ks.ge, hst.ks.pu.then hms (fun k hk e => by omega)⟩, hst.rd.frame hms (fun g hg' e => ?_), hst.off⟩, fun k hk => by rcases hg k hk with e | e; (· exact .inl e); (· exact .inr (by omega)), hk.mono s1, ((Mod.of_pure h5).trans hm).then hms (fun k hk e => by omega), heap_set12 (hm.heap nd0 h9), nd, hge⟩
  rcases hk.rd hg' with e' | e'
  · have := hra g e'; omega
  · omega
end
set_option maxHeartbeats 4000000 in
theorem DuePlays_true (w : World) (hT : TabW w) (now : Nat) (hnow : now < 18446744073709551616) (a : Option Addr) (c : Nat) (es : List Act21) (hr : ReadAt w (.slice a es.length c) 5 (es.flatMap act21C)) (hok : ∀ t ∈ es, A21Ok w t) (hl63 : es.length ≤ 9223372036854775807) :
    Calls Tryz.prog 3 #[.int .u64 now, .slice a es.length c] w fun e w' => e = .returned (.bool true) ∧ Pure w w' := by
  have HKn := Lib.hid (fun (W : World) (hW : Pure w W) => known21_ok W (hT.pure hW))
  have HT0 := Lib.hid hT.lt
  have HNw := Lib.hid (fun (W : World) (hW : Pure w W) => KnD.new (hT.pure hW) hnow)
  obtain ⟨n, hn⟩ : ∃ n, es.length = n := ⟨_, rfl⟩
  rw [hn] at hr hl63 ⊢
  have HFw := Lib.hid (few21_ok hr hn hok)
  have HR := Lib.hid hr; have HN := Lib.hid hn; have HOK := Lib.hid hok
  clear hr hn hok
  go_enter Tryz.func3, Tryz.ntmps3
  go_upto_region 1 with fail
  go_cut [13] (fun v wx => ∃ f : Bool, v = .bool f ∧ (f = false → ∀ t ∈ es, t.tn ≤ 100) ∧ Pure w wx)
  case first =>
    go_wp2_with (go_at_call 4; refine Calls.mono HFw.out ?_; rintro e w2 ⟨⟨f, rfl, hf⟩, rfl⟩; have HFf := Lib.hid hf; clear hf)
    go_meet
    exact ⟨!f, rfl, fun e => (HFf.out (by simpa using e)).2, Mod.refl _ _⟩
  case rest =>
    obtain ⟨f, rfl, h100, hpf⟩ := hcut
    have H100 := Lib.hid h100
    clear h100
    obtain ⟨wF, hwF⟩ : ∃ x, x = wc := ⟨_, rfl⟩
    subst hwF
    have HPf := Lib.hid hpf
    clear hpf HFw
    cases f with
    | true =>
      go_wp2_with (go_at_call 5; refine Calls.mono (HKn.out _ HPf.out) ?_; rintro e w2 ⟨rfl, hp2⟩)
      go_ret
      exact ⟨rfl, HPf.out.trans hp2⟩
    | false =>
      go_upto_region 5 with (go_at_call 6; refine Calls.mono (HNw.out _ HPf.out) ?_; rintro e w1 ⟨p, D, rfl, hs⟩; have HS := Lib.hid hs; clear hs)
      have hal : Pure w1 (w1.alloc (.cells #[.int .u64 now, .slice none 0 0] 31)) := (Mod.refl _ w1).alloc _
      have hbx := heap_new (w := w1) (o := .cells #[.int .u64 now, .slice none 0 0] 31 (0, 0)) rfl
      obtain ⟨b, hb⟩ : ∃ b, w1.heap.size = b := ⟨_, rfl⟩
      rw [hb] at hbx ⊢
      generalize w1.alloc (.cells #[.int .u64 now, .slice none 0 0] 31) = W1 at *
      have hwc := HPf.out.size
      have hj0 : JmD wF W1 p now b none 0 0 D [] := ⟨HS.out.pure hal, ⟨ReadAt.nil _ _, rfl, Nat.le_refl _, fun _ => rfl⟩, fun g hg => (by cases hg), hbx, fun hd => by have := HS.out.lt hd; omega, by have := HS.out.pu.size; omega, by have := HT0.out; omega⟩
      have his := is21_ok (s := 0) hj0.ks.t hj0.rd (by omega)
      unfold whV at his
      have HIs := Lib.hid his
      obtain ⟨x0, x1⟩ := whbox hbx
      have HJ0 := Lib.hid hj0
      clear hal hbx hb hj0 HNw HS his
      go_upto_region 8 with (go_at_call 7; refine Calls.mono HIs.out ?_; rintro e w2 ⟨rfl, hp2⟩; have HJ1 := Lib.hid (HJ0.out.pure hp2); clear hp2)
      clear x0 x1 HIs HJ0
      go_loopw [5, 7] (fun v5 v7 wr => ∃ (i p nw : Nat) (an : Option Addr) (nn cn : Nat) (D : Nat → Prop) (L : List Td), v7 = .int .i64 (i : Nat) ∧ i ≤ n ∧ v5 = lkP p ∧ JmD wF wr p nw b an nn cn D L) (fun _ v7 _ => n - (intOf v7).toNat)
      case atStart => exact ⟨0, p, now, none, 0, 0, D, [], rfl, Nat.zero_le _, rfl, HJ1.out⟩
      case round =>
        clear HJ1
        obtain ⟨i, p, nw, an, nn, cn, D1, L, rfl, hi, rfl, hI⟩ := hrel
        have HI := Lib.hid hI
        clear hI
        by_cases hlt : i < n
        · have hlt' : (i : Int) < (n : Int) := by omega
          have i0 : (0 : Int) ≤ (i : Int) := by omega
          have wi : IntKind.i64.wrap ((i : Int) + 1) = (i : Int) + 1 := IntWalk.i64_in _ (by omega)
          obtain ⟨t, ht⟩ : ∃ t, es[i]? = some t := ⟨_, List.getElem?_eq_getElem (by rw [HN.out]; exact hlt)⟩
          have hto := (HOK.out t (List.mem_of_getElem? ht)).pure HPf.out
          have h100 := H100.out (by simp) t (List.mem_of_getElem? ht)
          obtain ⟨ad, had, ⟨z0, z1, z2, z3⟩, z4⟩ := act21_read (HR.out.frame (HPf.out.trans HI.out.ks.pu) (fun _ _ h => h)) ht
          subst had
          have hadl : ad.block < wF.heap.size := by
            have h1 : rdBlock (.slice (some ad) n c) = some ad.block := by simp [rdBlock]; omega
            have := HR.out.lt (by decide) h1
            omega
          have hlW : ∀ k, D1 k → k < wr.heap.size := fun k hk => HI.out.ks.lt hk
          have nad : ¬ D1 ad.block := fun hd => by have := HI.out.ks.ge _ hd; omega
          obtain ⟨x0, x1⟩ := whbox HI.out.box
          have hx : wr.cell? ⟨b, 0, none⟩ = some (.int .u64 nw) ∧ wr.cell? ⟨b, 1, none⟩ = some (.slice an nn cn) ∧ wr.cell? (ad.add (i * 5)) = some (.int .i64 t.what) ∧ wr.cell? ⟨(ad.add (i * 5)).block, (ad.add (i * 5)).off + 1, none⟩ = some (.int .u32 t.slot) ∧ wr.cell? ⟨(ad.add (i * 5)).block, (ad.add (i * 5)).off + 2, none⟩ = some (.int .u64 t.birth) ∧ wr.cell? ⟨(ad.add (i * 5)).block, (ad.add (i * 5)).off + 3, none⟩ = some (.int .u64 t.time) ∧ wr.cell? ⟨(ad.add (i * 5)).block, (ad.add (i * 5)).off + 4, none⟩ = some (.slice t.ta t.tn t.tc) := ⟨x0, x1, z0, z1, z2, z3, z4⟩
          have hkm : ∀ u, Mod (fun k => D1 k ∨ wr.heap.size ≤ k) wr u → u.cell? ⟨b, 0, none⟩ = some (.int .u64 nw) ∧ u.cell? ⟨b, 1, none⟩ = some (.slice an nn cn) ∧ u.cell? (ad.add (i * 5)) = some (.int .i64 t.what) ∧ u.cell? ⟨(ad.add (i * 5)).block, (ad.add (i * 5)).off + 1, none⟩ = some (.int .u32 t.slot) ∧ u.cell? ⟨(ad.add (i * 5)).block, (ad.add (i * 5)).off + 2, none⟩ = some (.int .u64 t.birth) ∧ u.cell? ⟨(ad.add (i * 5)).block, (ad.add (i * 5)).off + 3, none⟩ = some (.int .u64 t.time) ∧ u.cell? ⟨(ad.add (i * 5)).block, (ad.add (i * 5)).off + 4, none⟩ = some (.slice t.ta t.tn t.tc) := fun u hm => by
            have nb : ¬ (D1 b ∨ wr.heap.size ≤ b) := fun e => by
              rcases e with e | e
              · exact HI.out.nb e
              · have := lt_of_block HI.out.box; omega
            have na : ¬ (D1 ad.block ∨ wr.heap.size ≤ ad.block) := fun e => by
              rcases e with e | e
              · exact nad e
              · have := HI.out.ks.pu.size; omega
            have na' : ¬ (D1 (ad.add (i * 5)).block ∨ wr.heap.size ≤ (ad.add (i * 5)).block) := by rw [addr_block]; exact na
            exact ⟨hm.cell nb x0, hm.cell nb x1, hm.cell na' z0, hm.cell na' z1, hm.cell na' z2, hm.cell na' z3, hm.cell na' z4⟩
          have hst := fun (W : World) (hp : Pure wr W) => dstep_ok (HI.out.st.pure hp) hto h100
          unfold whV act21V at hst
          have HX := Lib.hid hx; have HKm := Lib.hid hkm; have HSt := Lib.hid hst; have HTO := Lib.hid hto; have HLW := Lib.hid hlW
          have HT := Lib.hid ht
          clear ht hto h100 z0 z1 z2 z3 z4 x0 x1 hx hkm hst hadl nad hlW
          go_upto_region 10 with fail
          go_cut [8, 9, 10] (fun v8 v9 v10 wx => ∃ (p' b9 nw' : Nat) (a' : Option Addr) (n' c' : Nat) (D' : Nat → Prop) (L' : List Td), v8 = lkP p' ∧ v9 = .pointer (some ⟨b9, 0, none⟩) ∧ v10 = .bool true ∧ StXD wF wr wx an nn cn D1 p' b9 nw' a' n' c' D' L')
          case first =>
            refine wp_region_held_drew (S := fun u => u.cell? ⟨b, 0, none⟩ = some (.int .u64 nw) ∧ u.cell? ⟨b, 1, none⟩ = some (.slice an nn cn) ∧ u.cell? (ad.add (i * 5)) = some (.int .i64 t.what) ∧ u.cell? ⟨(ad.add (i * 5)).block, (ad.add (i * 5)).off + 1, none⟩ = some (.int .u32 t.slot) ∧ u.cell? ⟨(ad.add (i * 5)).block, (ad.add (i * 5)).off + 2, none⟩ = some (.int .u64 t.birth) ∧ u.cell? ⟨(ad.add (i * 5)).block, (ad.add (i * 5)).off + 3, none⟩ = some (.int .u64 t.time) ∧ u.cell? ⟨(ad.add (i * 5)).block, (ad.add (i * 5)).off + 4, none⟩ = some (.slice t.ta t.tn t.tc)) (by kernel_rfl) HX.out (fun hHeld => ?_)
            ((refine wpAnyH_take (i := 0) (v := ?_) rfl (by kernel_rfl) (by kernel_rfl) (by kernel_rfl) (fun _ _ _ h => h) (Yields.yieldsIf (Or.inl ⟨by rfl, ?_⟩)) hHeld ?_; rotate_left 1; focus (intro w; go_simp; try with_reducible rfl)); try simp only [Act.put, List.getElem_toArray, List.getElem_cons_zero, List.getElem_cons_succ, List.setIfInBounds_toArray, List.set_cons_zero, List.set_cons_succ])
            ((refine wpAnyH_take (i := 1) (v := ?_) rfl (by kernel_rfl) (by kernel_rfl) (by kernel_rfl) (fun _ _ _ h => h) (Or.inl ⟨by rfl, ?_⟩) hHeld ?_; rotate_left 1; focus (intro w hS; obtain ⟨s0, s1, s2, s3, s4, s5, s6⟩ := hS; go_simp; try with_reducible rfl)); try simp only [Act.put, List.getElem_toArray, List.getElem_cons_zero, List.getElem_cons_succ, List.setIfInBounds_toArray, List.set_cons_zero, List.set_cons_succ])
            ((refine wpAnyH_take (i := 2) (v := ?_) rfl (by kernel_rfl) (by kernel_rfl) (by kernel_rfl) (fun _ _ _ h => h) (Yields.yieldsIf (Or.inl ⟨by rfl, ?_⟩)) hHeld ?_; rotate_left 1; focus (intro w; go_simp; try with_reducible rfl)); try simp only [Act.put, List.getElem_toArray, List.getElem_cons_zero, List.getElem_cons_succ, List.setIfInBounds_toArray, List.set_cons_zero, List.set_cons_succ])
            ((refine wpAnyH_take (i := 3) (v := ?_) rfl (by kernel_rfl) (by kernel_rfl) (by kernel_rfl) (fun _ _ _ h => h) (Yields.yieldsIf (Or.inl ⟨by rfl, ?_⟩)) hHeld ?_; rotate_left 1; focus (intro w; go_simp; try with_reducible rfl)); try simp only [Act.put, List.getElem_toArray, List.getElem_cons_zero, List.getElem_cons_succ, List.setIfInBounds_toArray, List.set_cons_zero, List.set_cons_succ])
            ((refine wpAnyH_take (i := 4) (v := ?_) rfl (by kernel_rfl) (by kernel_rfl) (by kernel_rfl) (fun _ _ _ h => h) (Yields.yieldsIf (Or.inl ⟨by rfl, ?_⟩)) hHeld ?_; rotate_left 1; focus (intro w; go_simp; try with_reducible rfl)); try simp only [Act.put, List.getElem_toArray, List.getElem_cons_zero, List.getElem_cons_succ, List.setIfInBounds_toArray, List.set_cons_zero, List.set_cons_succ])
            ((refine wpAnyH_take (i := 5) (v := ?_) rfl (by kernel_rfl) (by kernel_rfl) (by kernel_rfl) (fun _ _ _ h => h) (Or.inl ⟨by rfl, ?_⟩) hHeld ?_; rotate_left 1; focus (intro w hS; obtain ⟨s0, s1, s2, s3, s4, s5, s6⟩ := hS; go_simp; try with_reducible rfl)); try simp only [Act.put, List.getElem_toArray, List.getElem_cons_zero, List.getElem_cons_succ, List.setIfInBounds_toArray, List.set_cons_zero, List.set_cons_succ])
            have hdr : Pure wr wr.drew := (Mod.refl _ _).drew
            have HDr := Lib.hid hdr
            refine wpAnyH_ready (rs := [6, 11]) (by kernel_rfl) (by simp) ?_
            refine AllReadyH.cons rfl (fun K hK => ?_) (AllReadyH.cons rfl (fun K hK => ?_) AllReadyH.nil)
            · go_simp
              refine Calls.mono (HSt.out _ hdr) ?_
              rintro e u6 ⟨p', nw', a', n', c', D', L', rfl, hst, hg, hk, hm⟩
              unfold whV
              have hm' : Mod D1 wr u6 := (Mod.of_pure hdr).trans hm
              have HM := Lib.hid (hm'.mono (S' := fun k => D1 k ∨ wr.heap.size ≤ k) (fun _ _ h => .inl h))
              have HStXD := Lib.hid (StXD.last (wr := wr) hdr hst hg hk hm HLW.out)
              clear hm hm' hst hg hk
              refine hK.out _ _ (HKm.out _ HM.out) (fun hHeld => ?_)
              clear hK K
              (try simp only [Act.put, List.getElem_toArray, List.getElem_cons_zero, List.getElem_cons_succ, List.setIfInBounds_toArray, List.set_cons_zero, List.set_cons_succ])
              ((refine wpAnyH_take (i := 7) (v := ?_) rfl (by kernel_rfl) (by kernel_rfl) (by kernel_rfl) (fun _ _ _ h => h) (Yields.yieldsIf (Or.inl ⟨by rfl, ?_⟩)) hHeld ?_; rotate_left 1; focus (intro w; go_simp; try with_reducible rfl)); try simp only [Act.put, List.getElem_toArray, List.getElem_cons_zero, List.getElem_cons_succ, List.setIfInBounds_toArray, List.set_cons_zero, List.set_cons_succ])
              ((refine wpAnyH_take (i := 8) (v := ?_) rfl (by kernel_rfl) (by kernel_rfl) (by kernel_rfl) (fun _ _ _ h => h) (Yields.yieldsIf (Or.inl ⟨by rfl, ?_⟩)) hHeld ?_; rotate_left 1; focus (intro w; go_simp; try with_reducible rfl)); try simp only [Act.put, List.getElem_toArray, List.getElem_cons_zero, List.getElem_cons_succ, List.setIfInBounds_toArray, List.set_cons_zero, List.set_cons_succ])
              ((refine wpAnyH_take (i := 9) (v := ?_) rfl (by kernel_rfl) (by kernel_rfl) (by kernel_rfl) (fun _ _ _ h => h) (Yields.yieldsIf (Or.inl ⟨by rfl, ?_⟩)) hHeld ?_; rotate_left 1; focus (intro w; go_simp; try with_reducible rfl)); try simp only [Act.put, List.getElem_toArray, List.getElem_cons_zero, List.getElem_cons_succ, List.setIfInBounds_toArray, List.set_cons_zero, List.set_cons_succ])
              ((refine wpAnyH_take (i := 10) (v := ?_) rfl (by kernel_rfl) (by kernel_rfl) (by kernel_rfl) (fun _ _ _ h => h) (Yields.yieldsIf (Or.inl ⟨by rfl, ?_⟩)) hHeld ?_; rotate_left 1; focus (intro w; go_simp; try with_reducible rfl)); try simp only [Act.put, List.getElem_toArray, List.getElem_cons_zero, List.getElem_cons_succ, List.setIfInBounds_toArray, List.set_cons_zero, List.set_cons_succ])
              have hz := heap_new (w := u6) (o := .cells #[.int .u64 0, .slice none 0 0] 31 (0, 0)) rfl
              have hka := HKm.out _ (HM.out.trans (Mod.of_pure ((Mod.refl _ u6).alloc (.cells #[.int .u64 0, .slice none 0 0] 31))))
              have hkb := HKm.out _ (HM.out.trans (Mod.of_pure ((Mod.refl _ u6).alloc (.cells #[.int .u64 nw', .slice a' n' c'] 31))))
              have HKb := Lib.hid hkb
              refine wpAnyH_ready (rs := [11]) (by kernel_rfl) (by simp) ?_
              refine AllReadyH.cons rfl (fun K hK => ?_) AllReadyH.nil
              go_simp
              refine hK.out _ _ hka (fun hHeld => ?_)
              clear hK K hka hkb
              (try simp only [Act.put, List.getElem_toArray, List.getElem_cons_zero, List.getElem_cons_succ, List.setIfInBounds_toArray, List.set_cons_zero, List.set_cons_succ])
              obtain ⟨b9, hb9⟩ : ∃ b, u6.heap.size = b := ⟨_, rfl⟩
              rw [hb9] at hz HStXD ⊢
              have hz_0 := cell_of_row _ _ 0 _ _ _ hz; have hz_1 := cell_of_row _ _ 1 _ _ _ hz; have hz_f := (fun j => frozen_of_row _ _ j _ _ hz); have hz_l := lt_of_block hz; simp at hz_0 hz_1; have H_hz := Lib.hid hz; clear hz
              ((refine wpAnyH_take (i := 12) (v := ?_) rfl (by kernel_rfl) (by kernel_rfl) (by kernel_rfl) (fun _ _ _ h => h) (Yields.yieldsIf (Or.inl ⟨by rfl, ?_⟩)) hHeld ?_; rotate_left 1; focus (intro w; go_simp; try with_reducible rfl)); try simp only [Act.put, List.getElem_toArray, List.getElem_cons_zero, List.getElem_cons_succ, List.setIfInBounds_toArray, List.set_cons_zero, List.set_cons_succ])
              ((refine wpAnyH_ready (rs := [13]) (by kernel_rfl) (by simp) ?_; refine AllReadyH.cons rfl (fun K hK => ?_) AllReadyH.nil; go_simp; skip; refine hK.out _ _ ?_ (fun hHeld => ?_); (· exact HKb.out); clear hK K); try simp only [Act.put, List.getElem_toArray, List.getElem_cons_zero, List.getElem_cons_succ, List.setIfInBounds_toArray, List.set_cons_zero, List.set_cons_succ])
              ((refine wpAnyH_take (i := 14) (v := ?_) rfl (by kernel_rfl) (by kernel_rfl) (by kernel_rfl) (fun _ _ _ h => h) (Yields.yieldsIf (Or.inl ⟨by rfl, ?_⟩)) hHeld ?_; rotate_left 1; focus (intro w; go_simp; try with_reducible rfl)); try simp only [Act.put, List.getElem_toArray, List.getElem_cons_zero, List.getElem_cons_succ, List.setIfInBounds_toArray, List.set_cons_zero, List.set_cons_succ])
              refine wpAnyH_done (by kernel_rfl) ?_ _
              (try go_wp2)
              go_meet
              exact ⟨p', b9, nw', a', n', c', D', L', rfl, rfl, rfl, HStXD.out⟩
            · go_simp
              have r3 := hdr.alloc (.cells #[.int .u64 0, .slice none 0 0] 31)
              have hz := heap_new (w := wr.drew) (o := .cells #[.int .u64 0, .slice none 0 0] 31 (0, 0)) rfl
              replace hz : (wr.drew.alloc (.cells #[.int .u64 0, .slice none 0 0] 31)).heap[wr.heap.size]? = some (.cells #[.int .u64 0, .slice none 0 0] 31 (0, 0)) := hz
              have HR3 := Lib.hid r3; have HZ := Lib.hid hz
              refine hK.out _ _ (HKm.out _ (Mod.of_pure r3)) (fun hHeld => ?_)
              clear hK K hz r3
              (try simp only [Act.put, List.getElem_toArray, List.getElem_cons_zero, List.getElem_cons_succ, List.setIfInBounds_toArray, List.set_cons_zero, List.set_cons_succ])
              refine wpAnyH_ready (rs := [6]) (by kernel_rfl) (by simp) ?_
              refine AllReadyH.cons rfl (fun K hK => ?_) AllReadyH.nil
              go_simp
              refine Calls.mono (HSt.out _ HR3.out) ?_
              rintro e u6 ⟨p', nw', a', n', c', D', L', rfl, hst, hg, hk, hm⟩
              unfold whV
              have hm' : Mod D1 wr u6 := (Mod.of_pure HR3.out).trans hm
              have hz6 := hm.heap (fun hd => by have := HLW.out _ hd; omega) HZ.out
              obtain ⟨b9, hb9⟩ : ∃ b, wr.heap.size = b := ⟨_, rfl⟩
              have HM := Lib.hid (hm'.mono (S' := fun k => D1 k ∨ wr.heap.size ≤ k) (fun _ _ h => .inl h))
              have HStXD := Lib.hid (StXD.first (wr := wr) HR3.out HZ.out (Nat.le_refl _) hst hg hk hm HLW.out (fun g hg => HI.out.rd.lt hg) HI.out.ks.pu.size (by have := HT0.out; have := HPf.out.size; have := HI.out.ks.pu.size; omega))
              have HKb := Lib.hid (HKm.out _ (HM.out.trans ((Mod.set2 wr.heap.size 0 1 (.int .u64 nw') (.slice a' n' c')).mono (fun k _ hk => .inr (by omega)))))
              rw [hb9] at hz6 HStXD HKb ⊢
              clear hm hm' hst hg hk
              refine hK.out _ _ (HKm.out _ HM.out) (fun hHeld => ?_)
              clear hK K
              (try simp only [Act.put, List.getElem_toArray, List.getElem_cons_zero, List.getElem_cons_succ, List.setIfInBounds_toArray, List.set_cons_zero, List.set_cons_succ])
              ((refine wpAnyH_take (i := 7) (v := ?_) rfl (by kernel_rfl) (by kernel_rfl) (by kernel_rfl) (fun _ _ _ h => h) (Yields.yieldsIf (Or.inl ⟨by rfl, ?_⟩)) hHeld ?_; rotate_left 1; focus (intro w; go_simp; try with_reducible rfl)); try simp only [Act.put, List.getElem_toArray, List.getElem_cons_zero, List.getElem_cons_succ, List.setIfInBounds_toArray, List.set_cons_zero, List.set_cons_succ])
              ((refine wpAnyH_take (i := 8) (v := ?_) rfl (by kernel_rfl) (by kernel_rfl) (by kernel_rfl) (fun _ _ _ h => h) (Yields.yieldsIf (Or.inl ⟨by rfl, ?_⟩)) hHeld ?_; rotate_left 1; focus (intro w; go_simp; try with_reducible rfl)); try simp only [Act.put, List.getElem_toArray, List.getElem_cons_zero, List.getElem_cons_succ, List.setIfInBounds_toArray, List.set_cons_zero, List.set_cons_succ])
              ((refine wpAnyH_take (i := 9) (v := ?_) rfl (by kernel_rfl) (by kernel_rfl) (by kernel_rfl) (fun _ _ _ h => h) (Yields.yieldsIf (Or.inl ⟨by rfl, ?_⟩)) hHeld ?_; rotate_left 1; focus (intro w; go_simp; try with_reducible rfl)); try simp only [Act.put, List.getElem_toArray, List.getElem_cons_zero, List.getElem_cons_succ, List.setIfInBounds_toArray, List.set_cons_zero, List.set_cons_succ])
              ((refine wpAnyH_take (i := 10) (v := ?_) rfl (by kernel_rfl) (by kernel_rfl) (by kernel_rfl) (fun _ _ _ h => h) (Yields.yieldsIf (Or.inl ⟨by rfl, ?_⟩)) hHeld ?_; rotate_left 1; focus (intro w; go_simp; try with_reducible rfl)); try simp only [Act.put, List.getElem_toArray, List.getElem_cons_zero, List.getElem_cons_succ, List.setIfInBounds_toArray, List.set_cons_zero, List.set_cons_succ])
              have hz6_0 := cell_of_row _ _ 0 _ _ _ hz6; have hz6_1 := cell_of_row _ _ 1 _ _ _ hz6; have hz6_f := (fun j => frozen_of_row _ _ j _ _ hz6); have hz6_l := lt_of_block hz6; simp at hz6_0 hz6_1; have H_hz6 := Lib.hid hz6; clear hz6
              ((refine wpAnyH_take (i := 12) (v := ?_) rfl (by kernel_rfl) (by kernel_rfl) (by kernel_rfl) (fun _ _ _ h => h) (Yields.yieldsIf (Or.inl ⟨by rfl, ?_⟩)) hHeld ?_; rotate_left 1; focus (intro w; go_simp; try with_reducible rfl)); try simp only [Act.put, List.getElem_toArray, List.getElem_cons_zero, List.getElem_cons_succ, List.setIfInBounds_toArray, List.set_cons_zero, List.set_cons_succ])
              ((refine wpAnyH_ready (rs := [13]) (by kernel_rfl) (by simp) ?_; refine AllReadyH.cons rfl (fun K hK => ?_) AllReadyH.nil; go_simp; skip; refine hK.out _ _ ?_ (fun hHeld => ?_); (· exact HKb.out); clear hK K); try simp only [Act.put, List.getElem_toArray, List.getElem_cons_zero, List.getElem_cons_succ, List.setIfInBounds_toArray, List.set_cons_zero, List.set_cons_succ])
              ((refine wpAnyH_take (i := 14) (v := ?_) rfl (by kernel_rfl) (by kernel_rfl) (by kernel_rfl) (fun _ _ _ h => h) (Yields.yieldsIf (Or.inl ⟨by rfl, ?_⟩)) hHeld ?_; rotate_left 1; focus (intro w; go_simp; try with_reducible rfl)); try simp only [Act.put, List.getElem_toArray, List.getElem_cons_zero, List.getElem_cons_succ, List.setIfInBounds_toArray, List.set_cons_zero, List.set_cons_succ])
              refine wpAnyH_done (by kernel_rfl) ?_ _
              (try go_wp2)
              go_meet
              exact ⟨p', b9, nw', a', n', c', D', L', rfl, rfl, rfl, HStXD.out⟩
          case rest =>
            obtain ⟨p', b9, nw', a', n', c', D', L', rfl, rfl, rfl, hS⟩ := hcut
            have hbl := lt_of_block HI.out.box
            have hge9 := hS.ge
            have nbb : b ≠ b9 := by omega
            have hs12 := HKm.out wc (hS.mo.mono (fun _ _ h => .inl h))
            obtain ⟨v0, v1⟩ := whbox hS.hp
            have his := is21_ok (s := t.slot) hS.st.ks.t hS.st.rd HTO.out.s
            unfold whV at his
            have HIs := Lib.hid his; have HS := Lib.hid hS; have HNB := Lib.hid nbb
            have hx9 : ∀ u, Pure wc u → u.cell? ⟨b9, 0, none⟩ = some (.int .u64 nw') ∧ u.cell? ⟨b9, 1, none⟩ = some (.slice a' n' c') ∧ u.cell? ⟨(ad.add (i * 5)).block, (ad.add (i * 5)).off + 1, none⟩ = some (.int .u32 t.slot) := fun u hp =>
              ⟨hp.cell (fun h => h) v0, hp.cell (fun h => h) v1, hp.cell (fun h => h) hs12.2.2.2.1⟩
            have HX9 := Lib.hid hx9
            clear hbl hge9 nbb hs12 his hS hx9 v0 v1 HX HKm HSt
            go_upto_region 11 with fail
            refine wp_region_held_drew (S := fun u => u.cell? ⟨b9, 0, none⟩ = some (.int .u64 nw') ∧ u.cell? ⟨b9, 1, none⟩ = some (.slice a' n' c') ∧ u.cell? ⟨(ad.add (i * 5)).block, (ad.add (i * 5)).off + 1, none⟩ = some (.int .u32 t.slot)) (by kernel_rfl) (HX9.out wc (Mod.refl _ _)) (fun hHeld => ?_)
            ((refine wpAnyH_take (i := 0) (v := ?_) rfl (by kernel_rfl) (by kernel_rfl) (by kernel_rfl) (fun _ _ _ h => h) (Yields.yieldsIf (Or.inl ⟨by rfl, ?_⟩)) hHeld ?_; rotate_left 1; focus (intro w; go_simp; try with_reducible rfl)); try simp only [Act.put, List.getElem_toArray, List.getElem_cons_zero, List.getElem_cons_succ, List.setIfInBounds_toArray, List.set_cons_zero, List.set_cons_succ])
            ((refine wpAnyH_take (i := 1) (v := ?_) rfl (by kernel_rfl) (by kernel_rfl) (by kernel_rfl) (fun _ _ _ h => h) (Yields.yieldsIf (Or.inl ⟨by rfl, ?_⟩)) hHeld ?_; rotate_left 1; focus (intro w; go_simp; try with_reducible rfl)); try simp only [Act.put, List.getElem_toArray, List.getElem_cons_zero, List.getElem_cons_succ, List.setIfInBounds_toArray, List.set_cons_zero, List.set_cons_succ])
            ((refine wpAnyH_take (i := 2) (v := ?_) rfl (by kernel_rfl) (by kernel_rfl) (by kernel_rfl) (fun _ _ _ h => h) (Yields.yieldsIf (Or.inl ⟨by rfl, ?_⟩)) hHeld ?_; rotate_left 1; focus (intro w; go_simp; try with_reducible rfl)); try simp only [Act.put, List.getElem_toArray, List.getElem_cons_zero, List.getElem_cons_succ, List.setIfInBounds_toArray, List.set_cons_zero, List.set_cons_succ])
            ((refine wpAnyH_take (i := 3) (v := ?_) rfl (by kernel_rfl) (by kernel_rfl) (by kernel_rfl) (fun _ _ _ h => h) (Yields.yieldsIf (Or.inl ⟨by rfl, ?_⟩)) hHeld ?_; rotate_left 1; focus (intro w; go_simp; try with_reducible rfl)); try simp only [Act.put, List.getElem_toArray, List.getElem_cons_zero, List.getElem_cons_succ, List.setIfInBounds_toArray, List.set_cons_zero, List.set_cons_succ])
            ((refine wpAnyH_take (i := 4) (v := ?_) rfl (by kernel_rfl) (by kernel_rfl) (by kernel_rfl) (fun _ _ _ h => h) (Yields.yieldsIf (Or.inl ⟨by rfl, ?_⟩)) hHeld ?_; rotate_left 1; focus (intro w; go_simp; try with_reducible rfl)); try simp only [Act.put, List.getElem_toArray, List.getElem_cons_zero, List.getElem_cons_succ, List.setIfInBounds_toArray, List.set_cons_zero, List.set_cons_succ])
            ((refine wpAnyH_take (i := 5) (v := ?_) rfl (by kernel_rfl) (by kernel_rfl) (by kernel_rfl) (fun _ _ _ h => h) (Yields.yieldsIf (Or.inl ⟨by rfl, ?_⟩)) hHeld ?_; rotate_left 1; focus (intro w; go_simp; try with_reducible rfl)); try simp only [Act.put, List.getElem_toArray, List.getElem_cons_zero, List.getElem_cons_succ, List.setIfInBounds_toArray, List.set_cons_zero, List.set_cons_succ])
            ((refine wpAnyH_take (i := 6) (v := ?_) rfl (by kernel_rfl) (by kernel_rfl) (by kernel_rfl) (fun _ _ _ h => h) (Yields.yieldsIf (Or.inl ⟨by rfl, ?_⟩)) hHeld ?_; rotate_left 1; focus (intro w; go_simp; try with_reducible rfl)); try simp only [Act.put, List.getElem_toArray, List.getElem_cons_zero, List.getElem_cons_succ, List.setIfInBounds_toArray, List.set_cons_zero, List.set_cons_succ])
            ((refine wpAnyH_take (i := 7) (v := ?_) rfl (by kernel_rfl) (by kernel_rfl) (by kernel_rfl) (fun _ _ _ h => h) (Yields.yieldsIf (Or.inl ⟨by rfl, ?_⟩)) hHeld ?_; rotate_left 1; focus (intro w; go_simp; try with_reducible rfl)); try simp only [Act.put, List.getElem_toArray, List.getElem_cons_zero, List.getElem_cons_succ, List.setIfInBounds_toArray, List.set_cons_zero, List.set_cons_succ])
            ((refine wpAnyH_take (i := 8) (v := ?_) rfl (by kernel_rfl) (by kernel_rfl) (by kernel_rfl) (fun _ _ _ h => h) (Or.inl ⟨by rfl, ?_⟩) hHeld ?_; rotate_left 1; focus (intro w hS; obtain ⟨s0, s1, s2⟩ := hS; go_simp; try with_reducible rfl)); try simp only [Act.put, List.getElem_toArray, List.getElem_cons_zero, List.getElem_cons_succ, List.setIfInBounds_toArray, List.set_cons_zero, List.set_cons_succ])
            ((refine wpAnyH_take (i := 9) (v := ?_) rfl (by kernel_rfl) (by kernel_rfl) (by kernel_rfl) (fun _ _ _ h => h) (Yields.yieldsIf (Or.inl ⟨by rfl, ?_⟩)) hHeld ?_; rotate_left 1; focus (intro w; go_simp; try with_reducible rfl)); try simp only [Act.put, List.getElem_toArray, List.getElem_cons_zero, List.getElem_cons_succ, List.setIfInBounds_toArray, List.set_cons_zero, List.set_cons_succ])
            ((refine wpAnyH_take (i := 10) (v := ?_) rfl (by kernel_rfl) (by kernel_rfl) (by kernel_rfl) (fun _ _ _ h => h) (Yields.yieldsIf (Or.inl ⟨by rfl, ?_⟩)) hHeld ?_; rotate_left 1; focus (intro w; go_simp; try with_reducible rfl)); try simp only [Act.put, List.getElem_toArray, List.getElem_cons_zero, List.getElem_cons_succ, List.setIfInBounds_toArray, List.set_cons_zero, List.set_cons_succ])
            ((refine wpAnyH_take (i := 11) (v := ?_) rfl (by kernel_rfl) (by kernel_rfl) (by kernel_rfl) (fun _ _ _ h => h) (Yields.yieldsIf (Or.inl ⟨by rfl, ?_⟩)) hHeld ?_; rotate_left 1; focus (intro w; go_simp; try with_reducible rfl)); try simp only [Act.put, List.getElem_toArray, List.getElem_cons_zero, List.getElem_cons_succ, List.setIfInBounds_toArray, List.set_cons_zero, List.set_cons_succ])
            ((refine wpAnyH_take (i := 12) (v := ?_) rfl (by kernel_rfl) (by kernel_rfl) (by kernel_rfl) (fun _ _ _ h => h) (Yields.yieldsIf (Or.inl ⟨by rfl, ?_⟩)) hHeld ?_; rotate_left 1; focus (intro w; go_simp; try with_reducible rfl)); try simp only [Act.put, List.getElem_toArray, List.getElem_cons_zero, List.getElem_cons_succ, List.setIfInBounds_toArray, List.set_cons_zero, List.set_cons_succ])
            ((refine wpAnyH_take (i := 13) (v := ?_) rfl (by kernel_rfl) (by kernel_rfl) (by kernel_rfl) (fun _ _ _ h => h) (Or.inl ⟨by rfl, ?_⟩) hHeld ?_; rotate_left 1; focus (intro w hS; obtain ⟨s0, s1, s2⟩ := hS; go_simp; try with_reducible rfl)); try simp only [Act.put, List.getElem_toArray, List.getElem_cons_zero, List.getElem_cons_succ, List.setIfInBounds_toArray, List.set_cons_zero, List.set_cons_succ])
            have hdr : Pure wc wc.drew := (Mod.refl _ _).drew
            have his := is21_ok (s := t.slot) (HS.out.st.ks.t.pure hdr) (HS.out.st.rd.pure hdr) HTO.out.s
            unfold whV at his
            have HIs2 := Lib.hid his; have HDR := Lib.hid hdr
            clear his hdr HIs
            ((refine wpAnyH_ready (rs := [14]) (by kernel_rfl) (by simp) ?_; refine AllReadyH.cons rfl (fun K hK => ?_) AllReadyH.nil; go_simp; refine Calls.mono HIs2.out ?_; rintro e u9 ⟨rfl, hq9⟩; refine hK.out _ _ ?_ (fun hHeld => ?_); (· exact HX9.out _ (HDR.out.trans hq9)); clear hK K); try simp only [Act.put, List.getElem_toArray, List.getElem_cons_zero, List.getElem_cons_succ, List.setIfInBounds_toArray, List.set_cons_zero, List.set_cons_succ])
            ((refine wpAnyH_take (i := 15) (v := ?_) rfl (by kernel_rfl) (by kernel_rfl) (by kernel_rfl) (fun _ _ _ h => h) (Yields.yieldsIf (Or.inl ⟨by rfl, ?_⟩)) hHeld ?_; rotate_left 1; focus (intro w; go_simp; try with_reducible rfl)); try simp only [Act.put, List.getElem_toArray, List.getElem_cons_zero, List.getElem_cons_succ, List.setIfInBounds_toArray, List.set_cons_zero, List.set_cons_succ])
            ((refine wpAnyH_take (i := 16) (v := ?_) rfl (by kernel_rfl) (by kernel_rfl) (by kernel_rfl) (fun _ _ _ h => h) (Yields.yieldsIf (Or.inl ⟨by rfl, ?_⟩)) hHeld ?_; rotate_left 1; focus (intro w; go_simp; try with_reducible rfl)); try simp only [Act.put, List.getElem_toArray, List.getElem_cons_zero, List.getElem_cons_succ, List.setIfInBounds_toArray, List.set_cons_zero, List.set_cons_succ])
            refine wpAnyH_done (by kernel_rfl) ?_ _
            clear hHeld
            have hp9 := HDR.out.trans hq9
            have h99 := hp9.heap (fun h => h) HS.out.hp
            have h0b := hp9.heap (fun h => h) (HS.out.mo.heap HI.out.nb HI.out.box)
            have hJ := HI.out.stepped (Mod.refl _ _) HS.out.st HS.out.gr HS.out.kp HS.out.mo hp9
            have HJ := Lib.hid hJ
            have nbb := HNB.out
            clear hq9 hp9 hJ HX9
            have h99_0 := cell_of_row _ _ 0 _ _ _ h99; have h99_1 := cell_of_row _ _ 1 _ _ _ h99; have h99_f := (fun j => frozen_of_row _ _ j _ _ h99); have h99_l := lt_of_block h99; simp at h99_0 h99_1; have H_h99 := Lib.hid h99; clear h99
            have h0b_0 := cell_of_row _ _ 0 _ _ _ h0b; have h0b_1 := cell_of_row _ _ 1 _ _ _ h0b; have h0b_f := (fun j => frozen_of_row _ _ j _ _ h0b); have h0b_l := lt_of_block h0b; simp at h0b_0 h0b_1; have H_h0b := Lib.hid h0b; clear h0b
            go_upto_region 13 with fail
            go_region
            all_goals
              go_wp2
              go_roundw
              case rel => exact ⟨i + 1, p', nw', a', n', c', D', L', by go_num, hlt, rfl, by first | exact HJ.out | exact HJ.out.pure (Mod.refl _ _).drew⟩
              case measure => simp [intOf]; omega
        · have hge : ¬ (i : Int) < (n : Int) := by omega
          have hpu := HPf.out.trans HI.out.ks.pu
          have HPu := Lib.hid hpu
          clear hpu
          go_wp2_with (go_at_call 5; refine Calls.mono (HKn.out _ HPu.out) ?_; rintro e w9 ⟨rfl, hp9⟩)
          go_ret
          exact ⟨rfl, HPu.out.trans hp9⟩
end Go.Proofs.YtlalpenfgkfkpaaGreatDoor
