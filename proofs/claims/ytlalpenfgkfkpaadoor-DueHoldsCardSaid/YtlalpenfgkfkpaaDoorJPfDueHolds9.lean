/- Lemmas and contracts of functions, strung together out of 10 texts. No condition. -/
import Derived.Test.YtlalpenfgkfkpaaDoorJPfDueHolds8
import Derived.Test.YtlalpenfgkfkpaaDoorJPfDueHolds7
/- due: put. Conditions: the deadlines lie in memory, the slot and the birth are new. -/
namespace Go.Proofs.YtlalpenfgkfkpaaDoor
open Go.RowKit Go.Shelf
set_option maxRecDepth 100000
section
variable {w w' : World} {D : Nat → Prop} {p now q bb bs : Nat} {Dc : Nat → Prop} {Db Ds : DataW Unit} {M L : List Td}
set_option maxHeartbeats 2000000 in
theorem dput_never (h : DueMem w D p now q bb bs Dc Db Ds M L) {x : Td} (hs : x.slot < 4194304) (hd : x.dl = 18446744073709551615) (hb : x.birth ≤ 18446744073709551615) (h1 : ∀ y ∈ M, y.slot ≠ x.slot) (h2 : ∀ y ∈ M, y.birth ≠ x.birth) (hMl : M.length < maxLen) :
    Calls Tryd.prog 71 #[lkP p, tdV x] w fun e w' => e = .returned (.tuple #[]) ∧ (∃ Db' Ds', DueMem w' D p now q bb bs Dc Db' Ds' (x :: M) L) ∧ Mod D w w' := by
  have hal : Pure w (w.alloc (.cells #[.int .u32 x.slot, .int .u64 x.dl, .int .u64 x.birth] 31)) := (Mod.refl _ w).alloc _
  have h3 := heap_new (w := w) (o := .cells #[.int .u32 x.slot, .int .u64 x.dl, .int .u64 x.birth] 31 (0, 0)) rfl
  have hD3 : ¬ D w.heap.size := fun e => by have := h.lt e; omega
  have HC := Lib.hid (h.pure hal)
  have H1 := Lib.hid h1; have H2 := Lib.hid h2; have HAL := Lib.hid hal; have HDD := Lib.hid h.dd
  have e0 : ((x.dl : Int) == 18446744073709551615) = true := by simp; omega
  clear hd
  obtain ⟨ne1, ne2, ne3⟩ := h.ne
  clear h h1 h2 hal
  unfold tdV
  go_enter Tryd.func71, Tryd.ntmps71
  go_upto_region 1 with fail
  generalize w.alloc (.cells #[.int .u32 x.slot, .int .u64 x.dl, .int .u64 x.birth] 31) = W1 at *
  obtain ⟨b3, hb3⟩ : ∃ b3, w.heap.size = b3 := ⟨_, rfl⟩
  rw [hb3] at h3 hD3 ⊢
  clear hb3
  obtain ⟨c0, c1, c2⟩ := HC.out.cells
  have H3 := Lib.hid h3
  have h3_0 := cell_of_row _ _ 0 _ _ _ h3; have h3_1 := cell_of_row _ _ 1 _ _ _ h3; have h3_2 := cell_of_row _ _ 2 _ _ _ h3; have h3_f := (fun j => frozen_of_row _ _ j _ _ h3); have h3_l := lt_of_block h3; simp at h3_0 h3_1 h3_2; have H_h3 := Lib.hid h3; clear h3
  go_upto_region 3 with fail
  refine wp_region_held_drew (S := fun u => (u.cell? ⟨p, 1, none⟩ = some (.map (some bb)) ∧ u.cell? ⟨p, 2, none⟩ = some (.map (some bs))) ∧ u.cell? ⟨b3, 0, none⟩ = some (.int .u32 x.slot) ∧ u.cell? ⟨b3, 1, none⟩ = some (.int .u64 x.dl) ∧ u.cell? ⟨b3, 2, none⟩ = some (.int .u64 x.birth)) (by kernel_rfl) ⟨⟨c1, c2⟩, h3_0, h3_1, h3_2⟩ (fun hHeld => ?_)
  ((refine wpAnyH_take (i := 0) (v := ?_) rfl (by kernel_rfl) (by kernel_rfl) (by kernel_rfl) (fun _ _ _ h => h) (Yields.yieldsIf (Or.inl ⟨by rfl, ?_⟩)) hHeld ?_; rotate_left 1; focus (intro w; go_simp; try with_reducible rfl)); try simp only [Act.put, List.getElem_toArray, List.getElem_cons_zero, List.getElem_cons_succ, List.setIfInBounds_toArray, List.set_cons_zero, List.set_cons_succ])
  ((refine wpAnyH_take (i := 1) (v := ?_) rfl (by kernel_rfl) (by kernel_rfl) (by kernel_rfl) (fun _ _ _ h => h) (Yields.yieldsIf (Or.inl ⟨by rfl, ?_⟩)) hHeld ?_; rotate_left 1; focus (intro w; go_simp; try with_reducible rfl)); try simp only [Act.put, List.getElem_toArray, List.getElem_cons_zero, List.getElem_cons_succ, List.setIfInBounds_toArray, List.set_cons_zero, List.set_cons_succ])
  ((refine wpAnyH_take (i := 2) (v := ?_) rfl (by kernel_rfl) (by kernel_rfl) (by kernel_rfl) (fun _ _ _ h => h) (Yields.yieldsIf (Or.inl ⟨by rfl, ?_⟩)) hHeld ?_; rotate_left 1; focus (intro w; go_simp; try with_reducible rfl)); try simp only [Act.put, List.getElem_toArray, List.getElem_cons_zero, List.getElem_cons_succ, List.setIfInBounds_toArray, List.set_cons_zero, List.set_cons_succ])
  ((refine wpAnyH_take (i := 3) (v := ?_) rfl (by kernel_rfl) (by kernel_rfl) (by kernel_rfl) (fun _ _ _ h => h) (Or.inl ⟨by rfl, ?_⟩) hHeld ?_; rotate_left 1; focus (intro w hS; obtain ⟨⟨s1, s2⟩, s3, s4, s5⟩ := hS; go_simp; try with_reducible rfl)); try simp only [Act.put, List.getElem_toArray, List.getElem_cons_zero, List.getElem_cons_succ, List.setIfInBounds_toArray, List.set_cons_zero, List.set_cons_succ])
  ((refine wpAnyH_take (i := 4) (v := ?_) rfl (by kernel_rfl) (by kernel_rfl) (by kernel_rfl) (fun _ _ _ h => h) (Yields.yieldsIf (Or.inl ⟨by rfl, ?_⟩)) hHeld ?_; rotate_left 1; focus (intro w; go_simp; try with_reducible rfl)); try simp only [Act.put, List.getElem_toArray, List.getElem_cons_zero, List.getElem_cons_succ, List.setIfInBounds_toArray, List.set_cons_zero, List.set_cons_succ])
  ((refine wpAnyH_take (i := 5) (v := ?_) rfl (by kernel_rfl) (by kernel_rfl) (by kernel_rfl) (fun _ _ _ h => h) (Or.inl ⟨by rfl, ?_⟩) hHeld ?_; rotate_left 1; focus (intro w hS; obtain ⟨⟨s1, s2⟩, s3, s4, s5⟩ := hS; go_simp; try with_reducible rfl)); try simp only [Act.put, List.getElem_toArray, List.getElem_cons_zero, List.getElem_cons_succ, List.setIfInBounds_toArray, List.set_cons_zero, List.set_cons_succ])
  ((refine wpAnyH_take (i := 6) (v := ?_) rfl (by kernel_rfl) (by kernel_rfl) (by kernel_rfl) (fun _ _ _ h => h) (Yields.yieldsIf (Or.inl ⟨by rfl, ?_⟩)) hHeld ?_; rotate_left 1; focus (intro w; go_simp; try with_reducible rfl)); try simp only [Act.put, List.getElem_toArray, List.getElem_cons_zero, List.getElem_cons_succ, List.setIfInBounds_toArray, List.set_cons_zero, List.set_cons_succ])
  ((refine wpAnyH_take (i := 7) (v := ?_) rfl (by kernel_rfl) (by kernel_rfl) (by kernel_rfl) (fun _ _ _ h => h) (Yields.yieldsIf (Or.inl ⟨by rfl, ?_⟩)) hHeld ?_; rotate_left 1; focus (intro w; go_simp; try with_reducible rfl)); try simp only [Act.put, List.getElem_toArray, List.getElem_cons_zero, List.getElem_cons_succ, List.setIfInBounds_toArray, List.set_cons_zero, List.set_cons_succ])
  ((refine wpAnyH_take (i := 8) (v := ?_) rfl (by kernel_rfl) (by kernel_rfl) (by kernel_rfl) (fun _ _ _ h => h) (Yields.yieldsIf (Or.inl ⟨by rfl, ?_⟩)) hHeld ?_; rotate_left 1; focus (intro w; go_simp; try with_reducible rfl)); try simp only [Act.put, List.getElem_toArray, List.getElem_cons_zero, List.getElem_cons_succ, List.setIfInBounds_toArray, List.set_cons_zero, List.set_cons_succ])
  ((refine wpAnyH_take (i := 9) (v := ?_) rfl (by kernel_rfl) (by kernel_rfl) (by kernel_rfl) (fun _ _ _ h => h) (Or.inl ⟨by rfl, ?_⟩) hHeld ?_; rotate_left 1; focus (intro w hS; obtain ⟨⟨s1, s2⟩, s3, s4, s5⟩ := hS; go_simp; try with_reducible rfl)); try simp only [Act.put, List.getElem_toArray, List.getElem_cons_zero, List.getElem_cons_succ, List.setIfInBounds_toArray, List.set_cons_zero, List.set_cons_succ])
  ((refine wpAnyH_take (i := 10) (v := ?_) rfl (by kernel_rfl) (by kernel_rfl) (by kernel_rfl) (fun _ _ _ h => h) (Yields.yieldsIf (Or.inl ⟨by rfl, ?_⟩)) hHeld ?_; rotate_left 1; focus (intro w; go_simp; try with_reducible rfl)); try simp only [Act.put, List.getElem_toArray, List.getElem_cons_zero, List.getElem_cons_succ, List.setIfInBounds_toArray, List.set_cons_zero, List.set_cons_succ])
  ((refine wpAnyH_take (i := 11) (v := ?_) rfl (by kernel_rfl) (by kernel_rfl) (by kernel_rfl) (fun _ _ _ h => h) (Or.inl ⟨by rfl, ?_⟩) hHeld ?_; rotate_left 1; focus (intro w hS; obtain ⟨⟨s1, s2⟩, s3, s4, s5⟩ := hS; go_simp; try with_reducible rfl)); try simp only [Act.put, List.getElem_toArray, List.getElem_cons_zero, List.getElem_cons_succ, List.setIfInBounds_toArray, List.set_cons_zero, List.set_cons_succ])
  ((refine wpAnyH_take (i := 12) (v := ?_) rfl (by kernel_rfl) (by kernel_rfl) (by kernel_rfl) (fun _ _ _ h => h) (Yields.yieldsIf (Or.inl ⟨by rfl, ?_⟩)) hHeld ?_; rotate_left 1; focus (intro w; go_simp; try with_reducible rfl)); try simp only [Act.put, List.getElem_toArray, List.getElem_cons_zero, List.getElem_cons_succ, List.setIfInBounds_toArray, List.set_cons_zero, List.set_cons_succ])
  ((refine wpAnyH_take (i := 13) (v := ?_) rfl (by kernel_rfl) (by kernel_rfl) (by kernel_rfl) (fun _ _ _ h => h) (Or.inl ⟨by rfl, ?_⟩) hHeld ?_; rotate_left 1; focus (intro w hS; obtain ⟨⟨s1, s2⟩, s3, s4, s5⟩ := hS; go_simp; try with_reducible rfl)); try simp only [Act.put, List.getElem_toArray, List.getElem_cons_zero, List.getElem_cons_succ, List.setIfInBounds_toArray, List.set_cons_zero, List.set_cons_succ])
  ((refine wpAnyH_take (i := 14) (v := ?_) rfl (by kernel_rfl) (by kernel_rfl) (by kernel_rfl) (fun _ _ _ h => h) (Or.inl ⟨by rfl, ?_⟩) hHeld ?_; rotate_left 1; focus (intro w hS; obtain ⟨⟨s1, s2⟩, s3, s4, s5⟩ := hS; go_simp; try with_reducible rfl)); try simp only [Act.put, List.getElem_toArray, List.getElem_cons_zero, List.getElem_cons_succ, List.setIfInBounds_toArray, List.set_cons_zero, List.set_cons_succ])
  obtain ⟨v0, st, Wa, o1, hE, hA, hgA, hS⟩ := own_entry HC.out.births.own.drew keyedB Tryd.underlying83 zeroN hMl (kB_of hb)
  have hmA : Mod (fun k => k = bb) W1 Wa := Mod.of_drew (Mod.of_grown hgA (fun k e _ => by cases e; rfl))
  obtain ⟨Wb, hEb, hownB, hgB⟩ := hS Wa (.int .u32 x.slot) _ _ hA (numElem_mk _)
  have hmB : Mod (fun k => k = bb) W1 Wb := hmA.trans (Mod.of_grown hgB (fun k e _ => by cases e; rfl))
  have hN := HC.out.births.put H2.out hownB
  have hT := HC.out.slots.mod hmB (fun e => ne3 e.symm)
  obtain ⟨v1, st2, Wc, o2, hEc, hC2, hgC, hS2⟩ := own_entry hT.own keyedS Tryd.underlying54 zeroTd hMl (kS_of (by omega : x.slot ≤ 4294967295))
  have hmC : Mod (fun k => k = bb ∨ k = bs) W1 Wc := (hmB.mono (fun _ _ h => .inl h)).trans (Mod.of_grown hgC (fun k e _ => by cases e; exact .inr rfl))
  obtain ⟨Wd, hEd, hownD, hgD⟩ := hS2 Wc (tdV x) _ _ hC2 (tdElem_mk x)
  unfold tdV at hEd
  have hmD : Mod (fun k => k = bb ∨ k = bs) W1 Wd := hmC.trans (Mod.of_grown hgD (fun k e _ => by cases e; exact .inr rfl))
  have hmBD : Mod (fun k => k = bs) Wb Wd := (Mod.of_grown hgC (fun k e _ => by cases e; rfl)).trans (Mod.of_grown hgD (fun k e _ => by cases e; rfl))
  have n3 : b3 ≠ bb ∧ b3 ≠ bs := ⟨fun e => hD3 ((HDD.out b3).2 (.inr (.inl e))), fun e => hD3 ((HDD.out b3).2 (.inr (.inr (.inl e))))⟩
  have hK : ∀ u, Mod (fun k => k = bb ∨ k = bs) W1 u → (u.cell? ⟨p, 1, none⟩ = some (.map (some bb)) ∧ u.cell? ⟨p, 2, none⟩ = some (.map (some bs))) ∧ u.cell? ⟨b3, 0, none⟩ = some (.int .u32 x.slot) ∧ u.cell? ⟨b3, 1, none⟩ = some (.int .u64 x.dl) ∧ u.cell? ⟨b3, 2, none⟩ = some (.int .u64 x.birth) := fun u hu =>
    ⟨⟨hu.cell (a := ⟨p, 1, none⟩) (fun e => by rcases e with e | e; exact ne1 e; exact ne2 e) c1, hu.cell (a := ⟨p, 2, none⟩) (fun e => by rcases e with e | e; exact ne1 e; exact ne2 e) c2⟩, hu.cell (a := ⟨b3, 0, none⟩) (fun e => by rcases e with e | e; exact n3.1 e; exact n3.2 e) h3_0, hu.cell (a := ⟨b3, 1, none⟩) (fun e => by rcases e with e | e; exact n3.1 e; exact n3.2 e) h3_1, hu.cell (a := ⟨b3, 2, none⟩) (fun e => by rcases e with e | e; exact n3.1 e; exact n3.2 e) h3_2⟩
  have gA := hK Wa (hmA.mono (fun _ _ h => .inl h)); have gB := hK Wb (hmB.mono (fun _ _ h => .inl h)); have gC := hK Wc hmC; have gD := hK Wd hmD
  have hT4 := hT.put H1.out hownD
  have hfin : DueMem Wd D p now q bb bs Dc (Db.put (kB x.birth) (nD x)) (Ds.put (kS x.slot) (tdD x)) (x :: M) L := ⟨hmD.heap (fun e => by rcases e with e | e; exact ne1 e; exact ne2 e) HC.out.box, HC.out.cas.frame hmD (fun k hk e => by rcases e with e | e; exact HC.out.nbb (e ▸ hk); exact HC.out.nbs (e ▸ hk)), hN.mod hmBD (fun e => ne3 e), hT4, HC.out.np, HC.out.nbb, HC.out.nbs, HC.out.ne, HC.out.dd⟩
  have hmo : Mod D W1 Wd := hmD.mono (fun k _ hk => by rcases hk with e | e; exact (HDD.out k).2 (.inr (.inl e)); exact (HDD.out k).2 (.inr (.inr (.inl e))))
  have HF := Lib.hid hfin; have HMO := Lib.hid hmo
  clear hfin hmo hT4 hK hmD hmBD hmC hmB hmA hT hN hownB hownD hgA hgB hgC hgD hS hS2 hA hC2
  ((refine wpAnyH_ready (rs := [15]) (by kernel_rfl) (by simp) ?_; refine AllReadyH.cons rfl (fun K hK => ?_) AllReadyH.nil; go_simp; skip; refine hK.out _ _ ?_ (fun hHeld => ?_); (· exact gA); clear hK K); try simp only [Act.put, List.getElem_toArray, List.getElem_cons_zero, List.getElem_cons_succ, List.setIfInBounds_toArray, List.set_cons_zero, List.set_cons_succ])
  ((refine wpAnyH_take (i := 16) (v := ?_) rfl (by kernel_rfl) (by kernel_rfl) (by kernel_rfl) (fun _ _ _ h => h) (Yields.yieldsIf (Or.inl ⟨by rfl, ?_⟩)) hHeld ?_; rotate_left 1; focus (intro w; go_simp; try with_reducible rfl)); try simp only [Act.put, List.getElem_toArray, List.getElem_cons_zero, List.getElem_cons_succ, List.setIfInBounds_toArray, List.set_cons_zero, List.set_cons_succ])
  ((refine wpAnyH_ready (rs := [17]) (by kernel_rfl) (by simp) ?_; refine AllReadyH.cons rfl (fun K hK => ?_) AllReadyH.nil; go_simp; skip; refine hK.out _ _ ?_ (fun hHeld => ?_); (· exact gB); clear hK K); try simp only [Act.put, List.getElem_toArray, List.getElem_cons_zero, List.getElem_cons_succ, List.setIfInBounds_toArray, List.set_cons_zero, List.set_cons_succ])
  ((refine wpAnyH_ready (rs := [18]) (by kernel_rfl) (by simp) ?_; refine AllReadyH.cons rfl (fun K hK => ?_) AllReadyH.nil; go_simp; skip; refine hK.out _ _ ?_ (fun hHeld => ?_); (· exact gC); clear hK K); try simp only [Act.put, List.getElem_toArray, List.getElem_cons_zero, List.getElem_cons_succ, List.setIfInBounds_toArray, List.set_cons_zero, List.set_cons_succ])
  ((refine wpAnyH_take (i := 19) (v := ?_) rfl (by kernel_rfl) (by kernel_rfl) (by kernel_rfl) (fun _ _ _ h => h) (Yields.yieldsIf (Or.inl ⟨by rfl, ?_⟩)) hHeld ?_; rotate_left 1; focus (intro w; go_simp; try with_reducible rfl)); try simp only [Act.put, List.getElem_toArray, List.getElem_cons_zero, List.getElem_cons_succ, List.setIfInBounds_toArray, List.set_cons_zero, List.set_cons_succ])
  ((refine wpAnyH_ready (rs := [20]) (by kernel_rfl) (by simp) ?_; refine AllReadyH.cons rfl (fun K hK => ?_) AllReadyH.nil; go_simp; skip; refine hK.out _ _ ?_ (fun hHeld => ?_); (· exact gD); clear hK K); try simp only [Act.put, List.getElem_toArray, List.getElem_cons_zero, List.getElem_cons_succ, List.setIfInBounds_toArray, List.set_cons_zero, List.set_cons_succ])
  refine wpAnyH_done (by kernel_rfl) ?_ _
  clear hHeld
  go_end0
  exact ⟨rfl, ⟨_, _, HF.out⟩, (HAL.out.mono (fun _ _ h => h.elim) : Mod D w W1).trans HMO.out⟩
set_option maxHeartbeats 2000000 in
theorem dput_timed (h : DueMem w D p now q bb bs Dc Db Ds M L) {x : Td} (hs : x.slot < 4194304) (hd : x.dl < 18446744073709551615) (hb : x.birth ≤ 18446744073709551615) (h1 : ∀ y ∈ M, y.slot ≠ x.slot) (h2 : ∀ y ∈ M, y.birth ≠ x.birth) (hMl : M.length < maxLen) (hLl : L.length < maxLen) :
    Calls Tryd.prog 71 #[lkP p, tdV x] w fun e w' => e = .returned (.tuple #[]) ∧ (∃ D' Dc' Db' Ds', DueMem w' D' p now q bb bs Dc' Db' Ds' (x :: M) (schL now L x) ∧ grewD D D' w) ∧ Mod D w w' := by
  have hal : Pure w (w.alloc (.cells #[.int .u32 x.slot, .int .u64 x.dl, .int .u64 x.birth] 31)) := (Mod.refl _ w).alloc _
  have h3 := heap_new (w := w) (o := .cells #[.int .u32 x.slot, .int .u64 x.dl, .int .u64 x.birth] 31 (0, 0)) rfl
  have hD3 : ¬ D w.heap.size := fun e => by have := h.lt e; omega
  have HC := Lib.hid (h.pure hal)
  have H1 := Lib.hid h1; have H2 := Lib.hid h2; have HAL := Lib.hid hal; have HDD := Lib.hid h.dd
  have e0 : ((x.dl : Int) == 18446744073709551615) = false := by simp; omega
  have hsc := ((h.pure hal).pure ((Mod.refl _ _).drew : Pure _ (w.alloc (.cells #[.int .u32 x.slot, .int .u64 x.dl, .int .u64 x.birth] 31)).drew)).cas.sched (x := x) (by omega) (by omega) hb hLl
  unfold tdV at hsc
  have HSc := Lib.hid hsc
  clear hd hsc
  obtain ⟨ne1, ne2, ne3⟩ := h.ne
  clear h h1 h2 hal
  unfold tdV
  go_enter Tryd.func71, Tryd.ntmps71
  go_upto_region 1 with fail
  generalize w.alloc (.cells #[.int .u32 x.slot, .int .u64 x.dl, .int .u64 x.birth] 31) = W1 at *
  obtain ⟨b3, hb3⟩ : ∃ b3, w.heap.size = b3 := ⟨_, rfl⟩
  rw [hb3] at h3 hD3 ⊢
  clear hb3
  obtain ⟨c0, c1, c2⟩ := HC.out.cells
  have H3 := Lib.hid h3
  have h3_0 := cell_of_row _ _ 0 _ _ _ h3; have h3_1 := cell_of_row _ _ 1 _ _ _ h3; have h3_2 := cell_of_row _ _ 2 _ _ _ h3; have h3_f := (fun j => frozen_of_row _ _ j _ _ h3); have h3_l := lt_of_block h3; simp at h3_0 h3_1 h3_2; have H_h3 := Lib.hid h3; clear h3
  go_upto_region 2 with fail
  go_still_tail 5, (by kernel_rfl)
  go_upto_region 3 with (go_at_call 13; refine Calls.mono HSc.out ?_; rintro e w2 ⟨rfl, ⟨Dc2, hc2, hg2⟩, hm2⟩)
  have hm2' : Mod Dc W1 w2 := Mod.of_drew hm2
  have hg2' : grewD Dc Dc2 W1 := hg2
  obtain ⟨D2, hD2, hgD⟩ := HC.out.cascade hc2 hg2' hm2'
  have nb3 : ¬ Dc b3 := fun e => hD3 ((HDD.out b3).2 (.inr (.inr (.inr e))))
  have h32 := hm2'.heap nb3 H3.out
  have HD2 := Lib.hid hD2; have HGD := Lib.hid hgD; have HM2' := Lib.hid (hm2'.mono (fun k _ hk => (HDD.out k).2 (.inr (.inr (.inr hk)))) : Mod D W1 w2)
  clear h3_0 h3_1 h3_2 h3_f h3_l
  clear H_h3 hm2 hm2' hg2 hg2' hD2 hgD hc2 HSc c0 c1 c2
  obtain ⟨c0, c1, c2⟩ := HD2.out.cells
  have h32_0 := cell_of_row _ _ 0 _ _ _ h32; have h32_1 := cell_of_row _ _ 1 _ _ _ h32; have h32_2 := cell_of_row _ _ 2 _ _ _ h32; have h32_f := (fun j => frozen_of_row _ _ j _ _ h32); have h32_l := lt_of_block h32; simp at h32_0 h32_1 h32_2; have H_h32 := Lib.hid h32; clear h32
  refine wp_region_held_drew (S := fun u => (u.cell? ⟨p, 1, none⟩ = some (.map (some bb)) ∧ u.cell? ⟨p, 2, none⟩ = some (.map (some bs))) ∧ u.cell? ⟨b3, 0, none⟩ = some (.int .u32 x.slot) ∧ u.cell? ⟨b3, 1, none⟩ = some (.int .u64 x.dl) ∧ u.cell? ⟨b3, 2, none⟩ = some (.int .u64 x.birth)) (by kernel_rfl) ⟨⟨c1, c2⟩, h32_0, h32_1, h32_2⟩ (fun hHeld => ?_)
  ((refine wpAnyH_take (i := 0) (v := ?_) rfl (by kernel_rfl) (by kernel_rfl) (by kernel_rfl) (fun _ _ _ h => h) (Yields.yieldsIf (Or.inl ⟨by rfl, ?_⟩)) hHeld ?_; rotate_left 1; focus (intro w; go_simp; try with_reducible rfl)); try simp only [Act.put, List.getElem_toArray, List.getElem_cons_zero, List.getElem_cons_succ, List.setIfInBounds_toArray, List.set_cons_zero, List.set_cons_succ])
  ((refine wpAnyH_take (i := 1) (v := ?_) rfl (by kernel_rfl) (by kernel_rfl) (by kernel_rfl) (fun _ _ _ h => h) (Yields.yieldsIf (Or.inl ⟨by rfl, ?_⟩)) hHeld ?_; rotate_left 1; focus (intro w; go_simp; try with_reducible rfl)); try simp only [Act.put, List.getElem_toArray, List.getElem_cons_zero, List.getElem_cons_succ, List.setIfInBounds_toArray, List.set_cons_zero, List.set_cons_succ])
  ((refine wpAnyH_take (i := 2) (v := ?_) rfl (by kernel_rfl) (by kernel_rfl) (by kernel_rfl) (fun _ _ _ h => h) (Yields.yieldsIf (Or.inl ⟨by rfl, ?_⟩)) hHeld ?_; rotate_left 1; focus (intro w; go_simp; try with_reducible rfl)); try simp only [Act.put, List.getElem_toArray, List.getElem_cons_zero, List.getElem_cons_succ, List.setIfInBounds_toArray, List.set_cons_zero, List.set_cons_succ])
  ((refine wpAnyH_take (i := 3) (v := ?_) rfl (by kernel_rfl) (by kernel_rfl) (by kernel_rfl) (fun _ _ _ h => h) (Or.inl ⟨by rfl, ?_⟩) hHeld ?_; rotate_left 1; focus (intro w hS; obtain ⟨⟨s1, s2⟩, s3, s4, s5⟩ := hS; go_simp; try with_reducible rfl)); try simp only [Act.put, List.getElem_toArray, List.getElem_cons_zero, List.getElem_cons_succ, List.setIfInBounds_toArray, List.set_cons_zero, List.set_cons_succ])
  ((refine wpAnyH_take (i := 4) (v := ?_) rfl (by kernel_rfl) (by kernel_rfl) (by kernel_rfl) (fun _ _ _ h => h) (Yields.yieldsIf (Or.inl ⟨by rfl, ?_⟩)) hHeld ?_; rotate_left 1; focus (intro w; go_simp; try with_reducible rfl)); try simp only [Act.put, List.getElem_toArray, List.getElem_cons_zero, List.getElem_cons_succ, List.setIfInBounds_toArray, List.set_cons_zero, List.set_cons_succ])
  ((refine wpAnyH_take (i := 5) (v := ?_) rfl (by kernel_rfl) (by kernel_rfl) (by kernel_rfl) (fun _ _ _ h => h) (Or.inl ⟨by rfl, ?_⟩) hHeld ?_; rotate_left 1; focus (intro w hS; obtain ⟨⟨s1, s2⟩, s3, s4, s5⟩ := hS; go_simp; try with_reducible rfl)); try simp only [Act.put, List.getElem_toArray, List.getElem_cons_zero, List.getElem_cons_succ, List.setIfInBounds_toArray, List.set_cons_zero, List.set_cons_succ])
  ((refine wpAnyH_take (i := 6) (v := ?_) rfl (by kernel_rfl) (by kernel_rfl) (by kernel_rfl) (fun _ _ _ h => h) (Yields.yieldsIf (Or.inl ⟨by rfl, ?_⟩)) hHeld ?_; rotate_left 1; focus (intro w; go_simp; try with_reducible rfl)); try simp only [Act.put, List.getElem_toArray, List.getElem_cons_zero, List.getElem_cons_succ, List.setIfInBounds_toArray, List.set_cons_zero, List.set_cons_succ])
  ((refine wpAnyH_take (i := 7) (v := ?_) rfl (by kernel_rfl) (by kernel_rfl) (by kernel_rfl) (fun _ _ _ h => h) (Yields.yieldsIf (Or.inl ⟨by rfl, ?_⟩)) hHeld ?_; rotate_left 1; focus (intro w; go_simp; try with_reducible rfl)); try simp only [Act.put, List.getElem_toArray, List.getElem_cons_zero, List.getElem_cons_succ, List.setIfInBounds_toArray, List.set_cons_zero, List.set_cons_succ])
  ((refine wpAnyH_take (i := 8) (v := ?_) rfl (by kernel_rfl) (by kernel_rfl) (by kernel_rfl) (fun _ _ _ h => h) (Yields.yieldsIf (Or.inl ⟨by rfl, ?_⟩)) hHeld ?_; rotate_left 1; focus (intro w; go_simp; try with_reducible rfl)); try simp only [Act.put, List.getElem_toArray, List.getElem_cons_zero, List.getElem_cons_succ, List.setIfInBounds_toArray, List.set_cons_zero, List.set_cons_succ])
  ((refine wpAnyH_take (i := 9) (v := ?_) rfl (by kernel_rfl) (by kernel_rfl) (by kernel_rfl) (fun _ _ _ h => h) (Or.inl ⟨by rfl, ?_⟩) hHeld ?_; rotate_left 1; focus (intro w hS; obtain ⟨⟨s1, s2⟩, s3, s4, s5⟩ := hS; go_simp; try with_reducible rfl)); try simp only [Act.put, List.getElem_toArray, List.getElem_cons_zero, List.getElem_cons_succ, List.setIfInBounds_toArray, List.set_cons_zero, List.set_cons_succ])
  ((refine wpAnyH_take (i := 10) (v := ?_) rfl (by kernel_rfl) (by kernel_rfl) (by kernel_rfl) (fun _ _ _ h => h) (Yields.yieldsIf (Or.inl ⟨by rfl, ?_⟩)) hHeld ?_; rotate_left 1; focus (intro w; go_simp; try with_reducible rfl)); try simp only [Act.put, List.getElem_toArray, List.getElem_cons_zero, List.getElem_cons_succ, List.setIfInBounds_toArray, List.set_cons_zero, List.set_cons_succ])
  ((refine wpAnyH_take (i := 11) (v := ?_) rfl (by kernel_rfl) (by kernel_rfl) (by kernel_rfl) (fun _ _ _ h => h) (Or.inl ⟨by rfl, ?_⟩) hHeld ?_; rotate_left 1; focus (intro w hS; obtain ⟨⟨s1, s2⟩, s3, s4, s5⟩ := hS; go_simp; try with_reducible rfl)); try simp only [Act.put, List.getElem_toArray, List.getElem_cons_zero, List.getElem_cons_succ, List.setIfInBounds_toArray, List.set_cons_zero, List.set_cons_succ])
  ((refine wpAnyH_take (i := 12) (v := ?_) rfl (by kernel_rfl) (by kernel_rfl) (by kernel_rfl) (fun _ _ _ h => h) (Yields.yieldsIf (Or.inl ⟨by rfl, ?_⟩)) hHeld ?_; rotate_left 1; focus (intro w; go_simp; try with_reducible rfl)); try simp only [Act.put, List.getElem_toArray, List.getElem_cons_zero, List.getElem_cons_succ, List.setIfInBounds_toArray, List.set_cons_zero, List.set_cons_succ])
  ((refine wpAnyH_take (i := 13) (v := ?_) rfl (by kernel_rfl) (by kernel_rfl) (by kernel_rfl) (fun _ _ _ h => h) (Or.inl ⟨by rfl, ?_⟩) hHeld ?_; rotate_left 1; focus (intro w hS; obtain ⟨⟨s1, s2⟩, s3, s4, s5⟩ := hS; go_simp; try with_reducible rfl)); try simp only [Act.put, List.getElem_toArray, List.getElem_cons_zero, List.getElem_cons_succ, List.setIfInBounds_toArray, List.set_cons_zero, List.set_cons_succ])
  ((refine wpAnyH_take (i := 14) (v := ?_) rfl (by kernel_rfl) (by kernel_rfl) (by kernel_rfl) (fun _ _ _ h => h) (Or.inl ⟨by rfl, ?_⟩) hHeld ?_; rotate_left 1; focus (intro w hS; obtain ⟨⟨s1, s2⟩, s3, s4, s5⟩ := hS; go_simp; try with_reducible rfl)); try simp only [Act.put, List.getElem_toArray, List.getElem_cons_zero, List.getElem_cons_succ, List.setIfInBounds_toArray, List.set_cons_zero, List.set_cons_succ])
  obtain ⟨v0, st, Wa, o1, hE, hA, hgA, hS⟩ := own_entry HD2.out.births.own.drew keyedB Tryd.underlying83 zeroN hMl (kB_of hb)
  have hmA : Mod (fun k => k = bb) w2 Wa := Mod.of_drew (Mod.of_grown hgA (fun k e _ => by cases e; rfl))
  obtain ⟨Wb, hEb, hownB, hgB⟩ := hS Wa (.int .u32 x.slot) _ _ hA (numElem_mk _)
  have hmB : Mod (fun k => k = bb) w2 Wb := hmA.trans (Mod.of_grown hgB (fun k e _ => by cases e; rfl))
  have hN := HD2.out.births.put H2.out hownB
  have hT := HD2.out.slots.mod hmB (fun e => ne3 e.symm)
  obtain ⟨v1, st2, Wc, o2, hEc, hC2, hgC, hS2⟩ := own_entry hT.own keyedS Tryd.underlying54 zeroTd hMl (kS_of (by omega : x.slot ≤ 4294967295))
  have hmC : Mod (fun k => k = bb ∨ k = bs) w2 Wc := (hmB.mono (fun _ _ h => .inl h)).trans (Mod.of_grown hgC (fun k e _ => by cases e; exact .inr rfl))
  obtain ⟨Wd, hEd, hownD, hgD⟩ := hS2 Wc (tdV x) _ _ hC2 (tdElem_mk x)
  unfold tdV at hEd
  have hmD : Mod (fun k => k = bb ∨ k = bs) w2 Wd := hmC.trans (Mod.of_grown hgD (fun k e _ => by cases e; exact .inr rfl))
  have hmBD : Mod (fun k => k = bs) Wb Wd := (Mod.of_grown hgC (fun k e _ => by cases e; rfl)).trans (Mod.of_grown hgD (fun k e _ => by cases e; rfl))
  have n3 : b3 ≠ bb ∧ b3 ≠ bs := ⟨fun e => hD3 ((HDD.out b3).2 (.inr (.inl e))), fun e => hD3 ((HDD.out b3).2 (.inr (.inr (.inl e))))⟩
  have hK : ∀ u, Mod (fun k => k = bb ∨ k = bs) w2 u → (u.cell? ⟨p, 1, none⟩ = some (.map (some bb)) ∧ u.cell? ⟨p, 2, none⟩ = some (.map (some bs))) ∧ u.cell? ⟨b3, 0, none⟩ = some (.int .u32 x.slot) ∧ u.cell? ⟨b3, 1, none⟩ = some (.int .u64 x.dl) ∧ u.cell? ⟨b3, 2, none⟩ = some (.int .u64 x.birth) := fun u hu =>
    ⟨⟨hu.cell (a := ⟨p, 1, none⟩) (fun e => by rcases e with e | e; exact ne1 e; exact ne2 e) c1, hu.cell (a := ⟨p, 2, none⟩) (fun e => by rcases e with e | e; exact ne1 e; exact ne2 e) c2⟩, hu.cell (a := ⟨b3, 0, none⟩) (fun e => by rcases e with e | e; exact n3.1 e; exact n3.2 e) h32_0, hu.cell (a := ⟨b3, 1, none⟩) (fun e => by rcases e with e | e; exact n3.1 e; exact n3.2 e) h32_1, hu.cell (a := ⟨b3, 2, none⟩) (fun e => by rcases e with e | e; exact n3.1 e; exact n3.2 e) h32_2⟩
  have gA := hK Wa (hmA.mono (fun _ _ h => .inl h)); have gB := hK Wb (hmB.mono (fun _ _ h => .inl h)); have gC := hK Wc hmC; have gD := hK Wd hmD
  have hT4 := hT.put H1.out hownD
  have hfin : DueMem Wd D2 p now q bb bs Dc2 (Db.put (kB x.birth) (nD x)) (Ds.put (kS x.slot) (tdD x)) (x :: M) (schL now L x) := ⟨hmD.heap (fun e => by rcases e with e | e; exact ne1 e; exact ne2 e) HD2.out.box, HD2.out.cas.frame hmD (fun k hk e => by rcases e with e | e; exact HD2.out.nbb (e ▸ hk); exact HD2.out.nbs (e ▸ hk)), hN.mod hmBD (fun e => ne3 e), hT4, HD2.out.np, HD2.out.nbb, HD2.out.nbs, HD2.out.ne, HD2.out.dd⟩
  have hmo : Mod D w2 Wd := hmD.mono (fun k _ hk => by rcases hk with e | e; exact (HDD.out k).2 (.inr (.inl e)); exact (HDD.out k).2 (.inr (.inr (.inl e))))
  have HF := Lib.hid hfin; have HMO := Lib.hid hmo
  clear hfin hmo hT4 hK hmD hmBD hmC hmB hmA hT hN hownB hownD hgA hgB hgC hgD hS hS2 hA hC2
  ((refine wpAnyH_ready (rs := [15]) (by kernel_rfl) (by simp) ?_; refine AllReadyH.cons rfl (fun K hK => ?_) AllReadyH.nil; go_simp; skip; refine hK.out _ _ ?_ (fun hHeld => ?_); (· exact gA); clear hK K); try simp only [Act.put, List.getElem_toArray, List.getElem_cons_zero, List.getElem_cons_succ, List.setIfInBounds_toArray, List.set_cons_zero, List.set_cons_succ])
  ((refine wpAnyH_take (i := 16) (v := ?_) rfl (by kernel_rfl) (by kernel_rfl) (by kernel_rfl) (fun _ _ _ h => h) (Yields.yieldsIf (Or.inl ⟨by rfl, ?_⟩)) hHeld ?_; rotate_left 1; focus (intro w; go_simp; try with_reducible rfl)); try simp only [Act.put, List.getElem_toArray, List.getElem_cons_zero, List.getElem_cons_succ, List.setIfInBounds_toArray, List.set_cons_zero, List.set_cons_succ])
  ((refine wpAnyH_ready (rs := [17]) (by kernel_rfl) (by simp) ?_; refine AllReadyH.cons rfl (fun K hK => ?_) AllReadyH.nil; go_simp; skip; refine hK.out _ _ ?_ (fun hHeld => ?_); (· exact gB); clear hK K); try simp only [Act.put, List.getElem_toArray, List.getElem_cons_zero, List.getElem_cons_succ, List.setIfInBounds_toArray, List.set_cons_zero, List.set_cons_succ])
  ((refine wpAnyH_ready (rs := [18]) (by kernel_rfl) (by simp) ?_; refine AllReadyH.cons rfl (fun K hK => ?_) AllReadyH.nil; go_simp; skip; refine hK.out _ _ ?_ (fun hHeld => ?_); (· exact gC); clear hK K); try simp only [Act.put, List.getElem_toArray, List.getElem_cons_zero, List.getElem_cons_succ, List.setIfInBounds_toArray, List.set_cons_zero, List.set_cons_succ])
  ((refine wpAnyH_take (i := 19) (v := ?_) rfl (by kernel_rfl) (by kernel_rfl) (by kernel_rfl) (fun _ _ _ h => h) (Yields.yieldsIf (Or.inl ⟨by rfl, ?_⟩)) hHeld ?_; rotate_left 1; focus (intro w; go_simp; try with_reducible rfl)); try simp only [Act.put, List.getElem_toArray, List.getElem_cons_zero, List.getElem_cons_succ, List.setIfInBounds_toArray, List.set_cons_zero, List.set_cons_succ])
  ((refine wpAnyH_ready (rs := [20]) (by kernel_rfl) (by simp) ?_; refine AllReadyH.cons rfl (fun K hK => ?_) AllReadyH.nil; go_simp; skip; refine hK.out _ _ ?_ (fun hHeld => ?_); (· exact gD); clear hK K); try simp only [Act.put, List.getElem_toArray, List.getElem_cons_zero, List.getElem_cons_succ, List.setIfInBounds_toArray, List.set_cons_zero, List.set_cons_succ])
  refine wpAnyH_done (by kernel_rfl) ?_ _
  clear hHeld
  go_end0
  exact ⟨rfl, ⟨_, _, _, _, HF.out, fun k hk => by
    rcases HGD.out k hk with e | e
    · exact .inl e
    · exact .inr (Nat.le_trans HAL.out.size e)⟩, ((HAL.out.mono (fun _ _ h => h.elim) : Mod D w W1).trans HM2'.out).trans HMO.out⟩
end
end Go.Proofs.YtlalpenfgkfkpaaDoor

/- due: put and drop on the list in order; Remove. Conditions: the deadlines lie in memory. -/
namespace Go.Proofs.YtlalpenfgkfkpaaDoor
open Go.RowKit Go.Shelf
set_option maxRecDepth 100000
section
variable {w w' : World} {D : Nat → Prop} {p now q bb bs : Nat} {Dc : Nat → Prop} {Db Ds : DataW Unit} {M M' L : List Td} {x : Td}
theorem NMap.perm {b : Nat} {A : DataW Unit} (h : NMap w b M A) (hp : M.Perm M') : NMap w b M' A :=
  ⟨by rw [← hp.length_eq]; exact h.own, fun x hx => h.at_ x (hp.mem_iff.2 hx), fun s hs => by obtain ⟨x, hx, e⟩ := h.has s hs; exact ⟨x, hp.mem_iff.1 hx, e⟩, by rw [← hp.length_eq]; exact h.size⟩
theorem DueMem.perm (h : DueMem w D p now q bb bs Dc Db Ds M L) (hp : M.Perm M') : DueMem w D p now q bb bs Dc Db Ds M' L :=
  ⟨h.box, h.cas, h.births.perm hp, h.slots.perm hp, h.np, h.nbb, h.nbs, h.ne, h.dd⟩
theorem DueAt.drop (h : DueAt w D p now M) (hp : M.Perm (x :: M')) (hs : M'.Pairwise bef) :
    Calls Tryd.prog 70 #[lkP p, tdV x] w fun e w' => e = .returned (.tuple #[]) ∧ (∃ D', DueAt w' D' p now M' ∧ grewD D D' w) ∧ Mod D w w' := by
  obtain ⟨q, bb, bs, Dc, Db, Ds, h1, h2⟩ := h
  obtain ⟨k1, k2, k3, k4⟩ := h2.out hp hs
  have hx : x ∈ M := hp.mem_iff.2 List.mem_cons_self
  obtain ⟨r1, r2, r3, r4, r5⟩ := h2.rng x hx
  refine (ddrop_ok h1 hx (by omega) r5 k2 k3 k4).mono ?_
  rintro e w' ⟨rfl, ⟨D', Dc', Db', Ds', hD, hg⟩, hm⟩
  rw [timedL_out h2.ord h2.slots hp r1 hs] at hD
  exact ⟨rfl, ⟨D', ⟨q, bb, bs, _, _, _, hD, k1⟩, hg⟩, hm⟩
theorem DueAt.put (h : DueAt w D p now M) (h1 : ∀ y ∈ M, y.slot ≠ x.slot) (h2 : ∀ y ∈ M, y.birth ≠ x.birth) (hr : x.slot < 4194304 ∧ (now < x.dl ∨ x.dl = 18446744073709551615) ∧ x.dl ≤ 18446744073709551615 ∧ 0 < x.birth ∧ x.birth ≤ 18446744073709551615) :
    Calls Tryd.prog 71 #[lkP p, tdV x] w fun e w' => e = .returned (.tuple #[]) ∧ (∃ D', DueAt w' D' p now (putL M x) ∧ grewD D D' w) ∧ Mod D w w' := by
  obtain ⟨q, bb, bs, Dc, Db, Ds, k1, k2⟩ := h
  obtain ⟨r1, r2, r3, r4, r5⟩ := hr
  have hc := k2.count
  have e1 := timedL_put (x := x) k2.ord h2
  have hMl : M.length < maxLen := by unfold maxLen; omega
  by_cases hd : x.dl = 18446744073709551615
  · rw [if_pos hd] at e1
    refine (dput_never k1 r1 hd r5 h1 h2 hMl).mono ?_
    rintro e w' ⟨rfl, ⟨Db', Ds', hD⟩, hm⟩
    exact ⟨rfl, ⟨D, ⟨q, bb, bs, _, _, _, by rw [e1]; exact hD.perm putL_perm.symm, k2.put h1 h2 ⟨r1, r2, r3, r4, r5⟩⟩, grewD.refl _ _⟩, hm⟩
  · rw [if_neg hd] at e1
    have hsc : schR now (timedL M) x = 0 := by
      have a1 : schE now x = 0 := by
        unfold schE atE
        rw [if_pos r1, if_neg (by omega), if_pos r1]
        rw [if_neg (by omega), if_neg (by omega)]
      have a2 : (hasB (timedL M) x.slot || bornB (timedL M) x.birth) = false := by
        rw [Bool.or_eq_false_iff]
        constructor
        · cases hh : hasB (timedL M) x.slot with
          | false => rfl
          | true => obtain ⟨y, hy, e⟩ := hasB_iff.1 hh; exact absurd e (h1 y (mem_timedL.1 hy).1)
        · cases hh : bornB (timedL M) x.birth with
          | false => rfl
          | true => obtain ⟨y, hy, e⟩ := bornB_iff.1 hh; exact absurd e (h2 y (mem_timedL.1 hy).1)
      unfold schR
      rw [if_pos a1, a2]
      rfl
    have hl : schL now (timedL M) x = putL (timedL M) x := by unfold schL; rw [if_pos hsc]
    refine (dput_timed k1 r1 (by omega) r5 h1 h2 hMl (by have := (List.filter_sublist (p := fun x : Td => decide (x.dl ≠ 18446744073709551615)) (l := M)).length_le; unfold timedL; unfold maxLen; omega)).mono ?_
    rintro e w' ⟨rfl, ⟨D', Dc', Db', Ds', hD, hg⟩, hm⟩
    rw [hl] at hD
    exact ⟨rfl, ⟨D', ⟨q, bb, bs, _, _, _, by rw [e1]; exact hD.perm putL_perm.symm, k2.put h1 h2 ⟨r1, r2, r3, r4, r5⟩⟩, hg⟩, hm⟩
end
end Go.Proofs.YtlalpenfgkfkpaaDoor

/- due: Next, Len, Get. Conditions: they lie in memory. -/
namespace Go.Proofs.YtlalpenfgkfkpaaDoor
open Go.RowKit Go.Shelf
set_option maxRecDepth 100000
section
variable {w w' : World} {D : Nat → Prop} {p now q bb bs : Nat} {Dc : Nat → Prop} {Db Ds : DataW Unit} {M L : List Td}
theorem dnext_ok (h : DueMem w D p now q bb bs Dc Db Ds M L) (hT : TabW w) : Calls Tryd.prog 41 #[lkP p] w fun e w' => e = .returned (.int .u64 (nextD L)) ∧ Pure w w' := by
  obtain ⟨c0, c1, c2⟩ := h.cells
  have HC := Lib.hid (dcheck0 h); have HN := Lib.hid (h.cas.next hT)
  clear h c1 c2 hT
  go_enter Tryd.func41, Tryd.ntmps41
  go_wp2_with (first
    | (go_at_call 69; refine Calls.mono HC.out ?_; rintro e w' ⟨rfl, rfl⟩)
    | (go_at_call 27; refine Calls.mono HN.out ?_; rintro e w2 ⟨rfl, hp2⟩))
  go_ret
  exact ⟨rfl, hp2⟩
theorem dlen_ok (h : DueMem w D p now q bb bs Dc Db Ds M L) : Calls Tryd.prog 75 #[lkP p] w fun e w' => e = .returned (.tuple #[.int .i64 M.length, .int .i64 L.length]) ∧ Pure w w' := by
  obtain ⟨c0, c1, c2⟩ := h.cells
  have HC := Lib.hid (dcheck0 h); have HN := Lib.hid ((h.pure (Mod.refl _ w).drew).cas.len_)
  have hlen := fun ty => h.slots.own.len Tryd.underlying54 ty
  have hlenD := fun ty => (h.pure (Mod.refl _ w).drew).slots.own.len Tryd.underlying54 ty
  rw [h.slots.size] at hlen hlenD
  clear h c1
  go_enter Tryd.func75, Tryd.ntmps75
  go_upto_region 3 with (go_at_call 69; refine Calls.mono HC.out ?_; rintro e w' ⟨rfl, rfl⟩)
  refine wp_region_held_drew (S := fun u => u.cell? ⟨p, 0, none⟩ = some (lkP q) ∧ u.cell? ⟨p, 2, none⟩ = some (.map (some bs))) (by kernel_rfl) ⟨c0, c2⟩ (fun hHeld => ?_)
  ((refine wpAnyH_take (i := 0) (v := ?_) rfl (by kernel_rfl) (by kernel_rfl) (by kernel_rfl) (fun _ _ _ h => h) (Yields.yieldsIf (Or.inl ⟨by rfl, ?_⟩)) hHeld ?_; rotate_left 1; focus (intro w; go_simp; try with_reducible rfl)); try simp only [Act.put, List.getElem_toArray, List.getElem_cons_zero, List.getElem_cons_succ, List.setIfInBounds_toArray, List.set_cons_zero, List.set_cons_succ])
  ((refine wpAnyH_take (i := 1) (v := ?_) rfl (by kernel_rfl) (by kernel_rfl) (by kernel_rfl) (fun _ _ _ h => h) (Yields.yieldsIf (Or.inl ⟨by rfl, ?_⟩)) hHeld ?_; rotate_left 1; focus (intro w; go_simp; try with_reducible rfl)); try simp only [Act.put, List.getElem_toArray, List.getElem_cons_zero, List.getElem_cons_succ, List.setIfInBounds_toArray, List.set_cons_zero, List.set_cons_succ])
  ((refine wpAnyH_take (i := 2) (v := ?_) rfl (by kernel_rfl) (by kernel_rfl) (by kernel_rfl) (fun _ _ _ h => h) (Yields.yieldsIf (Or.inl ⟨by rfl, ?_⟩)) hHeld ?_; rotate_left 1; focus (intro w; go_simp; try with_reducible rfl)); try simp only [Act.put, List.getElem_toArray, List.getElem_cons_zero, List.getElem_cons_succ, List.setIfInBounds_toArray, List.set_cons_zero, List.set_cons_succ])
  ((refine wpAnyH_take (i := 3) (v := ?_) rfl (by kernel_rfl) (by kernel_rfl) (by kernel_rfl) (fun _ _ _ h => h) (Or.inl ⟨by rfl, ?_⟩) hHeld ?_; rotate_left 1; focus (intro w hS; obtain ⟨s0, s1⟩ := hS; go_simp; try with_reducible rfl)); try simp only [Act.put, List.getElem_toArray, List.getElem_cons_zero, List.getElem_cons_succ, List.setIfInBounds_toArray, List.set_cons_zero, List.set_cons_succ])
  ((refine wpAnyH_take (i := 5) (v := ?_) rfl (by kernel_rfl) (by kernel_rfl) (by kernel_rfl) (fun _ _ _ h => h) (Yields.yieldsIf (Or.inl ⟨by rfl, ?_⟩)) hHeld ?_; rotate_left 1; focus (intro w; go_simp; try with_reducible rfl)); try simp only [Act.put, List.getElem_toArray, List.getElem_cons_zero, List.getElem_cons_succ, List.setIfInBounds_toArray, List.set_cons_zero, List.set_cons_succ])
  ((refine wpAnyH_take (i := 6) (v := ?_) rfl (by kernel_rfl) (by kernel_rfl) (by kernel_rfl) (fun _ _ _ h => h) (Yields.yieldsIf (Or.inl ⟨by rfl, ?_⟩)) hHeld ?_; rotate_left 1; focus (intro w; go_simp; try with_reducible rfl)); try simp only [Act.put, List.getElem_toArray, List.getElem_cons_zero, List.getElem_cons_succ, List.setIfInBounds_toArray, List.set_cons_zero, List.set_cons_succ])
  ((refine wpAnyH_take (i := 7) (v := ?_) rfl (by kernel_rfl) (by kernel_rfl) (by kernel_rfl) (fun _ _ _ h => h) (Yields.yieldsIf (Or.inl ⟨by rfl, ?_⟩)) hHeld ?_; rotate_left 1; focus (intro w; go_simp; try with_reducible rfl)); try simp only [Act.put, List.getElem_toArray, List.getElem_cons_zero, List.getElem_cons_succ, List.setIfInBounds_toArray, List.set_cons_zero, List.set_cons_succ])
  ((refine wpAnyH_take (i := 8) (v := ?_) rfl (by kernel_rfl) (by kernel_rfl) (by kernel_rfl) (fun _ _ _ h => h) (Or.inl ⟨by rfl, ?_⟩) hHeld ?_; rotate_left 1; focus (intro w hS; obtain ⟨s0, s1⟩ := hS; go_simp; try with_reducible rfl)); try simp only [Act.put, List.getElem_toArray, List.getElem_cons_zero, List.getElem_cons_succ, List.setIfInBounds_toArray, List.set_cons_zero, List.set_cons_succ])
  have d0 : w.drew.cell? ⟨p, 0, none⟩ = some (lkP q) := c0
  have d2 : w.drew.cell? ⟨p, 2, none⟩ = some (.map (some bs)) := c2
  ((refine wpAnyH_ready (rs := [4]) (by kernel_rfl) (by simp) ?_; refine AllReadyH.cons rfl (fun K hK => ?_) AllReadyH.nil; go_simp; skip; refine hK.out _ _ ?_ (fun hHeld => ?_); (· exact ⟨d0, d2⟩); clear hK K); try simp only [Act.put, List.getElem_toArray, List.getElem_cons_zero, List.getElem_cons_succ, List.setIfInBounds_toArray, List.set_cons_zero, List.set_cons_succ])
  ((refine wpAnyH_ready (rs := [9]) (by kernel_rfl) (by simp) ?_; refine AllReadyH.cons rfl (fun K hK => ?_) AllReadyH.nil; go_simp; refine Calls.mono HN.out ?_; rintro e w2 ⟨rfl, rfl⟩; refine hK.out _ _ ?_ (fun hHeld => ?_); (· exact ⟨d0, d2⟩); clear hK K); try simp only [Act.put, List.getElem_toArray, List.getElem_cons_zero, List.getElem_cons_succ, List.setIfInBounds_toArray, List.set_cons_zero, List.set_cons_succ])
  ((refine wpAnyH_take (i := 10) (v := ?_) rfl (by kernel_rfl) (by kernel_rfl) (by kernel_rfl) (fun _ _ _ h => h) (Yields.yieldsIf (Or.inl ⟨by rfl, ?_⟩)) hHeld ?_; rotate_left 1; focus (intro w; go_simp; try with_reducible rfl)); try simp only [Act.put, List.getElem_toArray, List.getElem_cons_zero, List.getElem_cons_succ, List.setIfInBounds_toArray, List.set_cons_zero, List.set_cons_succ])
  ((refine wpAnyH_take (i := 11) (v := ?_) rfl (by kernel_rfl) (by kernel_rfl) (by kernel_rfl) (fun _ _ _ h => h) (Yields.yieldsIf (Or.inl ⟨by rfl, ?_⟩)) hHeld ?_; rotate_left 1; focus (intro w; go_simp; try with_reducible rfl)); try simp only [Act.put, List.getElem_toArray, List.getElem_cons_zero, List.getElem_cons_succ, List.setIfInBounds_toArray, List.set_cons_zero, List.set_cons_succ])
  refine wpAnyH_done (by kernel_rfl) ?_ _
  clear hHeld
  go_wp2
  go_ret2
  exact ⟨rfl, (Mod.refl _ _).drew⟩
set_option maxHeartbeats 1000000 in
theorem dget_ok (h : DueMem w D p now q bb bs Dc Db Ds M L) {s : Nat} (h32 : s ≤ 4294967295) :
    Calls Tryd.prog 74 #[lkP p, .int .u32 s] w fun e w' => e = .returned (.tuple #[.int .u64 (getT M s).1.dl, .int .u64 (getT M s).1.birth, .int .i64 (getT M s).2]) ∧ Pure w w' := by
  obtain ⟨c0, c1, c2⟩ := h.cells
  have HC := Lib.hid (dcheck_ok h h32)
  by_cases hs : s < 4194304
  · rw [if_pos hs] at HC
    cases hf : M.find? (fun x => x.slot == s) with
    | some x =>
      have hxM := List.mem_of_find?_eq_some hf
      have hxs : x.slot = s := by have := List.find?_some hf; simpa using this
      subst hxs
      have hlk := h.slots.look hxM (by omega)
      rw [getT_hit hs hf]
      dsimp only
      unfold tdV at hlk
      have hal : Pure w (w.alloc (.cells #[.int .u32 x.slot, .int .u64 x.dl, .int .u64 x.birth] 31)) := (Mod.refl _ w).alloc _
      have h8 := heap_new (w := w) (o := .cells #[.int .u32 x.slot, .int .u64 x.dl, .int .u64 x.birth] 31 (0, 0)) rfl
      have HAL := Lib.hid hal; have H8 := Lib.hid h8
      clear h hf hxM h32 hs hal h8 c0 c1
      go_enter Tryd.func74, Tryd.ntmps74
      go_upto_region 7 with (go_at_call 69; refine Calls.mono HC.out ?_; rintro e w' ⟨rfl, rfl⟩)
      have h8 := H8.out
      generalize w.alloc (.cells #[.int .u32 x.slot, .int .u64 x.dl, .int .u64 x.birth] 31) = W1 at *
      generalize w.heap.size = b8 at *
      clear c2 hlk
      have h8_0 := cell_of_row _ _ 0 _ _ _ h8; have h8_1 := cell_of_row _ _ 1 _ _ _ h8; have h8_2 := cell_of_row _ _ 2 _ _ _ h8; have h8_f := (fun j => frozen_of_row _ _ j _ _ h8); have h8_l := lt_of_block h8; simp at h8_0 h8_1 h8_2; have H_h8 := Lib.hid h8; clear h8
      go_region
      all_goals
        go_wp2
        refine bodyPost_ret (v := .tuple #[.int .u64 x.dl, .int .u64 x.birth, .int .i64 0]) (by simp [results, Tryd.results74, go_sem]) rfl ⟨rfl, ?_⟩
        first | exact HAL.out | exact HAL.out.drew
    | none =>
      have hnx : ∀ x ∈ M, x.slot ≠ s := fun x hx e => by have := List.find?_eq_none.1 hf x hx; simp [e] at this
      have hlk := h.slots.look_no (s := s) (by omega) hnx
      rw [getT_miss hs hf]
      unfold zTd
      dsimp only
      unfold tdV at hlk
      have HAL : Hid (Pure w (w.alloc (.cells #[.int .u32 0, .int .u64 0, .int .u64 0] 31))) := Lib.hid ((Mod.refl _ w).alloc _)
      clear h hf hnx h32 hs c0 c1
      go_enter Tryd.func74, Tryd.ntmps74
      go_wp2_with (go_at_call 69; refine Calls.mono HC.out ?_; rintro e w' ⟨rfl, rfl⟩)
      refine bodyPost_ret (v := .tuple #[.int .u64 0, .int .u64 0, .int .i64 9]) (by simp [results, Tryd.results74, go_sem]) rfl ⟨rfl, ?_⟩
      exact HAL.out
  · rw [if_neg hs] at HC
    rw [getT_arg hs]
    unfold zTd
    dsimp only
    clear h h32 hs c0 c1 c2
    go_enter Tryd.func74, Tryd.ntmps74
    go_wp2_with (go_at_call 69; refine Calls.mono HC.out ?_; rintro e w' ⟨rfl, rfl⟩)
    refine bodyPost_ret (v := .tuple #[.int .u64 0, .int .u64 0, .int .i64 2]) (by simp [results, Tryd.results74, go_sem]) rfl ⟨rfl, ?_⟩
    exact Mod.refl _ _
end
end Go.Proofs.YtlalpenfgkfkpaaDoor

/- due: Remove, Set's errors. Conditions: the deadlines lie in memory. -/
namespace Go.Proofs.YtlalpenfgkfkpaaDoor
open Go.RowKit Go.Shelf
set_option maxRecDepth 100000
section
variable {w w' : World} {D : Nat → Prop} {p now q bb bs : Nat} {Dc : Nat → Prop} {Db Ds : DataW Unit} {M M' L : List Td} {x : Td}
theorem Mod.of_pure' {S : Nat → Prop} (h : Pure w w') : Mod S w w' := h.mono (fun _ _ h => h.elim)
set_option maxHeartbeats 1000000 in
theorem DueAt.remove (h : DueAt w D p now M) {s : Nat} (h32 : s ≤ 4294967295) :
    Calls Tryd.prog 35 #[lkP p, .int .u32 s] w fun e w' => e = .returned (.int .i64 (getT M s).2) ∧ (∃ D', DueAt w' D' p now (canL M s) ∧ grewD D D' w) ∧ Mod D w w' := by
  have h' := h
  obtain ⟨q, bb, bs, Dc, Db, Ds, h1, h2⟩ := h
  have HC := Lib.hid (dcheck_ok h1 h32)
  obtain ⟨c0, c1, c2⟩ := h1.cells
  by_cases hs : s < 4194304
  · rw [if_pos hs] at HC
    rcases getT_cases M s with ⟨_, hh, x, e1, rfl, _, e3, e4⟩ | ⟨hno, er, e1, e2⟩
    · have hx : x ∈ M := e4.mem_iff.2 List.mem_cons_self
      have hlk := h1.slots.look hx (by omega)
      unfold canL
      rw [e1]
      dsimp only
      rw [if_pos rfl]
      unfold tdV at hlk
      have hal : Pure w (w.alloc (.cells #[.int .u32 x.slot, .int .u64 x.dl, .int .u64 x.birth] 31)) := (Mod.refl _ w).alloc _
      have h8 := heap_new (w := w) (o := .cells #[.int .u32 x.slot, .int .u64 x.dl, .int .u64 x.birth] 31 (0, 0)) rfl
      have hdr := fun W (hW : Pure (w.alloc (.cells #[.int .u32 x.slot, .int .u64 x.dl, .int .u64 x.birth] 31)) W) => ((h'.pure hal).pure hW).drop e4 (outI_sorted h2.ord)
      unfold tdV at hdr
      have HDr := Lib.hid hdr; have HAL := Lib.hid hal; have H8 := Lib.hid h8
      clear h' h1 h2 hx e1 e3 e4 h32 hs hal h8 hdr c0 c1
      go_enter Tryd.func35, Tryd.ntmps35
      go_upto_region 7 with (go_at_call 69; refine Calls.mono HC.out ?_; rintro e w' ⟨rfl, rfl⟩)
      have h8 := H8.out
      generalize w.alloc (.cells #[.int .u32 x.slot, .int .u64 x.dl, .int .u64 x.birth] 31) = W1 at *
      generalize w.heap.size = b8 at *
      clear c2 hlk
      have h8_0 := cell_of_row _ _ 0 _ _ _ h8; have h8_1 := cell_of_row _ _ 1 _ _ _ h8; have h8_2 := cell_of_row _ _ 2 _ _ _ h8; have h8_f := (fun j => frozen_of_row _ _ j _ _ h8); have h8_l := lt_of_block h8; simp at h8_0 h8_1 h8_2; have H_h8 := Lib.hid h8; clear h8
      go_upto_region 8 with (go_at_call 70; refine Calls.mono (HDr.out _ (by first | exact Mod.refl _ _ | exact (Mod.refl _ _).drew)) ?_; rintro e w2 ⟨rfl, ⟨D', hD, hg⟩, hm⟩)
      have hm0 : Mod D w w2 := (Mod.of_pure' HAL.out : Mod D w W1).trans (by first | exact hm | exact Mod.of_drew hm)
      have hg0 : grewD D D' w := fun k hk => by
        rcases hg k hk with e | e
        · exact .inl e
        · have e' : W1.heap.size ≤ k := e
          exact .inr (Nat.le_trans HAL.out.size e')
      have HD := Lib.hid hD; have HM0 := Lib.hid hm0; have HG0 := Lib.hid hg0
      clear hm hg hD hm0 hg0
      go_wp2
      exact bodyPost_ret (v := .int .i64 0) (by simp [results, Tryd.results35, go_sem]) rfl ⟨rfl, ⟨D', HD.out, HG0.out⟩, HM0.out⟩
    · have hh : hasB M s = false := by
        rcases hno with e | e
        · exact absurd hs e
        · exact e
      have hlk := h1.slots.look_no (s := s) (by omega) (fun y hy e => by rw [hasB_iff.2 ⟨y, hy, e⟩] at hh; cases hh)
      unfold canL
      rw [getT_miss hs (find_none hh)]
      dsimp only
      rw [if_neg (by decide)]
      unfold tdV at hlk
      have HAL : Hid (Pure w (w.alloc (.cells #[.int .u32 0, .int .u64 0, .int .u64 0] 31))) := Lib.hid ((Mod.refl _ w).alloc _)
      have HF := Lib.hid h'
      clear h' h1 h2 hno e1 e2 hh h32 hs c0 c1
      go_enter Tryd.func35, Tryd.ntmps35
      go_wp2_with (go_at_call 69; refine Calls.mono HC.out ?_; rintro e w' ⟨rfl, rfl⟩)
      have hal := HAL.out
      refine bodyPost_ret (v := .int .i64 9) (by simp [results, Tryd.results35, go_sem]) rfl ⟨rfl, ⟨D, HF.out.pure hal, grewD.refl _ _⟩, Mod.of_pure' hal⟩
  · rw [if_neg hs] at HC
    unfold canL
    rw [getT_arg hs]
    dsimp only
    rw [if_neg (by decide)]
    have HF := Lib.hid h'
    clear h' h1 h2 h32 hs c0 c1 c2
    go_enter Tryd.func35, Tryd.ntmps35
    go_wp2_with (go_at_call 69; refine Calls.mono HC.out ?_; rintro e w' ⟨rfl, rfl⟩)
    refine bodyPost_ret (v := .int .i64 2) (by simp [results, Tryd.results35, go_sem]) rfl ⟨rfl, ⟨D, HF.out, grewD.refl _ _⟩, Mod.refl _ _⟩
end
end Go.Proofs.YtlalpenfgkfkpaaDoor

/- due: Set. Conditions: the deadlines lie in memory. -/
namespace Go.Proofs.YtlalpenfgkfkpaaDoor
open Go.RowKit Go.Shelf
set_option maxRecDepth 100000
section
variable {w w' : World} {D : Nat → Prop} {p now q bb bs : Nat} {Dc : Nat → Prop} {Db Ds : DataW Unit} {M M' L : List Td} {x : Td}
theorem NMap.look_any {b : Nat} {A : DataW Unit} (h : NMap w b M A) {s : Nat} (hs : s ≤ 18446744073709551615) : ∃ (o : Nat) (tk : Bool), (Instr.lookup 83 (.map (some b)) (.int .u64 s) true).run Tryd.prog w = .ok (.tuple #[.int .u32 o, .bool tk]) w := by
  by_cases c : ∃ y ∈ M, y.birth = s
  · obtain ⟨y, hy, rfl⟩ := c
    exact ⟨_, _, h.look hy hs⟩
  · exact ⟨0, false, h.look_no hs (fun y hy e => c ⟨y, hy, e⟩)⟩
theorem dset_arg (h : DueAt w D p now M) {s dl b : Nat} (h32 : s ≤ 4294967295) (hs : ¬ s < 4194304) :
    Calls Tryd.prog 34 #[lkP p, .int .u32 s, .int .u64 dl, .int .u64 b] w fun e w' => e = .returned (.int .i64 2) ∧ Pure w w' := by
  obtain ⟨q, bb, bs, Dc, Db, Ds, h1, h2⟩ := h
  have HC := Lib.hid (dcheck_ok h1 h32)
  rw [if_neg hs] at HC
  clear h1 h2 h32 hs
  go_enter Tryd.func34, Tryd.ntmps34
  go_wp2_with (go_at_call 69; refine Calls.mono HC.out ?_; rintro e w' ⟨rfl, rfl⟩)
  exact bodyPost_ret (v := .int .i64 2) (by simp [results, Tryd.results34, go_sem]) rfl ⟨rfl, Mod.refl _ _⟩
theorem TMap.look_any {b : Nat} {A : DataW Unit} (h : TMap w b M A) {s : Nat} (hs : s ≤ 4294967295) : ∃ (z : Td) (th : Bool), (Instr.lookup 54 (.map (some b)) (.int .u32 s) true).run Tryd.prog w = .ok (.tuple #[tdV z, .bool th]) w := by
  by_cases c : ∃ y ∈ M, y.slot = s
  · obtain ⟨y, hy, rfl⟩ := c
    exact ⟨_, _, h.look hy hs⟩
  · exact ⟨⟨0, 0, 0⟩, false, h.look_no hs (fun y hy e => c ⟨y, hy, e⟩)⟩
set_option maxHeartbeats 1000000 in
theorem dset_birth (h : DueAt w D p now M) {s dl : Nat} (hs : s < 4194304) :
    Calls Tryd.prog 34 #[lkP p, .int .u32 s, .int .u64 dl, .int .u64 0] w fun e w' => e = .returned (.int .i64 2) ∧ Pure w w' := by
  have h' := h
  obtain ⟨q, bb, bs, Dc, Db, Ds, h1, h2⟩ := h
  have HC := Lib.hid (dcheck_ok h1 (by omega : s ≤ 4294967295))
  rw [if_pos hs] at HC
  have h32 : s ≤ 4294967295 := by omega
  obtain ⟨z, th, hls⟩ := h1.slots.look_any h32
  obtain ⟨o, tk, hlb⟩ := ((h1.pure ((Mod.refl _ w).alloc (.cells #[.int .u32 z.slot, .int .u64 z.dl, .int .u64 z.birth] 31) : Pure w _)).births).look_any (s := 0) (by omega)
  rw [show ((0 : Nat) : Int) = 0 from rfl] at hlb
  unfold tdV at hls
  have hal : Pure w (w.alloc (.cells #[.int .u32 z.slot, .int .u64 z.dl, .int .u64 z.birth] 31)) := (Mod.refl _ w).alloc _
  have h8 := heap_new (w := w) (o := .cells #[.int .u32 z.slot, .int .u64 z.dl, .int .u64 z.birth] 31 (0, 0)) rfl
  have HCas := Lib.hid (fun W (hW : Pure (w.alloc (.cells #[.int .u32 z.slot, .int .u64 z.dl, .int .u64 z.birth] 31)) W) => ((h1.pure hal).pure hW).cas.now_)
  have HN := Lib.hid (fun W (hW : Pure (w.alloc (.cells #[.int .u32 z.slot, .int .u64 z.dl, .int .u64 z.birth] 31)) W) => dnow_ok ((h1.pure hal).pure hW))
  obtain ⟨c0, c1, c2⟩ := h1.cells
  obtain ⟨a0, a1, a2⟩ := (h1.pure hal).cells
  have HAL := Lib.hid hal; have H8 := Lib.hid h8
  clear h' h1 h2 hal h8 h32 hs
  go_enter Tryd.func34, Tryd.ntmps34
  go_upto_region 5 with (go_at_call 69; refine Calls.mono HC.out ?_; rintro e w' ⟨rfl, rfl⟩)
  have h8 := H8.out
  generalize w.alloc (.cells #[.int .u32 z.slot, .int .u64 z.dl, .int .u64 z.birth] 31) = W1 at *
  generalize w.heap.size = b8 at *
  clear c0 c1 c2 hls
  have h8_0 := cell_of_row _ _ 0 _ _ _ h8; have h8_1 := cell_of_row _ _ 1 _ _ _ h8; have h8_2 := cell_of_row _ _ 2 _ _ _ h8; have h8_f := (fun j => frozen_of_row _ _ j _ _ h8); have h8_l := lt_of_block h8; simp at h8_0 h8_1 h8_2; have H_h8 := Lib.hid h8; clear h8
  go_wp2_with (go_at_call 38; refine Calls.mono (HN.out _ (Mod.refl _ _)) ?_; rintro e w' ⟨rfl, rfl⟩)
  have hpp := HAL.out
  exact bodyPost_ret (v := .int .i64 2) (by simp [results, Tryd.results34, go_sem]) rfl ⟨rfl, by first | exact hpp | exact hpp.drew⟩
set_option maxHeartbeats 1000000 in
theorem dset_range (h : DueAt w D p now M) {s dl b : Nat} (hs : s < 4194304) (hb0 : b ≠ 0) (hb : b ≤ 18446744073709551615) (hd : dl ≠ 18446744073709551615) (hn : dl ≤ now) :
    Calls Tryd.prog 34 #[lkP p, .int .u32 s, .int .u64 dl, .int .u64 b] w fun e w' => e = .returned (.int .i64 3) ∧ Pure w w' := by
  have h' := h
  obtain ⟨q, bb, bs, Dc, Db, Ds, h1, h2⟩ := h
  have HC := Lib.hid (dcheck_ok h1 (by omega : s ≤ 4294967295))
  rw [if_pos hs] at HC
  have h32 : s ≤ 4294967295 := by omega
  obtain ⟨z, th, hls⟩ := h1.slots.look_any h32
  obtain ⟨o, tk, hlb⟩ := ((h1.pure ((Mod.refl _ w).alloc (.cells #[.int .u32 z.slot, .int .u64 z.dl, .int .u64 z.birth] 31) : Pure w _)).births).look_any hb
  unfold tdV at hls
  have e0 : ((b : Int) == 0) = false := by simp; omega
  have e1 : ((dl : Int) != 18446744073709551615) = true := by simp; omega
  have e2 : decide ((dl : Int) ≤ (now : Int)) = true := decide_eq_true (by omega)
  have e2n : decide (dl ≤ now) = true := decide_eq_true hn
  clear hb0 hb hd hn
  have hal : Pure w (w.alloc (.cells #[.int .u32 z.slot, .int .u64 z.dl, .int .u64 z.birth] 31)) := (Mod.refl _ w).alloc _
  have h8 := heap_new (w := w) (o := .cells #[.int .u32 z.slot, .int .u64 z.dl, .int .u64 z.birth] 31 (0, 0)) rfl
  have HCas := Lib.hid (fun W (hW : Pure (w.alloc (.cells #[.int .u32 z.slot, .int .u64 z.dl, .int .u64 z.birth] 31)) W) => ((h1.pure hal).pure hW).cas.now_)
  have HN := Lib.hid (fun W (hW : Pure (w.alloc (.cells #[.int .u32 z.slot, .int .u64 z.dl, .int .u64 z.birth] 31)) W) => dnow_ok ((h1.pure hal).pure hW))
  obtain ⟨c0, c1, c2⟩ := h1.cells
  obtain ⟨a0, a1, a2⟩ := (h1.pure hal).cells
  have HAL := Lib.hid hal; have H8 := Lib.hid h8
  clear h' h1 h2 hal h8 h32 hs
  go_enter Tryd.func34, Tryd.ntmps34
  go_upto_region 5 with (go_at_call 69; refine Calls.mono HC.out ?_; rintro e w' ⟨rfl, rfl⟩)
  have h8 := H8.out
  generalize w.alloc (.cells #[.int .u32 z.slot, .int .u64 z.dl, .int .u64 z.birth] 31) = W1 at *
  generalize w.heap.size = b8 at *
  clear c0 c1 c2 hls
  have h8_0 := cell_of_row _ _ 0 _ _ _ h8; have h8_1 := cell_of_row _ _ 1 _ _ _ h8; have h8_2 := cell_of_row _ _ 2 _ _ _ h8; have h8_f := (fun j => frozen_of_row _ _ j _ _ h8); have h8_l := lt_of_block h8; simp at h8_0 h8_1 h8_2; have H_h8 := Lib.hid h8; clear h8
  have HN2 := Lib.hid (fun W (hW : Pure W1 W) => HCas.out W hW)
  go_wp2_with (go_at_call 28; refine Calls.mono (HN2.out _ (Mod.refl _ _)) ?_; rintro e w' ⟨rfl, rfl⟩)
  have hpp := HAL.out
  exact bodyPost_ret (v := .int .i64 3) (by simp [results, Tryd.results34, go_sem]) rfl ⟨rfl, by first | exact hpp | exact hpp.drew⟩
set_option maxHeartbeats 1000000 in
theorem dset_busyA0 (h : DueAt w D p now M) {s dl b : Nat} (hs : s < 4194304) (hb0 : b ≠ 0) (hb : b ≤ 18446744073709551615) (hd : dl = 18446744073709551615) (hc : ∃ z ∈ M, z.slot = s ∧ z.birth ≠ b) :
    Calls Tryd.prog 34 #[lkP p, .int .u32 s, .int .u64 dl, .int .u64 b] w fun e w' => e = .returned (.int .i64 11) ∧ Pure w w' := by
  have h' := h
  obtain ⟨q, bb, bs, Dc, Db, Ds, h1, h2⟩ := h
  have HC := Lib.hid (dcheck_ok h1 (by omega : s ≤ 4294967295))
  rw [if_pos hs] at HC
  have h32 : s ≤ 4294967295 := by omega
  obtain ⟨z, hz, rfl, hzb⟩ := hc
  have hls := h1.slots.look hz h32
  obtain ⟨o, tk, hlb⟩ := ((h1.pure ((Mod.refl _ w).alloc (.cells #[.int .u32 z.slot, .int .u64 z.dl, .int .u64 z.birth] 31) : Pure w _)).births).look_any hb
  unfold tdV at hls
  have e0 : ((b : Int) == 0) = false := by simp; omega
  have e1 : ((dl : Int) != 18446744073709551615) = false := by simp; omega
  have e3 : ((z.birth : Int) != (b : Int)) = true := by simp; omega
  clear hz hzb
  clear hb0 hb hd
  have hal : Pure w (w.alloc (.cells #[.int .u32 z.slot, .int .u64 z.dl, .int .u64 z.birth] 31)) := (Mod.refl _ w).alloc _
  have h8 := heap_new (w := w) (o := .cells #[.int .u32 z.slot, .int .u64 z.dl, .int .u64 z.birth] 31 (0, 0)) rfl
  have HCas := Lib.hid (fun W (hW : Pure (w.alloc (.cells #[.int .u32 z.slot, .int .u64 z.dl, .int .u64 z.birth] 31)) W) => ((h1.pure hal).pure hW).cas.now_)
  have HN := Lib.hid (fun W (hW : Pure (w.alloc (.cells #[.int .u32 z.slot, .int .u64 z.dl, .int .u64 z.birth] 31)) W) => dnow_ok ((h1.pure hal).pure hW))
  obtain ⟨c0, c1, c2⟩ := h1.cells
  obtain ⟨a0, a1, a2⟩ := (h1.pure hal).cells
  have HAL := Lib.hid hal; have H8 := Lib.hid h8
  clear h' h1 h2 hal h8 h32 hs
  go_enter Tryd.func34, Tryd.ntmps34
  go_upto_region 5 with (go_at_call 69; refine Calls.mono HC.out ?_; rintro e w' ⟨rfl, rfl⟩)
  have h8 := H8.out
  generalize w.alloc (.cells #[.int .u32 z.slot, .int .u64 z.dl, .int .u64 z.birth] 31) = W1 at *
  generalize w.heap.size = b8 at *
  clear c0 c1 c2 hls
  have h8_0 := cell_of_row _ _ 0 _ _ _ h8; have h8_1 := cell_of_row _ _ 1 _ _ _ h8; have h8_2 := cell_of_row _ _ 2 _ _ _ h8; have h8_f := (fun j => frozen_of_row _ _ j _ _ h8); have h8_l := lt_of_block h8; simp at h8_0 h8_1 h8_2; have H_h8 := Lib.hid h8; clear h8
  have HN2 := Lib.hid (fun W (hW : Pure W1 W) => HCas.out W hW)
  go_wp2_with (go_at_call 28; refine Calls.mono (HN2.out _ (Mod.refl _ _)) ?_; rintro e w' ⟨rfl, rfl⟩)
  have hpp := HAL.out
  exact bodyPost_ret (v := .int .i64 11) (by simp [results, Tryd.results34, go_sem]) rfl ⟨rfl, by first | exact hpp | exact hpp.drew⟩
set_option maxHeartbeats 1000000 in
theorem dset_busyA1 (h : DueAt w D p now M) {s dl b : Nat} (hs : s < 4194304) (hb0 : b ≠ 0) (hb : b ≤ 18446744073709551615) (hd : dl ≠ 18446744073709551615) (hn : now < dl) (hc : ∃ z ∈ M, z.slot = s ∧ z.birth ≠ b) :
    Calls Tryd.prog 34 #[lkP p, .int .u32 s, .int .u64 dl, .int .u64 b] w fun e w' => e = .returned (.int .i64 11) ∧ Pure w w' := by
  have h' := h
  obtain ⟨q, bb, bs, Dc, Db, Ds, h1, h2⟩ := h
  have HC := Lib.hid (dcheck_ok h1 (by omega : s ≤ 4294967295))
  rw [if_pos hs] at HC
  have h32 : s ≤ 4294967295 := by omega
  obtain ⟨z, hz, rfl, hzb⟩ := hc
  have hls := h1.slots.look hz h32
  obtain ⟨o, tk, hlb⟩ := ((h1.pure ((Mod.refl _ w).alloc (.cells #[.int .u32 z.slot, .int .u64 z.dl, .int .u64 z.birth] 31) : Pure w _)).births).look_any hb
  unfold tdV at hls
  have e0 : ((b : Int) == 0) = false := by simp; omega
  have e1 : ((dl : Int) != 18446744073709551615) = true := by simp; omega
  have e2 : decide ((dl : Int) ≤ (now : Int)) = false := decide_eq_false (by omega)
  have e2n : decide (dl ≤ now) = false := decide_eq_false (by omega)
  have e3 : ((z.birth : Int) != (b : Int)) = true := by simp; omega
  clear hz hzb
  clear hb0 hb hd hn
  have hal : Pure w (w.alloc (.cells #[.int .u32 z.slot, .int .u64 z.dl, .int .u64 z.birth] 31)) := (Mod.refl _ w).alloc _
  have h8 := heap_new (w := w) (o := .cells #[.int .u32 z.slot, .int .u64 z.dl, .int .u64 z.birth] 31 (0, 0)) rfl
  have HCas := Lib.hid (fun W (hW : Pure (w.alloc (.cells #[.int .u32 z.slot, .int .u64 z.dl, .int .u64 z.birth] 31)) W) => ((h1.pure hal).pure hW).cas.now_)
  have HN := Lib.hid (fun W (hW : Pure (w.alloc (.cells #[.int .u32 z.slot, .int .u64 z.dl, .int .u64 z.birth] 31)) W) => dnow_ok ((h1.pure hal).pure hW))
  obtain ⟨c0, c1, c2⟩ := h1.cells
  obtain ⟨a0, a1, a2⟩ := (h1.pure hal).cells
  have HAL := Lib.hid hal; have H8 := Lib.hid h8
  clear h' h1 h2 hal h8 h32 hs
  go_enter Tryd.func34, Tryd.ntmps34
  go_upto_region 5 with (go_at_call 69; refine Calls.mono HC.out ?_; rintro e w' ⟨rfl, rfl⟩)
  have h8 := H8.out
  generalize w.alloc (.cells #[.int .u32 z.slot, .int .u64 z.dl, .int .u64 z.birth] 31) = W1 at *
  generalize w.heap.size = b8 at *
  clear c0 c1 c2 hls
  have h8_0 := cell_of_row _ _ 0 _ _ _ h8; have h8_1 := cell_of_row _ _ 1 _ _ _ h8; have h8_2 := cell_of_row _ _ 2 _ _ _ h8; have h8_f := (fun j => frozen_of_row _ _ j _ _ h8); have h8_l := lt_of_block h8; simp at h8_0 h8_1 h8_2; have H_h8 := Lib.hid h8; clear h8
  have HN2 := Lib.hid (fun W (hW : Pure W1 W) => HCas.out W hW)
  go_wp2_with (go_at_call 28; refine Calls.mono (HN2.out _ (Mod.refl _ _)) ?_; rintro e w' ⟨rfl, rfl⟩)
  have hpp := HAL.out
  exact bodyPost_ret (v := .int .i64 11) (by simp [results, Tryd.results34, go_sem]) rfl ⟨rfl, by first | exact hpp | exact hpp.drew⟩
set_option maxHeartbeats 1000000 in
theorem dset_busyB0 (h : DueAt w D p now M) {s dl b : Nat} (hs : s < 4194304) (hb0 : b ≠ 0) (hb : b ≤ 18446744073709551615) (hd : dl = 18446744073709551615) (hc : ∀ z ∈ M, z.slot ≠ s) (hc2 : ∃ y ∈ M, y.birth = b) :
    Calls Tryd.prog 34 #[lkP p, .int .u32 s, .int .u64 dl, .int .u64 b] w fun e w' => e = .returned (.int .i64 11) ∧ Pure w w' := by
  have h' := h
  obtain ⟨q, bb, bs, Dc, Db, Ds, h1, h2⟩ := h
  have HC := Lib.hid (dcheck_ok h1 (by omega : s ≤ 4294967295))
  rw [if_pos hs] at HC
  have h32 : s ≤ 4294967295 := by omega
  obtain ⟨y, hy, hyb⟩ := hc2
  have hls := h1.slots.look_no (s := s) h32 hc
  have hlb := ((h1.pure ((Mod.refl _ w).alloc (.cells #[.int .u32 0, .int .u64 0, .int .u64 0] 31) : Pure w _)).births).look hy (by omega)
  rw [hyb] at hlb
  have hys := hc y hy
  unfold tdV at hls
  have e0 : ((b : Int) == 0) = false := by simp; omega
  have e1 : ((dl : Int) != 18446744073709551615) = false := by simp; omega
  have e3 : ((y.slot : Int) != (s : Int)) = true := by simp; omega
  clear hc hy hys hyb
  clear hb0 hb hd
  have hal : Pure w (w.alloc (.cells #[.int .u32 0, .int .u64 0, .int .u64 0] 31)) := (Mod.refl _ w).alloc _
  have h8 := heap_new (w := w) (o := .cells #[.int .u32 0, .int .u64 0, .int .u64 0] 31 (0, 0)) rfl
  have HCas := Lib.hid (fun W (hW : Pure (w.alloc (.cells #[.int .u32 0, .int .u64 0, .int .u64 0] 31)) W) => ((h1.pure hal).pure hW).cas.now_)
  have HN := Lib.hid (fun W (hW : Pure (w.alloc (.cells #[.int .u32 0, .int .u64 0, .int .u64 0] 31)) W) => dnow_ok ((h1.pure hal).pure hW))
  obtain ⟨c0, c1, c2⟩ := h1.cells
  obtain ⟨a0, a1, a2⟩ := (h1.pure hal).cells
  have HAL := Lib.hid hal; have H8 := Lib.hid h8
  clear h' h1 h2 hal h8 h32 hs
  go_enter Tryd.func34, Tryd.ntmps34
  go_upto_region 5 with (go_at_call 69; refine Calls.mono HC.out ?_; rintro e w' ⟨rfl, rfl⟩)
  have h8 := H8.out
  generalize w.alloc (.cells #[.int .u32 0, .int .u64 0, .int .u64 0] 31) = W1 at *
  generalize w.heap.size = b8 at *
  clear c0 c1 c2 hls
  have h8_0 := cell_of_row _ _ 0 _ _ _ h8; have h8_1 := cell_of_row _ _ 1 _ _ _ h8; have h8_2 := cell_of_row _ _ 2 _ _ _ h8; have h8_f := (fun j => frozen_of_row _ _ j _ _ h8); have h8_l := lt_of_block h8; simp at h8_0 h8_1 h8_2; have H_h8 := Lib.hid h8; clear h8
  have HN2 := Lib.hid (fun W (hW : Pure W1 W) => HCas.out W hW)
  go_wp2_with (go_at_call 28; refine Calls.mono (HN2.out _ (Mod.refl _ _)) ?_; rintro e w' ⟨rfl, rfl⟩)
  have hpp := HAL.out
  exact bodyPost_ret (v := .int .i64 11) (by simp [results, Tryd.results34, go_sem]) rfl ⟨rfl, by first | exact hpp | exact hpp.drew⟩
set_option maxHeartbeats 1000000 in
theorem dset_busyB1 (h : DueAt w D p now M) {s dl b : Nat} (hs : s < 4194304) (hb0 : b ≠ 0) (hb : b ≤ 18446744073709551615) (hd : dl ≠ 18446744073709551615) (hn : now < dl) (hc : ∀ z ∈ M, z.slot ≠ s) (hc2 : ∃ y ∈ M, y.birth = b) :
    Calls Tryd.prog 34 #[lkP p, .int .u32 s, .int .u64 dl, .int .u64 b] w fun e w' => e = .returned (.int .i64 11) ∧ Pure w w' := by
  have h' := h
  obtain ⟨q, bb, bs, Dc, Db, Ds, h1, h2⟩ := h
  have HC := Lib.hid (dcheck_ok h1 (by omega : s ≤ 4294967295))
  rw [if_pos hs] at HC
  have h32 : s ≤ 4294967295 := by omega
  obtain ⟨y, hy, hyb⟩ := hc2
  have hls := h1.slots.look_no (s := s) h32 hc
  have hlb := ((h1.pure ((Mod.refl _ w).alloc (.cells #[.int .u32 0, .int .u64 0, .int .u64 0] 31) : Pure w _)).births).look hy (by omega)
  rw [hyb] at hlb
  have hys := hc y hy
  unfold tdV at hls
  have e0 : ((b : Int) == 0) = false := by simp; omega
  have e1 : ((dl : Int) != 18446744073709551615) = true := by simp; omega
  have e2 : decide ((dl : Int) ≤ (now : Int)) = false := decide_eq_false (by omega)
  have e2n : decide (dl ≤ now) = false := decide_eq_false (by omega)
  have e3 : ((y.slot : Int) != (s : Int)) = true := by simp; omega
  clear hc hy hys hyb
  clear hb0 hb hd hn
  have hal : Pure w (w.alloc (.cells #[.int .u32 0, .int .u64 0, .int .u64 0] 31)) := (Mod.refl _ w).alloc _
  have h8 := heap_new (w := w) (o := .cells #[.int .u32 0, .int .u64 0, .int .u64 0] 31 (0, 0)) rfl
  have HCas := Lib.hid (fun W (hW : Pure (w.alloc (.cells #[.int .u32 0, .int .u64 0, .int .u64 0] 31)) W) => ((h1.pure hal).pure hW).cas.now_)
  have HN := Lib.hid (fun W (hW : Pure (w.alloc (.cells #[.int .u32 0, .int .u64 0, .int .u64 0] 31)) W) => dnow_ok ((h1.pure hal).pure hW))
  obtain ⟨c0, c1, c2⟩ := h1.cells
  obtain ⟨a0, a1, a2⟩ := (h1.pure hal).cells
  have HAL := Lib.hid hal; have H8 := Lib.hid h8
  clear h' h1 h2 hal h8 h32 hs
  go_enter Tryd.func34, Tryd.ntmps34
  go_upto_region 5 with (go_at_call 69; refine Calls.mono HC.out ?_; rintro e w' ⟨rfl, rfl⟩)
  have h8 := H8.out
  generalize w.alloc (.cells #[.int .u32 0, .int .u64 0, .int .u64 0] 31) = W1 at *
  generalize w.heap.size = b8 at *
  clear c0 c1 c2 hls
  have h8_0 := cell_of_row _ _ 0 _ _ _ h8; have h8_1 := cell_of_row _ _ 1 _ _ _ h8; have h8_2 := cell_of_row _ _ 2 _ _ _ h8; have h8_f := (fun j => frozen_of_row _ _ j _ _ h8); have h8_l := lt_of_block h8; simp at h8_0 h8_1 h8_2; have H_h8 := Lib.hid h8; clear h8
  have HN2 := Lib.hid (fun W (hW : Pure W1 W) => HCas.out W hW)
  go_wp2_with (go_at_call 28; refine Calls.mono (HN2.out _ (Mod.refl _ _)) ?_; rintro e w' ⟨rfl, rfl⟩)
  have hpp := HAL.out
  exact bodyPost_ret (v := .int .i64 11) (by simp [results, Tryd.results34, go_sem]) rfl ⟨rfl, by first | exact hpp | exact hpp.drew⟩
set_option maxHeartbeats 2000000 in
theorem dset_new0 (h : DueAt w D p now M) {s dl b : Nat} (hs : s < 4194304) (hb0 : b ≠ 0) (hb : b ≤ 18446744073709551615) (hd : dl = 18446744073709551615) (hc : ∀ z ∈ M, z.slot ≠ s) (hc2 : ∀ y ∈ M, y.birth ≠ b) :
    Calls Tryd.prog 34 #[lkP p, .int .u32 s, .int .u64 dl, .int .u64 b] w fun e w' => e = .returned (.int .i64 0) ∧ (∃ D', DueAt w' D' p now (putL (outB M s) ⟨s, dl, b⟩) ∧ grewD D D' w) ∧ Mod D w w' := by
  have h' := h
  obtain ⟨q, bb, bs, Dc, Db, Ds, h1, h2⟩ := h
  have HC := Lib.hid (dcheck_ok h1 (by omega : s ≤ 4294967295))
  rw [if_pos hs] at HC
  have h32 : s ≤ 4294967295 := by omega
  have hr : now < dl ∨ dl = 18446744073709551615 := by omega
  have e0 : ((b : Int) == 0) = false := by simp; omega
  have e1 : ((dl : Int) != 18446744073709551615) = false := by simp; omega
  have hls := h1.slots.look_no (s := s) h32 hc
  have hlb := ((h1.pure ((Mod.refl _ w).alloc (.cells #[.int .u32 0, .int .u64 0, .int .u64 0] 31) : Pure w _)).births).look_no hb hc2
  unfold tdV at hls
  have hnb : hasB M s = false := by
    cases hh : hasB M s with
    | false => rfl
    | true => obtain ⟨y, hy, e⟩ := hasB_iff.1 hh; exact absurd e (hc y hy)
  rw [show outB M s = M by unfold outB; rw [hnb]; rfl]
  have hal : Pure w (w.alloc (.cells #[.int .u32 0, .int .u64 0, .int .u64 0] 31)) := (Mod.refl _ w).alloc _
  have h8 := heap_new (w := w) (o := .cells #[.int .u32 0, .int .u64 0, .int .u64 0] 31 (0, 0)) rfl
  have HCas := Lib.hid (fun W (hW : Pure (w.alloc (.cells #[.int .u32 0, .int .u64 0, .int .u64 0] 31)) W) => ((h1.pure hal).pure hW).cas.now_)
  have HN := Lib.hid (fun W (hW : Pure (w.alloc (.cells #[.int .u32 0, .int .u64 0, .int .u64 0] 31)) W) => dnow_ok ((h1.pure hal).pure hW))
  obtain ⟨c0, c1, c2⟩ := h1.cells
  obtain ⟨a0, a1, a2⟩ := (h1.pure hal).cells
  have HAL := Lib.hid hal; have H8 := Lib.hid h8
  have hpu := fun W (hW : Pure (w.alloc (.cells #[.int .u32 0, .int .u64 0, .int .u64 0] 31)) W) => ((h'.pure hal).pure hW).put (x := ⟨s, dl, b⟩) hc hc2 ⟨hs, hr, by show dl ≤ _; omega, by show 0 < b; omega, hb⟩
  unfold tdV at hpu
  have HPu := Lib.hid hpu
  clear hpu hc hc2 hnb
  clear hb0 hb hd hr
  clear h' h1 h2 hal h8 h32 hs
  go_enter Tryd.func34, Tryd.ntmps34
  go_upto_region 5 with (go_at_call 69; refine Calls.mono HC.out ?_; rintro e w' ⟨rfl, rfl⟩)
  have h8 := H8.out
  generalize w.alloc (.cells #[.int .u32 0, .int .u64 0, .int .u64 0] 31) = W1 at *
  generalize w.heap.size = b8 at *
  clear c0 c1 c2 hls
  have h8_0 := cell_of_row _ _ 0 _ _ _ h8; have h8_1 := cell_of_row _ _ 1 _ _ _ h8; have h8_2 := cell_of_row _ _ 2 _ _ _ h8; have h8_f := (fun j => frozen_of_row _ _ j _ _ h8); have h8_l := lt_of_block h8; simp at h8_0 h8_1 h8_2; have H_h8 := Lib.hid h8; clear h8
  have HN2 := Lib.hid (fun W (hW : Pure W1 W) => HCas.out W hW)
  go_upto_region 15 with (first
    | (go_at_call 28; refine Calls.mono (HN2.out _ (Mod.refl _ _)) ?_; rintro e w' ⟨rfl, rfl⟩)
    | (go_at_call 71; refine Calls.mono (HPu.out _ (by first | exact Mod.refl _ _ | exact (Mod.refl _ _).drew)) ?_; rintro e w2 ⟨rfl, ⟨D', hfin, hg⟩, hm⟩))
  have hm0 : Mod D w w2 := (Mod.of_pure' HAL.out : Mod D w W1).trans (by first | exact hm | exact Mod.of_drew hm)
  have hg0 : grewD D D' w := fun k hk => by
    rcases hg k hk with e | e
    · exact .inl e
    · have e' : W1.heap.size ≤ k := e
      exact .inr (Nat.le_trans HAL.out.size e')
  clear hm hg
  have HF := Lib.hid hfin; have HM := Lib.hid hm0; have HG := Lib.hid hg0
  clear hfin hm0 hg0
  go_wp2
  exact bodyPost_ret (v := .int .i64 0) (by simp [results, Tryd.results34, go_sem]) rfl ⟨rfl, ⟨_, HF.out, HG.out⟩, HM.out⟩
set_option maxHeartbeats 2000000 in
theorem dset_new1 (h : DueAt w D p now M) {s dl b : Nat} (hs : s < 4194304) (hb0 : b ≠ 0) (hb : b ≤ 18446744073709551615) (hd : dl < 18446744073709551615) (hn : now < dl) (hc : ∀ z ∈ M, z.slot ≠ s) (hc2 : ∀ y ∈ M, y.birth ≠ b) :
    Calls Tryd.prog 34 #[lkP p, .int .u32 s, .int .u64 dl, .int .u64 b] w fun e w' => e = .returned (.int .i64 0) ∧ (∃ D', DueAt w' D' p now (putL (outB M s) ⟨s, dl, b⟩) ∧ grewD D D' w) ∧ Mod D w w' := by
  have h' := h
  obtain ⟨q, bb, bs, Dc, Db, Ds, h1, h2⟩ := h
  have HC := Lib.hid (dcheck_ok h1 (by omega : s ≤ 4294967295))
  rw [if_pos hs] at HC
  have h32 : s ≤ 4294967295 := by omega
  have hr : now < dl ∨ dl = 18446744073709551615 := by omega
  have e0 : ((b : Int) == 0) = false := by simp; omega
  have e1 : ((dl : Int) != 18446744073709551615) = true := by simp; omega
  have e2 : decide ((dl : Int) ≤ (now : Int)) = false := decide_eq_false (by omega)
  have e2n : decide (dl ≤ now) = false := decide_eq_false (by omega)
  have hls := h1.slots.look_no (s := s) h32 hc
  have hlb := ((h1.pure ((Mod.refl _ w).alloc (.cells #[.int .u32 0, .int .u64 0, .int .u64 0] 31) : Pure w _)).births).look_no hb hc2
  unfold tdV at hls
  have hnb : hasB M s = false := by
    cases hh : hasB M s with
    | false => rfl
    | true => obtain ⟨y, hy, e⟩ := hasB_iff.1 hh; exact absurd e (hc y hy)
  rw [show outB M s = M by unfold outB; rw [hnb]; rfl]
  have hal : Pure w (w.alloc (.cells #[.int .u32 0, .int .u64 0, .int .u64 0] 31)) := (Mod.refl _ w).alloc _
  have h8 := heap_new (w := w) (o := .cells #[.int .u32 0, .int .u64 0, .int .u64 0] 31 (0, 0)) rfl
  have HCas := Lib.hid (fun W (hW : Pure (w.alloc (.cells #[.int .u32 0, .int .u64 0, .int .u64 0] 31)) W) => ((h1.pure hal).pure hW).cas.now_)
  have HN := Lib.hid (fun W (hW : Pure (w.alloc (.cells #[.int .u32 0, .int .u64 0, .int .u64 0] 31)) W) => dnow_ok ((h1.pure hal).pure hW))
  obtain ⟨c0, c1, c2⟩ := h1.cells
  obtain ⟨a0, a1, a2⟩ := (h1.pure hal).cells
  have HAL := Lib.hid hal; have H8 := Lib.hid h8
  have hpu := fun W (hW : Pure (w.alloc (.cells #[.int .u32 0, .int .u64 0, .int .u64 0] 31)) W) => ((h'.pure hal).pure hW).put (x := ⟨s, dl, b⟩) hc hc2 ⟨hs, hr, by show dl ≤ _; omega, by show 0 < b; omega, hb⟩
  unfold tdV at hpu
  have HPu := Lib.hid hpu
  clear hpu hc hc2 hnb
  clear hb0 hb hd hn hr
  clear h' h1 h2 hal h8 h32 hs
  go_enter Tryd.func34, Tryd.ntmps34
  go_upto_region 5 with (go_at_call 69; refine Calls.mono HC.out ?_; rintro e w' ⟨rfl, rfl⟩)
  have h8 := H8.out
  generalize w.alloc (.cells #[.int .u32 0, .int .u64 0, .int .u64 0] 31) = W1 at *
  generalize w.heap.size = b8 at *
  clear c0 c1 c2 hls
  have h8_0 := cell_of_row _ _ 0 _ _ _ h8; have h8_1 := cell_of_row _ _ 1 _ _ _ h8; have h8_2 := cell_of_row _ _ 2 _ _ _ h8; have h8_f := (fun j => frozen_of_row _ _ j _ _ h8); have h8_l := lt_of_block h8; simp at h8_0 h8_1 h8_2; have H_h8 := Lib.hid h8; clear h8
  have HN2 := Lib.hid (fun W (hW : Pure W1 W) => HCas.out W hW)
  go_upto_region 15 with (first
    | (go_at_call 28; refine Calls.mono (HN2.out _ (Mod.refl _ _)) ?_; rintro e w' ⟨rfl, rfl⟩)
    | (go_at_call 71; refine Calls.mono (HPu.out _ (by first | exact Mod.refl _ _ | exact (Mod.refl _ _).drew)) ?_; rintro e w2 ⟨rfl, ⟨D', hfin, hg⟩, hm⟩))
  have hm0 : Mod D w w2 := (Mod.of_pure' HAL.out : Mod D w W1).trans (by first | exact hm | exact Mod.of_drew hm)
  have hg0 : grewD D D' w := fun k hk => by
    rcases hg k hk with e | e
    · exact .inl e
    · have e' : W1.heap.size ≤ k := e
      exact .inr (Nat.le_trans HAL.out.size e')
  clear hm hg
  have HF := Lib.hid hfin; have HM := Lib.hid hm0; have HG := Lib.hid hg0
  clear hfin hm0 hg0
  go_wp2
  exact bodyPost_ret (v := .int .i64 0) (by simp [results, Tryd.results34, go_sem]) rfl ⟨rfl, ⟨_, HF.out, HG.out⟩, HM.out⟩
set_option maxHeartbeats 2000000 in
theorem dset_hit0 (h : DueAt w D p now M) {s dl b : Nat} (hs : s < 4194304) (hb0 : b ≠ 0) (hb : b ≤ 18446744073709551615) (hd : dl = 18446744073709551615) (hc : ∃ z ∈ M, z.slot = s ∧ z.birth = b) :
    Calls Tryd.prog 34 #[lkP p, .int .u32 s, .int .u64 dl, .int .u64 b] w fun e w' => e = .returned (.int .i64 0) ∧ (∃ D', DueAt w' D' p now (putL (outB M s) ⟨s, dl, b⟩) ∧ grewD D D' w) ∧ Mod D w w' := by
  have h' := h
  obtain ⟨q, bb, bs, Dc, Db, Ds, h1, h2⟩ := h
  have HC := Lib.hid (dcheck_ok h1 (by omega : s ≤ 4294967295))
  rw [if_pos hs] at HC
  have h32 : s ≤ 4294967295 := by omega
  have hr : now < dl ∨ dl = 18446744073709551615 := by omega
  have e0 : ((b : Int) == 0) = false := by simp; omega
  have e1 : ((dl : Int) != 18446744073709551615) = false := by simp; omega
  obtain ⟨z, hz, hzs, hzb⟩ := hc
  subst hzs hzb
  have hls := h1.slots.look hz h32
  have hlb := ((h1.pure ((Mod.refl _ w).alloc (.cells #[.int .u32 z.slot, .int .u64 z.dl, .int .u64 z.birth] 31) : Pure w _)).births).look hz hb
  unfold tdV at hls
  have hh : hasB M z.slot = true := hasB_iff.2 ⟨z, hz, rfl⟩
  obtain ⟨z', k1, k2, k3, k4⟩ := findI_get (findI_lt.2 hh)
  have hzz : z' = z := h2.slots z' (List.mem_of_getElem? k1) z hz k2
  rw [hzz] at k4
  obtain ⟨_, n1, n2, _⟩ := h2.out k4 (outI_sorted h2.ord)
  have hso : (outI M z.slot).Pairwise bef := outI_sorted h2.ord
  rw [show outB M z.slot = outI M z.slot by unfold outB; rw [hh]; rfl]
  have hal : Pure w (w.alloc (.cells #[.int .u32 z.slot, .int .u64 z.dl, .int .u64 z.birth] 31)) := (Mod.refl _ w).alloc _
  have h8 := heap_new (w := w) (o := .cells #[.int .u32 z.slot, .int .u64 z.dl, .int .u64 z.birth] 31 (0, 0)) rfl
  have HCas := Lib.hid (fun W (hW : Pure (w.alloc (.cells #[.int .u32 z.slot, .int .u64 z.dl, .int .u64 z.birth] 31)) W) => ((h1.pure hal).pure hW).cas.now_)
  have HN := Lib.hid (fun W (hW : Pure (w.alloc (.cells #[.int .u32 z.slot, .int .u64 z.dl, .int .u64 z.birth] 31)) W) => dnow_ok ((h1.pure hal).pure hW))
  obtain ⟨c0, c1, c2⟩ := h1.cells
  obtain ⟨a0, a1, a2⟩ := (h1.pure hal).cells
  have HAL := Lib.hid hal; have H8 := Lib.hid h8
  have hdr := fun W (hW : Pure (w.alloc (.cells #[.int .u32 z.slot, .int .u64 z.dl, .int .u64 z.birth] 31)) W) => ((h'.pure hal).pure hW).drop k4 hso
  have hpu := fun W D1 (hD : DueAt W D1 p now (outI M z.slot)) => hD.put (x := ⟨z.slot, dl, z.birth⟩) (fun y hy => ((n1 y).1 hy).2) (fun y hy => ((n2 y).1 hy).2) ⟨hs, hr, by show dl ≤ _; omega, by show 0 < z.birth; omega, hb⟩
  unfold tdV at hpu hdr
  have HPu := Lib.hid hpu; have HDr := Lib.hid hdr
  clear hpu hdr hz hh k1 k2 k3 k4 hzz n1 n2 hso
  clear hb0 hb hd hr
  clear h' h1 h2 hal h8 h32 hs
  go_enter Tryd.func34, Tryd.ntmps34
  go_upto_region 5 with (go_at_call 69; refine Calls.mono HC.out ?_; rintro e w' ⟨rfl, rfl⟩)
  have h8 := H8.out
  generalize w.alloc (.cells #[.int .u32 z.slot, .int .u64 z.dl, .int .u64 z.birth] 31) = W1 at *
  generalize w.heap.size = b8 at *
  clear c0 c1 c2 hls
  have h8_0 := cell_of_row _ _ 0 _ _ _ h8; have h8_1 := cell_of_row _ _ 1 _ _ _ h8; have h8_2 := cell_of_row _ _ 2 _ _ _ h8; have h8_f := (fun j => frozen_of_row _ _ j _ _ h8); have h8_l := lt_of_block h8; simp at h8_0 h8_1 h8_2; have H_h8 := Lib.hid h8; clear h8
  have HN2 := Lib.hid (fun W (hW : Pure W1 W) => HCas.out W hW)
  go_upto_region 14 with (first
    | (go_at_call 28; refine Calls.mono (HN2.out _ (Mod.refl _ _)) ?_; rintro e w' ⟨rfl, rfl⟩)
    | (go_at_call 70; refine Calls.mono (HDr.out _ (by first | exact Mod.refl _ _ | exact (Mod.refl _ _).drew)) ?_; rintro e w2 ⟨rfl, ⟨D1, hD1, hg1⟩, hm1⟩))
  have hm1' : Mod D w w2 := (Mod.of_pure' HAL.out : Mod D w W1).trans (by first | exact hm1 | exact Mod.of_drew hm1)
  have hg1' : grewD D D1 w := fun k hk => by
    rcases hg1 k hk with e | e
    · exact .inl e
    · have e' : W1.heap.size ≤ k := e
      exact .inr (Nat.le_trans HAL.out.size e')
  have HD1 := Lib.hid hD1; have HM1 := Lib.hid hm1'; have HG1 := Lib.hid hg1'
  have HPv := Lib.hid (fun W (hW : Pure w2 W) => HPu.out W D1 (hD1.pure hW))
  clear hD1 hm1 hg1 hm1' hg1'
  go_upto_region 15 with (go_at_call 71; refine Calls.mono (HPv.out _ (by first | exact Mod.refl _ _ | exact (Mod.refl _ _).drew)) ?_; rintro e w3 ⟨rfl, ⟨D', hfin, hg⟩, hm⟩)
  have hsz := HM1.out.size
  have hm0 : Mod D w w3 := HM1.out.trans' (by first | exact hm | exact Mod.of_drew hm) (fun _ _ h => h) (fun k hk h => by
    rcases HG1.out k h with e | e
    · exact e
    · omega)
  have hg0 : grewD D D' w := fun k hk => by
    rcases hg k hk with e | e
    · exact HG1.out k e
    · have e' : w2.heap.size ≤ k := e
      exact .inr (Nat.le_trans hsz e')
  clear hm hg hsz
  have HF := Lib.hid hfin; have HM := Lib.hid hm0; have HG := Lib.hid hg0
  clear hfin hm0 hg0
  go_wp2
  exact bodyPost_ret (v := .int .i64 0) (by simp [results, Tryd.results34, go_sem]) rfl ⟨rfl, ⟨_, HF.out, HG.out⟩, HM.out⟩
set_option maxHeartbeats 2000000 in
theorem dset_hit1 (h : DueAt w D p now M) {s dl b : Nat} (hs : s < 4194304) (hb0 : b ≠ 0) (hb : b ≤ 18446744073709551615) (hd : dl < 18446744073709551615) (hn : now < dl) (hc : ∃ z ∈ M, z.slot = s ∧ z.birth = b) :
    Calls Tryd.prog 34 #[lkP p, .int .u32 s, .int .u64 dl, .int .u64 b] w fun e w' => e = .returned (.int .i64 0) ∧ (∃ D', DueAt w' D' p now (putL (outB M s) ⟨s, dl, b⟩) ∧ grewD D D' w) ∧ Mod D w w' := by
  have h' := h
  obtain ⟨q, bb, bs, Dc, Db, Ds, h1, h2⟩ := h
  have HC := Lib.hid (dcheck_ok h1 (by omega : s ≤ 4294967295))
  rw [if_pos hs] at HC
  have h32 : s ≤ 4294967295 := by omega
  have hr : now < dl ∨ dl = 18446744073709551615 := by omega
  have e0 : ((b : Int) == 0) = false := by simp; omega
  have e1 : ((dl : Int) != 18446744073709551615) = true := by simp; omega
  have e2 : decide ((dl : Int) ≤ (now : Int)) = false := decide_eq_false (by omega)
  have e2n : decide (dl ≤ now) = false := decide_eq_false (by omega)
  obtain ⟨z, hz, hzs, hzb⟩ := hc
  subst hzs hzb
  have hls := h1.slots.look hz h32
  have hlb := ((h1.pure ((Mod.refl _ w).alloc (.cells #[.int .u32 z.slot, .int .u64 z.dl, .int .u64 z.birth] 31) : Pure w _)).births).look hz hb
  unfold tdV at hls
  have hh : hasB M z.slot = true := hasB_iff.2 ⟨z, hz, rfl⟩
  obtain ⟨z', k1, k2, k3, k4⟩ := findI_get (findI_lt.2 hh)
  have hzz : z' = z := h2.slots z' (List.mem_of_getElem? k1) z hz k2
  rw [hzz] at k4
  obtain ⟨_, n1, n2, _⟩ := h2.out k4 (outI_sorted h2.ord)
  have hso : (outI M z.slot).Pairwise bef := outI_sorted h2.ord
  rw [show outB M z.slot = outI M z.slot by unfold outB; rw [hh]; rfl]
  have hal : Pure w (w.alloc (.cells #[.int .u32 z.slot, .int .u64 z.dl, .int .u64 z.birth] 31)) := (Mod.refl _ w).alloc _
  have h8 := heap_new (w := w) (o := .cells #[.int .u32 z.slot, .int .u64 z.dl, .int .u64 z.birth] 31 (0, 0)) rfl
  have HCas := Lib.hid (fun W (hW : Pure (w.alloc (.cells #[.int .u32 z.slot, .int .u64 z.dl, .int .u64 z.birth] 31)) W) => ((h1.pure hal).pure hW).cas.now_)
  have HN := Lib.hid (fun W (hW : Pure (w.alloc (.cells #[.int .u32 z.slot, .int .u64 z.dl, .int .u64 z.birth] 31)) W) => dnow_ok ((h1.pure hal).pure hW))
  obtain ⟨c0, c1, c2⟩ := h1.cells
  obtain ⟨a0, a1, a2⟩ := (h1.pure hal).cells
  have HAL := Lib.hid hal; have H8 := Lib.hid h8
  have hdr := fun W (hW : Pure (w.alloc (.cells #[.int .u32 z.slot, .int .u64 z.dl, .int .u64 z.birth] 31)) W) => ((h'.pure hal).pure hW).drop k4 hso
  have hpu := fun W D1 (hD : DueAt W D1 p now (outI M z.slot)) => hD.put (x := ⟨z.slot, dl, z.birth⟩) (fun y hy => ((n1 y).1 hy).2) (fun y hy => ((n2 y).1 hy).2) ⟨hs, hr, by show dl ≤ _; omega, by show 0 < z.birth; omega, hb⟩
  unfold tdV at hpu hdr
  have HPu := Lib.hid hpu; have HDr := Lib.hid hdr
  clear hpu hdr hz hh k1 k2 k3 k4 hzz n1 n2 hso
  clear hb0 hb hd hn hr
  clear h' h1 h2 hal h8 h32 hs
  go_enter Tryd.func34, Tryd.ntmps34
  go_upto_region 5 with (go_at_call 69; refine Calls.mono HC.out ?_; rintro e w' ⟨rfl, rfl⟩)
  have h8 := H8.out
  generalize w.alloc (.cells #[.int .u32 z.slot, .int .u64 z.dl, .int .u64 z.birth] 31) = W1 at *
  generalize w.heap.size = b8 at *
  clear c0 c1 c2 hls
  have h8_0 := cell_of_row _ _ 0 _ _ _ h8; have h8_1 := cell_of_row _ _ 1 _ _ _ h8; have h8_2 := cell_of_row _ _ 2 _ _ _ h8; have h8_f := (fun j => frozen_of_row _ _ j _ _ h8); have h8_l := lt_of_block h8; simp at h8_0 h8_1 h8_2; have H_h8 := Lib.hid h8; clear h8
  have HN2 := Lib.hid (fun W (hW : Pure W1 W) => HCas.out W hW)
  go_upto_region 14 with (first
    | (go_at_call 28; refine Calls.mono (HN2.out _ (Mod.refl _ _)) ?_; rintro e w' ⟨rfl, rfl⟩)
    | (go_at_call 70; refine Calls.mono (HDr.out _ (by first | exact Mod.refl _ _ | exact (Mod.refl _ _).drew)) ?_; rintro e w2 ⟨rfl, ⟨D1, hD1, hg1⟩, hm1⟩))
  have hm1' : Mod D w w2 := (Mod.of_pure' HAL.out : Mod D w W1).trans (by first | exact hm1 | exact Mod.of_drew hm1)
  have hg1' : grewD D D1 w := fun k hk => by
    rcases hg1 k hk with e | e
    · exact .inl e
    · have e' : W1.heap.size ≤ k := e
      exact .inr (Nat.le_trans HAL.out.size e')
  have HD1 := Lib.hid hD1; have HM1 := Lib.hid hm1'; have HG1 := Lib.hid hg1'
  have HPv := Lib.hid (fun W (hW : Pure w2 W) => HPu.out W D1 (hD1.pure hW))
  clear hD1 hm1 hg1 hm1' hg1'
  go_upto_region 15 with (go_at_call 71; refine Calls.mono (HPv.out _ (by first | exact Mod.refl _ _ | exact (Mod.refl _ _).drew)) ?_; rintro e w3 ⟨rfl, ⟨D', hfin, hg⟩, hm⟩)
  have hsz := HM1.out.size
  have hm0 : Mod D w w3 := HM1.out.trans' (by first | exact hm | exact Mod.of_drew hm) (fun _ _ h => h) (fun k hk h => by
    rcases HG1.out k h with e | e
    · exact e
    · omega)
  have hg0 : grewD D D' w := fun k hk => by
    rcases hg k hk with e | e
    · exact HG1.out k e
    · have e' : w2.heap.size ≤ k := e
      exact .inr (Nat.le_trans hsz e')
  clear hm hg hsz
  have HF := Lib.hid hfin; have HM := Lib.hid hm0; have HG := Lib.hid hg0
  clear hfin hm0 hg0
  go_wp2
  exact bodyPost_ret (v := .int .i64 0) (by simp [results, Tryd.results34, go_sem]) rfl ⟨rfl, ⟨_, HF.out, HG.out⟩, HM.out⟩
theorem DueAt.set (h : DueAt w D p now M) {s dl b : Nat} (h32 : s ≤ 4294967295) (hd : dl ≤ 18446744073709551615) (hb : b ≤ 18446744073709551615) :
    Calls Tryd.prog 34 #[lkP p, .int .u32 s, .int .u64 dl, .int .u64 b] w fun e w' => e = .returned (.int .i64 (setR now M s dl b)) ∧ (∃ D', DueAt w' D' p now (setL now M s dl b) ∧ grewD D D' w) ∧ Mod D w w' := by
  have bad : ∀ {E : Int}, E ≠ 0 → setR now M s dl b = E → (Calls Tryd.prog 34 #[lkP p, .int .u32 s, .int .u64 dl, .int .u64 b] w fun e w' => e = .returned (.int .i64 E) ∧ Pure w w') → Calls Tryd.prog 34 #[lkP p, .int .u32 s, .int .u64 dl, .int .u64 b] w fun e w' => e = .returned (.int .i64 (setR now M s dl b)) ∧ (∃ D', DueAt w' D' p now (setL now M s dl b) ∧ grewD D D' w) ∧ Mod D w w' := fun {E} hE e hc => by
    unfold setL
    rw [e, if_neg hE]
    refine hc.mono ?_
    rintro e w' ⟨rfl, hp⟩
    exact ⟨rfl, ⟨D, h.pure hp, grewD.refl _ _⟩, Mod.of_pure' hp⟩
  by_cases hs : s < 4194304
  · by_cases hb0 : b = 0
    · subst hb0
      exact bad (by decide) (by unfold setR; rw [if_neg (by omega)]) (dset_birth h hs)
    · by_cases hr : dl ≤ now ∧ dl ≠ 18446744073709551615
      · exact bad (by decide) (by unfold setR; rw [if_pos ⟨hs, hb0⟩, if_pos hr]) (dset_range h hs hb0 hb hr.2 hr.1)
      · by_cases hy : busyB M s b = true
        · refine bad (E := 11) (by decide) (by unfold setR; rw [if_pos ⟨hs, hb0⟩, if_neg hr, if_pos hy]) ?_
          by_cases c1 : ∃ z ∈ M, z.slot = s ∧ z.birth ≠ b
          · by_cases hv : dl = 18446744073709551615
            · exact dset_busyA0 h hs hb0 hb hv c1
            · exact dset_busyA1 h hs hb0 hb hv (by omega) c1
          · obtain ⟨y, hy1, hy2⟩ := busyB_iff.1 hy
            have hy3 : y.slot ≠ s ∧ y.birth = b := by
              rcases hy2 with e | e
              · exact absurd ⟨y, hy1, e⟩ c1
              · exact e
            have c2 : ∀ z ∈ M, z.slot ≠ s := fun z hz e => by
              by_cases e2 : z.birth = b
              · have := h.law.births z hz y hy1 (by rw [e2, hy3.2])
                rw [this] at e
                exact hy3.1 e
              · exact c1 ⟨z, hz, e, e2⟩
            by_cases hv : dl = 18446744073709551615
            · exact dset_busyB0 h hs hb0 hb hv c2 ⟨y, hy1, hy3.2⟩
            · exact dset_busyB1 h hs hb0 hb hv (by omega) c2 ⟨y, hy1, hy3.2⟩
        · have er : setR now M s dl b = 0 := by unfold setR; rw [if_pos ⟨hs, hb0⟩, if_neg hr, if_neg hy]
          unfold setL
          rw [er, if_pos rfl]
          have hnb : ∀ y ∈ M, (y.slot = s ↔ y.birth = b) := fun y hy1 => by
            refine ⟨fun e => ?_, fun e => ?_⟩
            · apply Classical.byContradiction
              intro e2
              exact hy (busyB_iff.2 ⟨y, hy1, .inl ⟨e, e2⟩⟩)
            · apply Classical.byContradiction
              intro e2
              exact hy (busyB_iff.2 ⟨y, hy1, .inr ⟨e2, e⟩⟩)
          by_cases c : ∃ z ∈ M, z.slot = s
          · obtain ⟨z, hz, e⟩ := c
            by_cases hv : dl = 18446744073709551615
            · exact dset_hit0 h hs hb0 hb hv ⟨z, hz, e, (hnb z hz).1 e⟩
            · exact dset_hit1 h hs hb0 hb (by omega) (by omega) ⟨z, hz, e, (hnb z hz).1 e⟩
          · have c1 : ∀ z ∈ M, z.slot ≠ s := fun z hz e => c ⟨z, hz, e⟩
            have c2 : ∀ z ∈ M, z.birth ≠ b := fun z hz e => c1 z hz ((hnb z hz).2 e)
            by_cases hv : dl = 18446744073709551615
            · exact dset_new0 h hs hb0 hb hv c1 c2
            · exact dset_new1 h hs hb0 hb (by omega) (by omega) c1 c2
  · exact bad (by decide) (by unfold setR; rw [if_neg (by omega)]) (dset_arg h h32 hs)
end
end Go.Proofs.YtlalpenfgkfkpaaDoor

/- due: Expire; tick.Effective. Conditions: the deadlines lie in memory, the table too. -/
namespace Go.Proofs.YtlalpenfgkfkpaaDoor
open Go.RowKit Go.Shelf
set_option maxRecDepth 100000
theorem eff_ok (a b : Nat) (w : World) : Calls Tryd.prog 73 #[.int .u64 a, .int .u64 b] w fun e w' => e = .returned (.int .u64 (max a b : Nat)) ∧ w = w' := by
  by_cases h : a ≤ b
  · rw [Nat.max_eq_right h]
    have e1 : max (a : Int) (b : Int) = (b : Int) := by omega
    go_enter Tryd.func73, Tryd.ntmps73
    go_wp2_with fail
    all_goals
      refine bodyPost_ret (v := .int .u64 b) ?_ rfl ⟨rfl, rfl⟩
      simp [results, Tryd.results73, go_sem]
      try omega
  · rw [Nat.max_eq_left (by omega)]
    have e1 : max (a : Int) (b : Int) = (a : Int) := by omega
    go_enter Tryd.func73, Tryd.ntmps73
    go_wp2_with fail
    all_goals
      refine bodyPost_ret (v := .int .u64 a) ?_ rfl ⟨rfl, rfl⟩
      simp [results, Tryd.results73, go_sem]
      try omega
section
variable {w w' : World} {D : Nat → Prop} {p now q bb bs : Nat} {Dc : Nat → Prop} {Db Ds : DataW Unit} {M M' L : List Td} {x : Td}
structure ExI (w wr : World) (D : Nat → Prop) (p tt : Nat) (q bb bs : Nat) (E R : List Td) (a : Option Addr) (c : Nat) (D' : Nat → Prop) (j : Nat) : Prop where
  mem : ∃ Dc Db Ds, DueMem wr D' p tt q bb bs Dc Db Ds (E.drop j ++ R) (timedL R)
  grew : grewD D D' w
  row : TdRow wr a c E
  off : ∀ g, (Value.slice a E.length c).ownBlock = some g → ¬ D' g ∧ w.heap.size ≤ g
  mod : Mod D w wr
set_option maxHeartbeats 2000000 in
theorem DueAt.expire (h : DueAt w D p now M) (hT : TabW w) (h0 : ¬ D 0) {t0 : Nat} (ht0 : t0 ≤ 18446744073709551615) :
    Calls Tryd.prog 37 #[lkP p, .int .u64 t0] w fun e w' => ∃ a c, e = .returned (.slice a (dueE (max now t0) M).length c) ∧ TdRow w' a c (dueE (max now t0) M) ∧
      (∃ D', DueAt w' D' p (max now t0) (restE (max now t0) M) ∧ grewD D D' w ∧ ∀ g, (Value.slice a (dueE (max now t0) M).length c).ownBlock = some g → ¬ D' g ∧ w.heap.size ≤ g) ∧ Mod D w w' := by
  have hnow := h.now64
  obtain ⟨q, bb, bs, Dc, Db, Ds, h1, h2⟩ := h
  obtain ⟨tt, htt⟩ : ∃ tt, max now t0 = tt := ⟨_, rfl⟩
  have hEf := fun W => eff_ok now t0 W
  rw [htt] at hEf ⊢
  have hnt : now ≤ tt := by omega
  have ht : tt ≤ 18446744073709551615 := by omega
  obtain ⟨k1, k2, k3, k4⟩ := h2.exp hnt ht
  have HCk := Lib.hid (dcheck0 h1)
  obtain ⟨c0, c1, c2⟩ := h1.cells
  have hD1 : Pure w w.drew := (Mod.refl _ w).drew
  have HNw := Lib.hid ((h1.pure hD1).cas.now_)
  have hAd := (h1.pure hD1).cas.advAny hT (fun e => h0 ((h1.dd 0).2 (.inr (.inr (.inr e))))) (by omega : tt < 18446744073709551616)
  rw [k1, k2, k3] at hAd
  have HAd := Lib.hid hAd; have HEf := Lib.hid hEf
  have hsp : dueE tt M ++ restE tt M = M := List.takeWhile_append_dropWhile
  obtain ⟨E, hE⟩ : ∃ E, dueE tt M = E := ⟨_, rfl⟩
  obtain ⟨R, hR⟩ : ∃ R, restE tt M = R := ⟨_, rfl⟩
  rw [hE, hR] at hsp
  rw [hR] at k4
  rw [hE, hR] at HAd
  rw [hE, hR]
  have hcnt : E.length ≤ 4194304 := by have := h2.count; rw [← hsp, List.length_append] at this; omega
  have HC := Lib.hid h1; have HL := Lib.hid h2; have HR := Lib.hid k4; have HSp := Lib.hid hsp
  clear h1 h2 k1 k2 k3 k4 hAd hEf hE hR hT hnow ht0 hnt ht hsp c1 c2 htt
  go_enter Tryd.func37, Tryd.ntmps37
  go_upto_region 3 with (go_at_call 69; refine Calls.mono HCk.out ?_; rintro e w' ⟨rfl, rfl⟩)
  refine wp_region_held_drew (S := fun u => u.cell? ⟨p, 0, none⟩ = some (lkP q)) (by kernel_rfl) c0 (fun hHeld => ?_)
  ((refine wpAnyH_take (i := 0) (v := ?_) rfl (by kernel_rfl) (by kernel_rfl) (by kernel_rfl) (fun _ _ _ h => h) (Yields.yieldsIf (Or.inl ⟨by rfl, ?_⟩)) hHeld ?_; rotate_left 1; focus (intro w; go_simp; try with_reducible rfl)); try simp only [Act.put, List.getElem_toArray, List.getElem_cons_zero, List.getElem_cons_succ, List.setIfInBounds_toArray, List.set_cons_zero, List.set_cons_succ])
  ((refine wpAnyH_take (i := 1) (v := ?_) rfl (by kernel_rfl) (by kernel_rfl) (by kernel_rfl) (fun _ _ _ h => h) (Yields.yieldsIf (Or.inl ⟨by rfl, ?_⟩)) hHeld ?_; rotate_left 1; focus (intro w; go_simp; try with_reducible rfl)); try simp only [Act.put, List.getElem_toArray, List.getElem_cons_zero, List.getElem_cons_succ, List.setIfInBounds_toArray, List.set_cons_zero, List.set_cons_succ])
  ((refine wpAnyH_take (i := 2) (v := ?_) rfl (by kernel_rfl) (by kernel_rfl) (by kernel_rfl) (fun _ _ _ h => h) (Yields.yieldsIf (Or.inl ⟨by rfl, ?_⟩)) hHeld ?_; rotate_left 1; focus (intro w; go_simp; try with_reducible rfl)); try simp only [Act.put, List.getElem_toArray, List.getElem_cons_zero, List.getElem_cons_succ, List.setIfInBounds_toArray, List.set_cons_zero, List.set_cons_succ])
  ((refine wpAnyH_take (i := 3) (v := ?_) rfl (by kernel_rfl) (by kernel_rfl) (by kernel_rfl) (fun _ _ _ h => h) (Or.inl ⟨by rfl, ?_⟩) hHeld ?_; rotate_left 1; focus (intro w hS; obtain s0 := hS; go_simp; try with_reducible rfl)); try simp only [Act.put, List.getElem_toArray, List.getElem_cons_zero, List.getElem_cons_succ, List.setIfInBounds_toArray, List.set_cons_zero, List.set_cons_succ])
  ((refine wpAnyH_take (i := 4) (v := ?_) rfl (by kernel_rfl) (by kernel_rfl) (by kernel_rfl) (fun _ _ _ h => h) (Yields.yieldsIf (Or.inl ⟨by rfl, ?_⟩)) hHeld ?_; rotate_left 1; focus (intro w; go_simp; try with_reducible rfl)); try simp only [Act.put, List.getElem_toArray, List.getElem_cons_zero, List.getElem_cons_succ, List.setIfInBounds_toArray, List.set_cons_zero, List.set_cons_succ])
  ((refine wpAnyH_take (i := 5) (v := ?_) rfl (by kernel_rfl) (by kernel_rfl) (by kernel_rfl) (fun _ _ _ h => h) (Yields.yieldsIf (Or.inl ⟨by rfl, ?_⟩)) hHeld ?_; rotate_left 1; focus (intro w; go_simp; try with_reducible rfl)); try simp only [Act.put, List.getElem_toArray, List.getElem_cons_zero, List.getElem_cons_succ, List.setIfInBounds_toArray, List.set_cons_zero, List.set_cons_succ])
  ((refine wpAnyH_take (i := 6) (v := ?_) rfl (by kernel_rfl) (by kernel_rfl) (by kernel_rfl) (fun _ _ _ h => h) (Yields.yieldsIf (Or.inl ⟨by rfl, ?_⟩)) hHeld ?_; rotate_left 1; focus (intro w; go_simp; try with_reducible rfl)); try simp only [Act.put, List.getElem_toArray, List.getElem_cons_zero, List.getElem_cons_succ, List.setIfInBounds_toArray, List.set_cons_zero, List.set_cons_succ])
  ((refine wpAnyH_take (i := 7) (v := ?_) rfl (by kernel_rfl) (by kernel_rfl) (by kernel_rfl) (fun _ _ _ h => h) (Or.inl ⟨by rfl, ?_⟩) hHeld ?_; rotate_left 1; focus (intro w hS; obtain s0 := hS; go_simp; try with_reducible rfl)); try simp only [Act.put, List.getElem_toArray, List.getElem_cons_zero, List.getElem_cons_succ, List.setIfInBounds_toArray, List.set_cons_zero, List.set_cons_succ])
  ((refine wpAnyH_take (i := 9) (v := ?_) rfl (by kernel_rfl) (by kernel_rfl) (by kernel_rfl) (fun _ _ _ h => h) (Yields.yieldsIf (Or.inl ⟨by rfl, ?_⟩)) hHeld ?_; rotate_left 1; focus (intro w; go_simp; try with_reducible rfl)); try simp only [Act.put, List.getElem_toArray, List.getElem_cons_zero, List.getElem_cons_succ, List.setIfInBounds_toArray, List.set_cons_zero, List.set_cons_succ])
  have d0 : w.drew.cell? ⟨p, 0, none⟩ = some (lkP q) := c0
  ((refine wpAnyH_ready (rs := [8]) (by kernel_rfl) (by simp) ?_; refine AllReadyH.cons rfl (fun K hK => ?_) AllReadyH.nil; go_simp; refine Calls.mono HNw.out ?_; rintro e w2 ⟨rfl, rfl⟩; refine hK.out _ _ ?_ (fun hHeld => ?_); (· exact d0); clear hK K); try simp only [Act.put, List.getElem_toArray, List.getElem_cons_zero, List.getElem_cons_succ, List.setIfInBounds_toArray, List.set_cons_zero, List.set_cons_succ])
  ((refine wpAnyH_ready (rs := [10]) (by kernel_rfl) (by simp) ?_; refine AllReadyH.cons rfl (fun K hK => ?_) AllReadyH.nil; go_simp; refine Calls.mono (HEf.out _) ?_; rintro e w2 ⟨rfl, rfl⟩; refine hK.out _ _ ?_ (fun hHeld => ?_); (· exact d0); clear hK K); try simp only [Act.put, List.getElem_toArray, List.getElem_cons_zero, List.getElem_cons_succ, List.setIfInBounds_toArray, List.set_cons_zero, List.set_cons_succ])
  ((refine wpAnyH_ready (rs := [11]) (by kernel_rfl) (by simp) ?_; refine AllReadyH.cons rfl (fun K hK => ?_) AllReadyH.nil; go_simp; refine Calls.mono HAd.out ?_; rintro e w2 ⟨a, c, rfl, hrow, ⟨Dc2, hc2, hg2, hoff⟩, hm2⟩; refine hK.out _ _ ?_ (fun hHeld => ?_); (· exact (hm2.cell (a := ⟨p, 0, none⟩) HC.out.np d0)); clear hK K); try simp only [Act.put, List.getElem_toArray, List.getElem_cons_zero, List.getElem_cons_succ, List.setIfInBounds_toArray, List.set_cons_zero, List.set_cons_succ])
  ((refine wpAnyH_take (i := 12) (v := ?_) rfl (by kernel_rfl) (by kernel_rfl) (by kernel_rfl) (fun _ _ _ h => h) (Yields.yieldsIf (Or.inl ⟨by rfl, ?_⟩)) hHeld ?_; rotate_left 1; focus (intro w; go_simp; try with_reducible rfl)); try simp only [Act.put, List.getElem_toArray, List.getElem_cons_zero, List.getElem_cons_succ, List.setIfInBounds_toArray, List.set_cons_zero, List.set_cons_succ])
  ((refine wpAnyH_take (i := 13) (v := ?_) rfl (by kernel_rfl) (by kernel_rfl) (by kernel_rfl) (fun _ _ _ h => h) (Yields.yieldsIf (Or.inl ⟨by rfl, ?_⟩)) hHeld ?_; rotate_left 1; focus (intro w; go_simp; try with_reducible rfl)); try simp only [Act.put, List.getElem_toArray, List.getElem_cons_zero, List.getElem_cons_succ, List.setIfInBounds_toArray, List.set_cons_zero, List.set_cons_succ])
  ((refine wpAnyH_take (i := 14) (v := ?_) rfl (by kernel_rfl) (by kernel_rfl) (by kernel_rfl) (fun _ _ _ h => h) (Yields.yieldsIf (Or.inl ⟨by rfl, ?_⟩)) hHeld ?_; rotate_left 1; focus (intro w; go_simp; try with_reducible rfl)); try simp only [Act.put, List.getElem_toArray, List.getElem_cons_zero, List.getElem_cons_succ, List.setIfInBounds_toArray, List.set_cons_zero, List.set_cons_succ])
  ((refine wpAnyH_take (i := 15) (v := ?_) rfl (by kernel_rfl) (by kernel_rfl) (by kernel_rfl) (fun _ _ _ h => h) (Yields.yieldsIf (Or.inl ⟨by rfl, ?_⟩)) hHeld ?_; rotate_left 1; focus (intro w; go_simp; try with_reducible rfl)); try simp only [Act.put, List.getElem_toArray, List.getElem_cons_zero, List.getElem_cons_succ, List.setIfInBounds_toArray, List.set_cons_zero, List.set_cons_succ])
  ((refine wpAnyH_take (i := 16) (v := ?_) rfl (by kernel_rfl) (by kernel_rfl) (by kernel_rfl) (fun _ _ _ h => h) (Yields.yieldsIf (Or.inl ⟨by rfl, ?_⟩)) hHeld ?_; rotate_left 1; focus (intro w; go_simp; try with_reducible rfl)); try simp only [Act.put, List.getElem_toArray, List.getElem_cons_zero, List.getElem_cons_succ, List.setIfInBounds_toArray, List.set_cons_zero, List.set_cons_succ])
  refine wpAnyH_done (by kernel_rfl) ?_ _
  clear hHeld
  have hm2' : Mod Dc w w2 := Mod.of_drew hm2
  have hg2' : grewD Dc Dc2 w := hg2
  obtain ⟨D2, hD2, hgD⟩ := HC.out.cascade hc2 hg2' hm2'
  have hlt := fun k (hk : D k) => HC.out.lt hk
  have hoff2 : ∀ g, (Value.slice a E.length c).ownBlock = some g → ¬ D2 g ∧ w.heap.size ≤ g := fun g hg => by
    obtain ⟨o1, o2⟩ := hoff g hg
    have o2' : w.heap.size ≤ g := o2
    refine ⟨fun k => ?_, o2'⟩
    rcases (hD2.dd g).1 k with e | e | e | e
    · have := hlt p ((HC.out.dd p).2 (.inl rfl)); omega
    · have := hlt bb ((HC.out.dd bb).2 (.inr (.inl rfl))); omega
    · have := hlt bs ((HC.out.dd bs).2 (.inr (.inr (.inl rfl)))); omega
    · exact o1 e
  have hI : ExI w w2 D p tt q bb bs E R a c D2 0 := ⟨⟨_, _, _, by rw [List.drop_zero, HSp.out]; exact hD2⟩, hgD, hrow, hoff2, hm2'.mono (fun k _ hk => (HC.out.dd k).2 (.inr (.inr (.inr hk))))⟩
  have HI0 := Lib.hid hI
  clear hrow hc2 hg2 hoff hm2 hm2' hg2' hD2 hgD hoff2 hI d0 c0 HAd HEf HNw hlt
  obtain ⟨n, hn⟩ : ∃ n, E.length = n := ⟨_, rfl⟩
  rw [hn] at hcnt ⊢
  have HN := Lib.hid hn
  clear hn
  go_upto_region 5 with fail
  go_loopw [29] (fun v29 wr => ∃ (j : Nat) (D' : Nat → Prop), v29 = .int .i64 (j : Nat) ∧ j ≤ n ∧ ExI w wr D p tt q bb bs E R a c D' j) (fun v29 _ => n - (intOf v29).toNat)
  case atStart => exact ⟨0, D2, rfl, Nat.zero_le _, HI0.out⟩
  case round =>
    obtain ⟨j, D', rfl, hjn, hI⟩ := hrel
    have HI := Lib.hid hI
    obtain ⟨Dc', Db', Ds', hM⟩ := hI.mem
    by_cases hlt2 : j < n
    · have hlt' : (j : Int) < (n : Int) := by omega
      have j0' : (0 : Int) ≤ (j : Int) := by omega
      have wj : IntKind.i64.wrap ((j : Int) + 1) = (j : Int) + 1 := IntWalk.i64_in _ (by omega)
      obtain ⟨x, hx⟩ : ∃ x, E[j]? = some x := ⟨_, List.getElem?_eq_getElem (by rw [HN.out]; exact hlt2)⟩
      have hdr : E.drop j = x :: E.drop (j + 1) := by
        have hjl : j < E.length := by rw [HN.out]; exact hlt2
        rw [List.drop_eq_getElem_cons hjl]
        rw [List.getElem?_eq_getElem hjl] at hx
        injection hx with hx
        rw [hx]
      rw [hdr] at hM
      obtain ⟨ad0, had, z0, z1, z2⟩ := td_read hI.row.rd hx
      have hsub : (x :: E.drop (j + 1) ++ R).Sublist M := by
        rw [← HSp.out, ← hdr]
        exact List.Sublist.append_right (List.drop_sublist _ _) _
      have hxM : x ∈ M := hsub.subset (by simp)
      have hLs : DueL now (x :: E.drop (j + 1) ++ R) := ⟨HL.out.ord.sublist hsub, fun a ha b hb => HL.out.slots a (hsub.subset ha) b (hsub.subset hb), fun a ha b hb => HL.out.births a (hsub.subset ha) b (hsub.subset hb), fun a ha => HL.out.rng a (hsub.subset ha)⟩
      obtain ⟨_, n1, n2, n3⟩ := hLs.out (x := x) (M' := E.drop (j + 1) ++ R) (List.Perm.refl _) (List.pairwise_cons.1 hLs.ord).2
      obtain ⟨r1, r2, r3, r4, r5⟩ := HL.out.rng x hxM
      have hcan : canL (timedL R) x.slot = timedL R := by
        have hb : hasB (timedL R) x.slot = false := by
          cases hh : hasB (timedL R) x.slot with
          | false => rfl
          | true =>
            obtain ⟨y, hy, e⟩ := hasB_iff.1 hh
            exact absurd e ((n1 y).1 (List.mem_append_right _ (mem_timedL.1 hy).1)).2
        unfold canL
        rw [getT_miss r1 (find_none hb)]
        dsimp only
        rw [if_neg (by decide)]
      have hal : Pure wr (wr.alloc (.cells #[.int .u32 x.slot, .int .u64 x.dl, .int .u64 x.birth] 31)) := (Mod.refl _ wr).alloc _
      have h8 := heap_new (w := wr) (o := .cells #[.int .u32 x.slot, .int .u64 x.dl, .int .u64 x.birth] 31 (0, 0)) rfl
      have hdp := fun W (hW : Pure (wr.alloc (.cells #[.int .u32 x.slot, .int .u64 x.dl, .int .u64 x.birth] 31)) W) => ddrop_ok ((hM.pure hal).pure hW) (x := x) (M' := E.drop (j + 1) ++ R) (by simp) (by omega) r5 n1 n2 n3
      rw [hcan] at hdp
      unfold tdV at hdp
      subst had
      have HDp := Lib.hid hdp; have HAL := Lib.hid hal
      clear hM hI hdr hsub hxM hLs n1 n2 n3 hcan hdp hal hx
      go_upto_region 7 with fail
      generalize wr.alloc (.cells #[.int .u32 x.slot, .int .u64 x.dl, .int .u64 x.birth] 31) = W3 at *
      obtain ⟨b8, hb8⟩ : ∃ b8, wr.heap.size = b8 := ⟨_, rfl⟩
      rw [hb8] at h8 ⊢
      have HB8 := Lib.hid hb8
      clear hb8 z0 z1 z2
      have h8_0 := cell_of_row _ _ 0 _ _ _ h8; have h8_1 := cell_of_row _ _ 1 _ _ _ h8; have h8_2 := cell_of_row _ _ 2 _ _ _ h8; have h8_f := (fun j => frozen_of_row _ _ j _ _ h8); have h8_l := lt_of_block h8; simp at h8_0 h8_1 h8_2; have H_h8 := Lib.hid h8; clear h8
      go_upto_region 8 with (go_at_call 70; refine Calls.mono (HDp.out _ (by first | exact Mod.refl _ _ | exact (Mod.refl _ _).drew)) ?_; rintro e w5 ⟨rfl, ⟨D3, Dc3, Db3, Ds3, hM3, hg3⟩, hm3⟩)
      have hm5 : Mod D' wr w5 := (Mod.of_pure' HAL.out).trans (by first | exact hm3 | exact Mod.of_drew hm3)
      have hsw := HI.out.mod.size
      have hg5 : ∀ k, D3 k → D' k ∨ wr.heap.size ≤ k := fun k hk => by
        rcases hg3 k hk with e | e
        · exact .inl e
        · have e' : W3.heap.size ≤ k := e
          exact .inr (Nat.le_trans HAL.out.size e')
      have hrl : ∀ g, (Value.slice (some ad0) E.length c).ownBlock = some g → g < wr.heap.size := fun g hg => owns_lt HI.out.row hg
      have hI5 : ExI w w5 D p tt q bb bs E R (some ad0) c D3 (j + 1) := ⟨⟨_, _, _, hM3⟩, fun k hk => (by
          rcases hg5 k hk with e | e
          · exact HI.out.grew k e
          · exact .inr (Nat.le_trans hsw e)), owns_mod HI.out.row hm5 (fun g hg => (HI.out.off g hg).1), fun g hg => ⟨fun hk => (by
          rcases hg5 g hk with e | e
          · exact (HI.out.off g hg).1 e
          · have := hrl g hg; omega), (HI.out.off g hg).2⟩, HI.out.mod.trans' hm5 (fun _ _ h => h) (fun k hk h => (by
          rcases HI.out.grew k h with e | e
          · exact e
          · omega))⟩
      have HI5 := Lib.hid hI5
      clear hm3 hg3 hM3 hm5 hg5 hsw hrl hI5
      go_wp2
      go_roundw
      case rel => exact ⟨j + 1, D3, by go_num, hlt2, HI5.out⟩
      case measure => simp [intOf]; omega
    · have e : j = n := by omega
      subst e
      have hd0 : E.drop j = [] := List.drop_of_length_le (by rw [HN.out]; exact Nat.le_refl _)
      rw [hd0, List.nil_append] at hM
      have hF : DueAt wr D' p tt R := ⟨_, _, _, _, _, _, hM, HR.out⟩
      have HF := Lib.hid hF
      clear hM hI hd0 hF
      go_wp2
      refine bodyPost_ret (v := .slice a j c) (by simp [results, Tryd.results37, go_sem]) rfl ⟨a, c, by rw [HN.out], HI.out.row, ⟨D', HF.out, HI.out.grew, fun g hg => HI.out.off g hg⟩, HI.out.mod⟩
end
end Go.Proofs.YtlalpenfgkfkpaaDoor

/- due: Renumber. Conditions: the deadlines lie in memory, the numbers are read. -/
namespace Go.Proofs.YtlalpenfgkfkpaaDoor
open Go.RowKit Go.Shelf
set_option maxRecDepth 100000
section
variable {w w' : World} {D : Nat → Prop} {p now q bb bs : Nat} {Dc : Nat → Prop} {Db Ds : DataW Unit} {M M' L acc : List Td} {x : Td} {tv : List Nat}
def renR (tv : List Nat) (M : List Td) : Int := if (renL tv [] M).isSome then 0 else 2
def renM (tv : List Nat) (M : List Td) : List Td := (renL tv [] M).getD M
/-- Those that are numbered already, while the rest is ahead. -/
structure RnP (now : Nat) (M : List Td) (tv : List Nat) (acc : List Td) (j : Nat) : Prop where
  key : keyL acc = keyL (M.take j)
  law : DueL now acc
  rest : renL tv [] M = renL tv acc (M.drop j)
theorem RnP.start (h : DueL now M) : RnP now M tv [] 0 := ⟨rfl, DueL.nil _, rfl⟩
theorem keyL_append (A B : List Td) : keyL (A ++ B) = keyL A ++ keyL B := by unfold keyL; simp
theorem RnP.next {j t : Nat} (h : RnP now M tv acc j) (hM : DueL now M) (hx : M[j]? = some x) (ht : tv[x.slot]? = some t) (h4 : t < 4194304) (hb : hasB acc t = false) :
    RnP now M tv (acc ++ [⟨t, x.dl, x.birth⟩]) (j + 1) ∧ putL acc ⟨t, x.dl, x.birth⟩ = acc ++ [⟨t, x.dl, x.birth⟩] ∧ (∀ y ∈ acc, y.slot ≠ t) ∧ (∀ y ∈ acc, y.birth ≠ x.birth) ∧ DueL now (acc ++ [⟨t, x.dl, x.birth⟩]) := by
  have hj : j < M.length := (List.getElem?_eq_some_iff.1 hx).1
  have hxe : M[j] = x := (List.getElem?_eq_some_iff.1 hx).2
  have htk : M.take (j + 1) = M.take j ++ [x] := by rw [List.take_succ_eq_append_getElem hj, hxe]
  have hdr : M.drop j = x :: M.drop (j + 1) := by rw [List.drop_eq_getElem_cons hj, hxe]
  have hk : keyL (acc ++ [⟨t, x.dl, x.birth⟩]) = keyL (M.take (j + 1)) := by rw [htk, keyL_append, keyL_append, h.key]; rfl
  have hs := sorted_key hk.symm (hM.ord.sublist (List.take_sublist _ _))
  have n1 : ∀ y ∈ acc, y.slot ≠ t := fun y hy e => by rw [hasB_iff.2 ⟨y, hy, e⟩] at hb; cases hb
  have n2 : ∀ y ∈ acc, y.birth ≠ x.birth := fun y hy e => by
    have h1 := (List.pairwise_append.1 hs).2.2 y hy ⟨t, x.dl, x.birth⟩ (by simp)
    obtain ⟨z, hz, e1, e2⟩ := mem_key h.key.symm hy
    have hzM := (List.take_sublist _ _).subset hz
    have hzx : z = x := hM.births z hzM x (List.mem_of_getElem? hx) (by rw [e2, e])
    unfold bef at h1
    rw [← e1, hzx] at h1
    simp at h1
    omega
  obtain ⟨r1, r2, r3, r4, r5⟩ := hM.rng x (List.mem_of_getElem? hx)
  have hp := h.law.put (x := ⟨t, x.dl, x.birth⟩) n1 n2 ⟨h4, r2, r3, r4, r5⟩
  have hpe : putL acc ⟨t, x.dl, x.birth⟩ = acc ++ [⟨t, x.dl, x.birth⟩] := sorted_uniq hp.ord hs (putL_perm.trans (List.perm_append_singleton _ _).symm)
  refine ⟨⟨hk, by rw [← hpe]; exact hp, ?_⟩, hpe, n1, n2, by rw [← hpe]; exact hp⟩
  rw [h.rest, hdr]
  conv => lhs; unfold renL
  rw [ht]
  simp only
  rw [if_pos ⟨h4, hb⟩]
theorem RnP.bad {j : Nat} (h : RnP now M tv acc j) (hx : M[j]? = some x) (hb : ∀ t, tv[x.slot]? = some t → ¬ (t < 4194304 ∧ hasB acc t = false)) : renR tv M = 2 ∧ renM tv M = M := by
  have hj : j < M.length := (List.getElem?_eq_some_iff.1 hx).1
  have hxe : M[j] = x := (List.getElem?_eq_some_iff.1 hx).2
  have hdr : M.drop j = x :: M.drop (j + 1) := by rw [List.drop_eq_getElem_cons hj, hxe]
  have : renL tv [] M = none := by
    rw [h.rest, hdr]
    unfold renL
    split
    · rename_i t ht
      rw [if_neg (hb t ht)]
    · rfl
  unfold renR renM
  rw [this]
  exact ⟨rfl, rfl⟩
theorem RnP.fin (h : RnP now M tv acc M.length) : renR tv M = 0 ∧ renM tv M = acc := by
  have : renL tv [] M = some acc := by
    rw [h.rest, List.drop_length]
    rfl
  unfold renR renM
  rw [this]
  exact ⟨rfl, rfl⟩
/-- The whole box is copied over. -/
theorem DueAt.over {D2 : Nat → Prop} {p2 : Nat} (h : DueAt w D p now M) (h2 : DueAt w D2 p2 now M') (hd : ∀ k, D k → ¬ D2 k) :
    ∃ q2 b2 s2, (w.cell? ⟨p2, 0, none⟩ = some (lkP q2) ∧ w.cell? ⟨p2, 1, none⟩ = some (.map (some b2)) ∧ w.cell? ⟨p2, 2, none⟩ = some (.map (some s2))) ∧
      (∃ v0 v1 v2, w.heap[p]? = some (.cells #[v0, v1, v2] 85 (0, 0)) ∧ w.heap[p2]? = some (.cells #[lkP q2, .map (some b2), .map (some s2)] 85 (0, 0))) ∧
      ∃ D', DueAt (((w.setCell ⟨p, 0, none⟩ (lkP q2)).setCell ⟨p, 1, none⟩ (.map (some b2))).setCell ⟨p, 2, none⟩ (.map (some s2))) D' p now M' ∧ (∀ k, D' k → D k ∨ D2 k) ∧
        Mod (fun k => k = p) w (((w.setCell ⟨p, 0, none⟩ (lkP q2)).setCell ⟨p, 1, none⟩ (.map (some b2))).setCell ⟨p, 2, none⟩ (.map (some s2))) := by
  obtain ⟨q, bb, bs, Dc, Db, Ds, h1, _⟩ := h
  obtain ⟨q2, b2, s2, Dc2, Db2, Ds2, k1, k2⟩ := h2
  have hp : D p := (h1.dd p).2 (.inl rfl)
  have np : ¬ D2 p := hd p hp
  have hm : Mod (fun k => k = p) w (((w.setCell ⟨p, 0, none⟩ (lkP q2)).setCell ⟨p, 1, none⟩ (.map (some b2))).setCell ⟨p, 2, none⟩ (.map (some s2))) := (((Mod.refl (fun k => k = p) w).setCell (p := ⟨p, 0, none⟩) (fun _ => rfl) _).setCell (p := ⟨p, 1, none⟩) (fun _ => rfl) _).setCell (p := ⟨p, 2, none⟩) (fun _ => rfl) _
  have a1 : p ≠ b2 := fun e => np (e ▸ (k1.dd b2).2 (.inr (.inl rfl)))
  have a2 : p ≠ s2 := fun e => np (e ▸ (k1.dd s2).2 (.inr (.inr (.inl rfl))))
  have a3 : ¬ Dc2 p := fun e => np ((k1.dd p).2 (.inr (.inr (.inr e))))
  refine ⟨q2, b2, s2, k1.cells, ⟨_, _, _, h1.box, k1.box⟩, fun k => k = p ∨ k = b2 ∨ k = s2 ∨ Dc2 k, ⟨q2, b2, s2, Dc2, Db2, Ds2, ⟨fin3 h1.box, k1.cas.frame hm (fun k hk e => a3 (e ▸ hk)), k1.births.mod hm (fun e => a1 e.symm), k1.slots.mod hm (fun e => a2 e.symm), a3, k1.nbb, k1.nbs, ⟨a1, a2, k1.ne.2.2⟩, fun k => Iff.rfl⟩, k2⟩, fun k hk => ?_, hm⟩
  rcases hk with rfl | rfl | rfl | e
  · exact .inl hp
  · exact .inr ((k1.dd k).2 (.inr (.inl rfl)))
  · exact .inr ((k1.dd k).2 (.inr (.inr (.inl rfl))))
  · exact .inr ((k1.dd k).2 (.inr (.inr (.inr e))))
end
end Go.Proofs.YtlalpenfgkfkpaaDoor

/- due: Renumber, walked. Conditions: the deadlines lie in memory, the numbers are read. -/
namespace Go.Proofs.YtlalpenfgkfkpaaDoor
open Go.RowKit Go.Shelf
set_option maxRecDepth 100000
section
variable {w w' : World} {D : Nat → Prop} {p now q bb bs : Nat} {Dc : Nat → Prop} {Db Ds : DataW Unit} {M M' L acc : List Td} {x : Td} {tv : List Nat}
structure RnI (w wr : World) (now : Nat) (M : List Td) (tv : List Nat) (a : Option Addr) (c p2 : Nat) (D2 : Nat → Prop) (acc : List Td) (j : Nat) : Prop where
  law : RnP now M tv acc j
  out : DueAt wr D2 p2 now acc
  fresh : ∀ k, D2 k → w.heap.size ≤ k
  row : TdRow wr a c M
  off : ∀ g, (Value.slice a M.length c).ownBlock = some g → ¬ D2 g
  pure : Pure w wr
theorem DueAt.mem (h : DueAt w D p now M) : ∃ q bb bs Dc Db Ds, DueMem w D p now q bb bs Dc Db Ds M (timedL M) := by
  obtain ⟨q, bb, bs, Dc, Db, Ds, h1, h2⟩ := h
  exact ⟨q, bb, bs, Dc, Db, Ds, h1⟩
set_option maxHeartbeats 4000000 in
theorem DueAt.renumber (h : DueAt w D p now M) {a0 : Option Addr} {n0 c0 : Nat} (hto : ReadAt w (.slice a0 n0 c0) 1 (nums tv)) (hn0 : tv.length = n0) (hn4 : n0 ≤ 4194304) (ht32 : ∀ t ∈ tv, t ≤ 4294967295) :
    Calls Tryd.prog 43 #[lkP p, .slice a0 n0 c0] w fun e w' => e = .returned (.int .i64 (renR tv M)) ∧ (∃ D', DueAt w' D' p now (renM tv M) ∧ grewD D D' w) ∧ Mod D w w' := by
  have h' := h
  have hnow := h.now64
  obtain ⟨q, bb, bs, Dc, Db, Ds, h1, h2⟩ := h
  have HCk := Lib.hid (dcheck0 h1)
  have HNw := Lib.hid h1.cas.now_
  obtain ⟨c00, c01, c02⟩ := h1.cells
  have HNew := Lib.hid (fun W => dunew_ok W hnow)
  have HAll := Lib.hid (fun W (hW : Pure w W) => duall_ok (h1.pure hW) h2)
  have hcnt := h2.count
  have HA := Lib.hid h'; have HL := Lib.hid h2; have HTo := Lib.hid hto; have HN0 := Lib.hid hn0; have HT32 := Lib.hid ht32
  obtain ⟨E, hE⟩ : ∃ E, renR tv M = E := ⟨_, rfl⟩
  obtain ⟨R, hR⟩ : ∃ R, renM tv M = R := ⟨_, rfl⟩
  rw [hE, hR]
  have HE := Lib.hid hE; have HRm := Lib.hid hR
  obtain ⟨ln, hln⟩ : ∃ ln, M.length = ln := ⟨_, rfl⟩
  rw [hln] at hcnt HAll
  have HLn := Lib.hid hln
  clear h' h1 h2 hto hn0 ht32 hE hR c01 c02 hln hnow
  go_enter Tryd.func43, Tryd.ntmps43
  go_upto_region 6 with (first
    | (go_at_call 69; refine Calls.mono HCk.out ?_; rintro e w' ⟨rfl, rfl⟩)
    | (go_at_call 28; refine Calls.mono HNw.out ?_; rintro e w' ⟨rfl, rfl⟩)
    | (go_at_call 33; refine Calls.mono (HNew.out _) ?_; rintro e w1 ⟨p2, D2, rfl, ho, hp1, hf2⟩)
    | (go_at_call 36; refine Calls.mono (HAll.out _ hp1) ?_; rintro e w2 ⟨a, c, rfl, hrow, hfr, hp2⟩))
  have hI : RnI w w2 now M tv a c p2 D2 [] 0 := ⟨RnP.start HL.out, ho.pure hp2, hf2, hrow, fun g hg k => by
      have e1 := hfr g (by rw [← HLn.out]; exact hg)
      have e2 := ho.lt k
      omega, hp1.trans hp2⟩
  have HI0 := Lib.hid hI
  clear ho hf2 hrow hfr hp1 hp2 hI c00 HCk HNw HNew HAll
  go_loopw [26] (fun v26 wr => ∃ (j : Nat) (D2 : Nat → Prop) (acc : List Td), v26 = .int .i64 (j : Nat) ∧ j ≤ ln ∧ RnI w wr now M tv a c p2 D2 acc j) (fun v26 _ => ln - (intOf v26).toNat)
  case atStart => exact ⟨0, D2, [], rfl, Nat.zero_le _, HI0.out⟩
  case round =>
    clear HI0
    obtain ⟨j, D3, acc, rfl, hjn, hI⟩ := hrel
    have HI := Lib.hid hI
    by_cases hlt2 : j < ln
    · have hlt' : (j : Int) < (ln : Int) := by omega
      have j0' : (0 : Int) ≤ (j : Int) := by omega
      have wj : IntKind.i64.wrap ((j : Int) + 1) = (j : Int) + 1 := IntWalk.i64_in _ (by omega)
      obtain ⟨x, hx⟩ : ∃ x, M[j]? = some x := ⟨_, List.getElem?_eq_getElem (by rw [HLn.out]; exact hlt2)⟩
      obtain ⟨ad0, had, z0, z1, z2⟩ := td_read hI.row.rd hx
      subst had
      obtain ⟨r1, r2, r3, r4, r5⟩ := HL.out.rng x (List.mem_of_getElem? hx)
      have hal : Pure wr (wr.alloc (.cells #[.int .u32 x.slot, .int .u64 x.dl, .int .u64 x.birth] 31)) := (Mod.refl _ wr).alloc _
      have h8 := heap_new (w := wr) (o := .cells #[.int .u32 x.slot, .int .u64 x.dl, .int .u64 x.birth] 31 (0, 0)) rfl
      have hoff8 : ¬ D3 wr.heap.size := fun k => by have := hI.out.lt k; omega
      have HAL := Lib.hid hal; have HX := Lib.hid hx
      have ws : IntKind.i64.wrap (x.slot : Int) = (x.slot : Int) := IntWalk.i64_in _ (by omega)
      clear hal hx hI
      go_upto_region 8 with fail
      generalize wr.alloc (.cells #[.int .u32 x.slot, .int .u64 x.dl, .int .u64 x.birth] 31) = W3 at *
      obtain ⟨b8, hb8⟩ : ∃ b8, wr.heap.size = b8 := ⟨_, rfl⟩
      rw [hb8] at h8 hoff8 ⊢
      have HB8 := Lib.hid hb8
      clear hb8 z0 z1 z2
      have H8 := Lib.hid h8
      have h8_0 := cell_of_row _ _ 0 _ _ _ h8; have h8_1 := cell_of_row _ _ 1 _ _ _ h8; have h8_2 := cell_of_row _ _ 2 _ _ _ h8; have h8_f := (fun j => frozen_of_row _ _ j _ _ h8); have h8_l := lt_of_block h8; simp at h8_0 h8_1 h8_2; have H_h8 := Lib.hid h8; clear h8
      have hsw : w.heap.size ≤ b8 := by have := HI.out.pure.size; have := HB8.out; omega
      by_cases hb : x.slot < n0
      · have hb1 : decide ((n0 : Int) ≤ (x.slot : Int)) = false := decide_eq_false (by omega)
        have hb2 : decide (n0 ≤ x.slot) = false := decide_eq_false (by omega)
        obtain ⟨t, ht⟩ : ∃ t, tv[x.slot]? = some t := ⟨_, List.getElem?_eq_getElem (by rw [HN0.out]; exact hb)⟩
        have ht32 : t ≤ 4294967295 := HT32.out t (List.mem_of_getElem? ht)
        obtain ⟨ad1, had1, y0⟩ := read_num ((HTo.out.frame (HI.out.pure.trans HAL.out) (fun _ _ h => h))) ht
        subst had1
        have x0 : (0 : Int) ≤ (x.slot : Int) := by omega
        have x1 : (x.slot : Int) < (n0 : Int) := by omega
        have xn : (x.slot : Int).toNat = x.slot := by omega
        have HT := Lib.hid ht
        clear ht
        go_upto_region 11 with fail
        have h8s := heap_setCell_same W3 b8 0 _ _ (.int .u32 t) H8.out
        have hmd : Mod (fun k => k = b8) W3 (W3.setCell ⟨b8, 0, none⟩ (.int .u32 t)) := (Mod.refl (fun k => k = b8) W3).setCell (p := ⟨b8, 0, none⟩) (fun _ => rfl) _
        have h84 : (W3.setCell ⟨b8, 0, none⟩ (.int .u32 t)).heap[b8]? = some (.cells #[.int .u32 t, .int .u64 x.dl, .int .u64 x.birth] 31 (0, 0)) := by rw [h8s]; rfl
        have hmw : Mod (fun k => k = b8) wr (W3.setCell ⟨b8, 0, none⟩ (.int .u32 t)) := (Mod.of_pure' HAL.out).trans hmd
        have hO := HI.out.out.frame hmw (fun k hk e => hoff8 (e ▸ hk))
        have hrw : TdRow (W3.setCell ⟨b8, 0, none⟩ (.int .u32 t)) (some ad0) c M := owns_mod HI.out.row hmw (fun g hg e => by have := owns_lt HI.out.row hg; have := HB8.out; omega)
        have hpw : Pure w (W3.setCell ⟨b8, 0, none⟩ (.int .u32 t)) := HI.out.pure.then hmw (fun k hk e => by omega)
        have hsz4 : b8 ≤ (W3.setCell ⟨b8, 0, none⟩ (.int .u32 t)).heap.size := by have := hmw.size; have := HB8.out; omega
        have HO := Lib.hid hO; have HRW := Lib.hid hrw; have HPW := Lib.hid hpw; have HSZ4 := Lib.hid hsz4
        clear h8_0 h8_1 h8_2 h8_f h8_l
        clear H_h8 h8s hmd hmw hO hrw hpw y0 H8 hsz4
        generalize W3.setCell ⟨b8, 0, none⟩ (.int .u32 t) = W4 at *
        obtain ⟨q2, bb2, bs2, Dc2, Db2, Ds2, hM2⟩ := HO.out.mem
        have hck := dcheck_ok hM2 (s := t) ht32
        obtain ⟨d0, d1, d2⟩ := hM2.cells
        have hl2 : p2 < W4.heap.size := HO.out.lt HO.out.self
        by_cases h4 : t < 4194304
        · rw [if_pos h4] at hck
          have HCk2 := Lib.hid hck
          have H84 := Lib.hid h84
          have HM2 := Lib.hid hM2
          clear hck hM2
          have h84_0 := cell_of_row _ _ 0 _ _ _ h84; have h84_1 := cell_of_row _ _ 1 _ _ _ h84; have h84_2 := cell_of_row _ _ 2 _ _ _ h84; have h84_f := (fun j => frozen_of_row _ _ j _ _ h84); have h84_l := lt_of_block h84; simp at h84_0 h84_1 h84_2; have H_h84 := Lib.hid h84; clear h84
          go_upto_region 14 with (go_at_call 69; refine Calls.mono HCk2.out ?_; rintro e w' ⟨rfl, rfl⟩)
          by_cases hh : hasB acc t = true
          · obtain ⟨y, hy, hys⟩ := hasB_iff.1 hh
            obtain ⟨bR, bM⟩ := HI.out.law.bad HX.out (fun t' ht' => by rw [HT.out] at ht'; injection ht' with ht'; subst ht'; intro k; rw [hh] at k; cases k.2)
            have hlk := fun (W : World) (hW : Pure W4 W) => (HM2.out.slots.mod hW (fun h => h)).look hy (by omega)
            rw [hys] at hlk
            unfold tdV at hlk
            have hk1 := hlk W4 (Mod.refl _ _)
            have hk2 := hlk W4.drew (Mod.refl _ _).drew
            have hk3 := hlk (W4.alloc (.cells #[.int .u32 0, .int .u64 0, .int .u64 0] 31)) ((Mod.refl _ _).alloc _)
            have hk4 := hlk (W4.alloc (.cells #[.int .u32 0, .int .u64 0, .int .u64 0] 31)).drew ((Mod.refl _ _).alloc _).drew
            have hER : E = 2 ∧ R = M := ⟨by rw [← HE.out, bR], by rw [← HRm.out, bM]⟩
            have HER := Lib.hid hER
            clear hlk bR bM hy hys hER hh
            go_cut [11] (fun v wx => v = .bool true ∧ Pure W4 wx)
            case first =>
              go_region
              all_goals
                (try go_wp2)
                go_meet
                first
                  | exact ⟨rfl, (Mod.refl _ _).alloc _⟩
                  | exact ⟨rfl, ((Mod.refl _ _).alloc _).drew⟩
            case rest =>
              obtain ⟨rfl, hpx⟩ := hcut
              have hpf := HPW.out.trans hpx
              have HPF := Lib.hid hpf
              clear hpf
              go_wp2
              exact bodyPost_ret (v := .int .i64 2) (by simp [results, Tryd.results43, go_sem]) rfl ⟨by rw [HER.out.1], ⟨D, by rw [HER.out.2]; exact HA.out.pure HPF.out, grewD.refl _ _⟩, Mod.of_pure' HPF.out⟩
          · have hh0 : hasB acc t = false := by simpa using hh
            obtain ⟨q1, q2', q3, q4, q5⟩ := HI.out.law.next HL.out HX.out HT.out h4 hh0
            have hlk := fun (W : World) (hW : Pure W4 W) => (HM2.out.slots.mod hW (fun h => h)).look_no (s := t) (by omega) q3
            unfold tdV at hlk
            have hk1 := hlk W4 (Mod.refl _ _)
            have hk2 := hlk W4.drew (Mod.refl _ _).drew
            have hk3 := hlk (W4.alloc (.cells #[.int .u32 0, .int .u64 0, .int .u64 0] 31)) ((Mod.refl _ _).alloc _)
            have hk4 := hlk (W4.alloc (.cells #[.int .u32 0, .int .u64 0, .int .u64 0] 31)).drew ((Mod.refl _ _).alloc _).drew
            have hpu := fun (W : World) (hW : Pure W4 W) => (HO.out.pure hW).put (x := ⟨t, x.dl, x.birth⟩) q3 q4 ⟨h4, r2, r3, r4, r5⟩
            rw [q2'] at hpu
            unfold tdV at hpu
            have HPu := Lib.hid hpu; have HQ1 := Lib.hid q1
            clear hlk q1 q2' q3 q4 q5 hpu hh hh0
            go_cut [11] (fun v wx => v = .bool false ∧ Pure W4 wx)
            case first =>
              go_region
              all_goals
                (try go_wp2)
                go_meet
                first
                  | exact ⟨rfl, (Mod.refl _ _).alloc _⟩
                  | exact ⟨rfl, ((Mod.refl _ _).alloc _).drew⟩
            case rest =>
              obtain ⟨rfl, hpx⟩ := hcut
              have h85 := hpx.heap (fun h => h) H84.out
              have HPX := Lib.hid hpx
              clear h84_0 h84_1 h84_2 h84_f h84_l
              clear H_h84 d0 d1 d2 hl2 hk1 hk2 hk3 hk4 hpx HCk2 HM2 H84
              have h85_0 := cell_of_row _ _ 0 _ _ _ h85; have h85_1 := cell_of_row _ _ 1 _ _ _ h85; have h85_2 := cell_of_row _ _ 2 _ _ _ h85; have h85_f := (fun j => frozen_of_row _ _ j _ _ h85); have h85_l := lt_of_block h85; simp at h85_0 h85_1 h85_2; have H_h85 := Lib.hid h85; clear h85
              go_upto_region 18 with (go_at_call 71; refine Calls.mono (HPu.out _ (by first | exact HPX.out | exact HPX.out.drew)) ?_; rintro e w5 ⟨rfl, ⟨D4, hD4, hg4⟩, hm4⟩)
              have hm5 : Mod D3 W4 w5 := (Mod.of_pure' HPX.out).trans (by first | exact hm4 | exact Mod.of_drew hm4)
              have hg5 : ∀ k, D4 k → D3 k ∨ W4.heap.size ≤ k := fun k hk => by
                rcases hg4 k hk with e | e
                · exact .inl e
                · exact .inr (Nat.le_trans HPX.out.size e)
              have hI5 : RnI w w5 now M tv (some ad0) c p2 D4 (acc ++ [⟨t, x.dl, x.birth⟩]) (j + 1) := ⟨HQ1.out, hD4, fun k hk => (by
                  rcases hg5 k hk with e | e
                  · exact HI.out.fresh k e
                  · have := HSZ4.out; omega), owns_mod HRW.out hm5 (fun g hg => HI.out.off g hg), fun g hg hk => (by
                  rcases hg5 g hk with e | e
                  · exact HI.out.off g hg e
                  · have := owns_lt HRW.out hg; omega), HPW.out.then hm5 (fun k hk e => by have := HI.out.fresh k e; omega)⟩
              have HI5 := Lib.hid hI5
              clear hm4 hg4 hD4 hm5 hg5 hI5
              go_wp2
              go_roundw
              case rel => exact ⟨j + 1, D4, acc ++ [⟨t, x.dl, x.birth⟩], by go_num, hlt2, HI5.out⟩
              case measure => simp [intOf]; omega
        · rw [if_neg h4] at hck
          have HCk2 := Lib.hid hck
          obtain ⟨bR, bM⟩ := HI.out.law.bad HX.out (fun t' ht' => by rw [HT.out] at ht'; injection ht' with ht'; subst ht'; exact fun k => h4 k.1)
          have hER : E = 2 ∧ R = M := ⟨by rw [← HE.out, bR], by rw [← HRm.out, bM]⟩
          have HER := Lib.hid hER
          clear hck bR bM hER hM2
          have h84_0 := cell_of_row _ _ 0 _ _ _ h84; have h84_1 := cell_of_row _ _ 1 _ _ _ h84; have h84_2 := cell_of_row _ _ 2 _ _ _ h84; have h84_f := (fun j => frozen_of_row _ _ j _ _ h84); have h84_l := lt_of_block h84; simp at h84_0 h84_1 h84_2; have H_h84 := Lib.hid h84; clear h84
          go_wp2_with (go_at_call 69; refine Calls.mono HCk2.out ?_; rintro e w' ⟨rfl, rfl⟩)
          exact bodyPost_ret (v := .int .i64 2) (by simp [results, Tryd.results43, go_sem]) rfl ⟨by rw [HER.out.1], ⟨D, by rw [HER.out.2]; exact HA.out.pure HPW.out, grewD.refl _ _⟩, Mod.of_pure' HPW.out⟩
      · have hb1 : decide ((n0 : Int) ≤ (x.slot : Int)) = true := decide_eq_true (by omega)
        have hb2 : decide (n0 ≤ x.slot) = true := decide_eq_true (by omega)
        obtain ⟨bR, bM⟩ := HI.out.law.bad HX.out (fun t' ht' => by rw [List.getElem?_eq_none (by rw [HN0.out]; omega)] at ht'; cases ht')
        have hER : E = 2 ∧ R = M := ⟨by rw [← HE.out, bR], by rw [← HRm.out, bM]⟩
        have HER := Lib.hid hER
        clear bR bM hER
        go_wp2
        have hpf := HI.out.pure.trans HAL.out
        exact bodyPost_ret (v := .int .i64 2) (by simp [results, Tryd.results43, go_sem]) rfl ⟨by rw [HER.out.1], ⟨D, by rw [HER.out.2]; exact HA.out.pure hpf, grewD.refl _ _⟩, Mod.of_pure' hpf⟩
    · have e : j = ln := by omega
      subst e
      have hlw := HI.out.law
      rw [← HLn.out] at hlw
      obtain ⟨bR, bM⟩ := hlw.fin
      have hER : E = 0 ∧ R = acc := ⟨by rw [← HE.out, bR], by rw [← HRm.out, bM]⟩
      have hA := HA.out.pure HI.out.pure
      have hlt := fun k (hk : D k) => HA.out.lt hk
      obtain ⟨q2, b2, s2, ⟨d0, d1, d2⟩, ⟨v0, v1, v2, hb8, hb9⟩, D', hD', hg', hm'⟩ := hA.over HI.out.out (fun k hk e => by have := HI.out.fresh k e; have := hlt k hk; omega)
      have hge : grewD D D' w := fun k hk => by
        rcases hg' k hk with e | e
        · exact .inl e
        · exact .inr (HI.out.fresh k e)
      have hmo : Mod D w _ := (Mod.of_pure' HI.out.pure).trans (hm'.mono (fun k _ e => by rw [e]; exact HA.out.self))
      have HER := Lib.hid hER; have HD' := Lib.hid hD'; have HGE := Lib.hid hge; have HMO := Lib.hid hmo
      clear hI hlw bR bM hER hA hlt hD' hg' hm' hge hmo
      have p20 : p2 ≠ p := fun e => by have e1 := HI.out.fresh p2 HI.out.out.self; have e2 := HA.out.lt HA.out.self; omega
      have hb8_0 := cell_of_row _ _ 0 _ _ _ hb8; have hb8_1 := cell_of_row _ _ 1 _ _ _ hb8; have hb8_2 := cell_of_row _ _ 2 _ _ _ hb8; have hb8_f := (fun j => frozen_of_row _ _ j _ _ hb8); have hb8_l := lt_of_block hb8; simp at hb8_0 hb8_1 hb8_2; have H_hb8 := Lib.hid hb8; clear hb8
      have hb9_0 := cell_of_row _ _ 0 _ _ _ hb9; have hb9_1 := cell_of_row _ _ 1 _ _ _ hb9; have hb9_2 := cell_of_row _ _ 2 _ _ _ hb9; have hb9_f := (fun j => frozen_of_row _ _ j _ _ hb9); have hb9_l := lt_of_block hb9; simp at hb9_0 hb9_1 hb9_2; have H_hb9 := Lib.hid hb9; clear hb9
      go_wp2
      exact bodyPost_ret (v := .int .i64 0) (by simp [results, Tryd.results43, go_sem]) rfl ⟨by rw [HER.out.1], ⟨D', by rw [HER.out.2]; exact HD'.out, HGE.out⟩, HMO.out⟩
end
end Go.Proofs.YtlalpenfgkfkpaaDoor

/- The reference of cascade: Before, Put, Out, Next, Advance. Conditions: the lists are read. -/
namespace Go.Proofs.YtlalpenfgkfkpaaDoor
open Go.RowKit Go.Shelf
set_option maxRecDepth 100000
theorem rd_pre {w : World} {a : Option Addr} {n c j : Nat} {L : List Td} (h : ReadAt w (.slice a n c) 3 (L.flatMap tdC)) (hj : j ≤ n) : ReadAt w (.slice a j c) 3 ((L.take j).flatMap tdC) := by
  obtain ⟨a', n', c', e, hl, h1, h0, hc⟩ := h
  injection e with e1 e2 e3
  subst e1 e2 e3
  have hln : L.length = n := by rw [flat_length tdC 3 (fun _ => rfl)] at hl; omega
  refine ⟨a, j, c, rfl, by rw [flat_length tdC 3 (fun _ => rfl), List.length_take]; omega, tdC_one _, fun e => by have := h0 e; omega, fun ad ha i u hu => hc ad ha i u ?_⟩
  rw [← List.take_append_drop j L, List.flatMap_append]
  have hi := (List.getElem?_eq_some_iff.1 hu).1
  rw [List.getElem?_append_left hi]
  exact hu
theorem rd_suf {w : World} {ad : Addr} {n c j k : Nat} {L : List Td} (h : ReadAt w (.slice (some ad) n c) 3 (L.flatMap tdC)) (hj : j ≤ n) (hk : k = n - j) : ReadAt w (.slice (some (ad.add (j * 3))) k (c - j)) 3 ((L.drop j).flatMap tdC) := by
  subst hk
  obtain ⟨a', n', c', e, hl, h1, h0, hc⟩ := h
  injection e with e1 e2 e3
  subst e1 e2 e3
  have hln : L.length = n := by rw [flat_length tdC 3 (fun _ => rfl)] at hl; omega
  refine ⟨some (ad.add (j * 3)), n - j, c - j, rfl, by rw [flat_length tdC 3 (fun _ => rfl), List.length_drop]; omega, tdC_one _, fun e => (by cases e), fun ad' ha i u hu => ?_⟩
  injection ha with ha
  subst ha
  rw [Go.Deep.add_add]
  refine hc ad rfl (j * 3 + i) u ?_
  rw [← List.take_append_drop j L, List.flatMap_append, List.getElem?_append_right (by rw [flat_length tdC 3 (fun _ => rfl), List.length_take]; omega), flat_length tdC 3 (fun _ => rfl), List.length_take]
  rw [show j * 3 + i - min j L.length * 3 = i by rw [Nat.min_eq_left (by omega)]; omega]
  exact hu
theorem rd_sufI {w : World} {ad : Addr} {n c j : Nat} {L : List Td} (h : ReadAt w (.slice (some ad) n c) 3 (L.flatMap tdC)) (hj : j ≤ n) (hc : n ≤ c) : ReadAt w (.slice (if c = j then some ad else some (ad.add (j * 3))) (n - j) (c - j)) 3 ((L.drop j).flatMap tdC) := by
  by_cases e : c = j
  · rw [if_pos e]
    have hl : L.length = n := by
      obtain ⟨a', n', c', e, hl, _⟩ := h
      injection e with e1 e2 e3
      subst e2
      rw [flat_length tdC 3 (fun _ => rfl)] at hl; omega
    have e0 : n - j = 0 := by omega
    rw [e0, List.drop_of_length_le (by omega)]
    exact ⟨some ad, 0, c - j, rfl, rfl, (fun u hu => by cases hu), (fun h => by cases h), fun ad' ha i u hu => by cases hu⟩
  · rw [if_neg e]
    exact rd_suf h hj rfl
theorem one_row {w : World} {x : Td} {B : Nat} (hB : B = w.heap.size) : (w.alloc (.cells #[.int .u32 x.slot, .int .u64 x.dl, .int .u64 x.birth] 31)).ownsRow 0 31 3 (.slice (some ⟨B, 0, none⟩) 1 1) 1 (tdC x) :=
  ⟨rfl, .inr ⟨B, 1, _, rfl, Nat.zero_le _, heap_new hB, Nat.le_refl _, by decide, rfl, rfl⟩⟩
set_option maxHeartbeats 1000000 in
theorem rbef_ok (x y : Td) (w : World) : Calls Tryd.prog 39 #[tdV x, tdV y] w fun e w' => e = .returned (.bool (befB x y)) ∧ Pure w w' := by
  unfold tdV
  by_cases h1 : x.dl < y.dl
  · have e : befB x y = true := by unfold befB; simp [h1]
    rw [e]
    have c_1 : (x.dl : Int) < (y.dl : Int) := by omega
    clear e
    go_enter Tryd.func39, Tryd.ntmps39
    go_wp2
    go_ret
    exact ⟨rfl, ((Mod.refl _ w).alloc _).alloc _⟩
  · have c_1 : ¬ (x.dl : Int) < (y.dl : Int) := by omega
    by_cases h2 : x.dl = y.dl
    · by_cases h3 : x.birth < y.birth
      · have e : befB x y = true := by unfold befB; simp [h2, h3]
        rw [e]
        have c_2 : (x.birth : Int) < (y.birth : Int) := by omega
        have c_3 : ((x.dl : Int) == (y.dl : Int)) = true := by simp; omega
        clear e
        go_enter Tryd.func39, Tryd.ntmps39
        go_wp2
        go_ret
        exact ⟨rfl, ((Mod.refl _ w).alloc _).alloc _⟩
      · have e : befB x y = false := by unfold befB; simp [h1, h3]
        rw [e]
        have c_2 : ¬ (x.birth : Int) < (y.birth : Int) := by omega
        have c_3 : ((x.dl : Int) == (y.dl : Int)) = true := by simp; omega
        clear e
        go_enter Tryd.func39, Tryd.ntmps39
        go_wp2
        go_ret
        exact ⟨rfl, ((Mod.refl _ w).alloc _).alloc _⟩
    · have e : befB x y = false := by unfold befB; simp [h1, h2]
      rw [e]
      have c_3 : ((x.dl : Int) == (y.dl : Int)) = false := by simp; omega
      clear e
      go_enter Tryd.func39, Tryd.ntmps39
      go_wp2
      go_ret
      exact ⟨rfl, ((Mod.refl _ w).alloc _).alloc _⟩
theorem addr_zero (ad : Addr) : ad.add 0 = ad := by unfold Addr.add; simp
def whV (now : Nat) (a : Option Addr) (n c : Nat) : Value := .agg #[.int .u64 now, .slice a n c]
theorem rnext_ok {w : World} {a : Option Addr} {n c now : Nat} {L : List Td} (h : ReadAt w (.slice a n c) 3 (L.flatMap tdC)) (hn : L.length = n) : Calls Tryd.prog 60 #[whV now a n c] w fun e w' => e = .returned (.int .u64 (nextD L)) ∧ Pure w w' := by
  unfold whV
  have hal : Pure w (w.alloc (.cells #[.int .u64 now, .slice a n c] 45)) := (Mod.refl _ w).alloc _
  cases hL : L with
  | nil =>
    have e0 : n = 0 := by rw [← hn, hL]; rfl
    subst e0
    have HAL := Lib.hid hal
    clear h hn hL hal
    go_enter Tryd.func60, Tryd.ntmps60
    go_wp2
    go_ret
    exact ⟨rfl, HAL.out⟩
  | cons x L' =>
    have hx : L[0]? = some x := by rw [hL]; rfl
    obtain ⟨ad, had, z0, z1, z2⟩ := td_read (h.frame hal (fun _ _ h => h)) hx
    have hn0 : 0 < n := by rw [← hn, hL]; simp
    have e0 : ((n : Int) == 0) = false := by simp; omega
    have c0 : (0 : Int) < (n : Int) := by omega
    subst had
    rw [Nat.zero_mul, addr_zero] at z0 z1 z2
    have HAL := Lib.hid hal
    clear h hn hL hx hal
    go_enter Tryd.func60, Tryd.ntmps60
    go_wp2
    go_ret
    exact ⟨rfl, HAL.out⟩
theorem tw_len {L : List Td} {x : Td} {k : Nat} (h1 : ∀ i y, i < k → L[i]? = some y → befB y x = true) (h2 : ∀ y, L[k]? = some y → befB y x = false) (hk : k ≤ L.length) : L.take k = L.takeWhile (fun y => befB y x) ∧ L.drop k = L.dropWhile (fun y => befB y x) := by
  induction L generalizing k with
  | nil =>
    have : k = 0 := by simpa using hk
    subst this
    exact ⟨rfl, rfl⟩
  | cons a L ih =>
    cases k with
    | zero =>
      have := h2 a rfl
      simp [this]
    | succ k =>
      have := h1 0 a (by omega) rfl
      obtain ⟨i1, i2⟩ := ih (k := k) (fun i y hi hy => h1 (i + 1) y (by omega) hy) (fun y hy => h2 y hy) (by simpa using hk)
      simp [this, i1, i2]
set_option maxHeartbeats 2000000 in
theorem rput_some {w : World} {ad : Addr} {n c : Nat} {L : List Td} (h : ReadAt w (.slice (some ad) n c) 3 (L.flatMap tdC)) (hn : L.length = n) (hl : n ≤ 4194304) (hnc : n ≤ c) (x : Td) :
    Calls Tryd.prog 59 #[.slice (some ad) n c, tdV x] w fun e w' => ∃ a' c', e = .returned (.slice a' (n + 1) c') ∧ TdRow w' a' c' (putL L x) ∧ FreshV w (.slice a' (n + 1) c') ∧ Pure w w' := by
  unfold tdV
  have hal : Pure w (w.alloc (.cells #[.int .u32 x.slot, .int .u64 x.dl, .int .u64 x.birth] 31)) := (Mod.refl _ w).alloc _
  have h3 := heap_new (w := w) (o := .cells #[.int .u32 x.slot, .int .u64 x.dl, .int .u64 x.birth] 31 (0, 0)) rfl
  have HR := Lib.hid (h.frame hal (fun _ _ h => h)); have HN := Lib.hid hn; have HAL := Lib.hid hal
  obtain ⟨j0, hj, jz0, jz1, jz2⟩ := info_parts info_td
  clear h hn hal
  go_enter Tryd.func59, Tryd.ntmps59
  go_upto_region 2 with fail
  generalize w.alloc (.cells #[.int .u32 x.slot, .int .u64 x.dl, .int .u64 x.birth] 31) = W1 at *
  obtain ⟨b3, hb3⟩ : ∃ b, w.heap.size = b := ⟨_, rfl⟩
  rw [hb3] at h3 ⊢
  have HB3 := Lib.hid hb3; have H3 := Lib.hid h3
  clear hb3 h3
  go_loopw [5] (fun v5 wr => ∃ k : Nat, v5 = .int .i64 (k : Nat) ∧ k ≤ n ∧ Pure W1 wr ∧ ∀ i y, i < k → L[i]? = some y → befB y x = true) (fun v5 _ => n - (intOf v5).toNat)
  case atStart => exact ⟨0, rfl, Nat.zero_le _, Mod.refl _ _, fun i y hi => by omega⟩
  case round =>
    obtain ⟨k, rfl, hk, hp, hall⟩ := hrel
    have HP := Lib.hid hp; have HA := Lib.hid hall
    have h3r := hp.heap (fun h => h) H3.out
    have x0 : wr.cell? ⟨b3, 0, none⟩ = some (.int .u32 x.slot) := by rw [cell_of_row wr _ 0 _ _ _ h3r]; rfl
    have x1 : wr.cell? ⟨b3, 1, none⟩ = some (.int .u64 x.dl) := by rw [cell_of_row wr _ 1 _ _ _ h3r]; rfl
    have x2 : wr.cell? ⟨b3, 2, none⟩ = some (.int .u64 x.birth) := by rw [cell_of_row wr _ 2 _ _ _ h3r]; rfl
    have hlt3 := lt_of_block h3r
    clear h3r hall
    by_cases hlt : k < n
    · have hlt' : (k : Int) < (n : Int) := by omega
      have k0 : (0 : Int) ≤ (k : Int) := by omega
      have wk : IntKind.i64.wrap ((k : Int) + 1) = (k : Int) + 1 := IntWalk.i64_in _ (by omega)
      have d1 : decide (k < n) = true := decide_eq_true hlt
      obtain ⟨y, hy⟩ : ∃ y, L[k]? = some y := ⟨_, List.getElem?_eq_getElem (by rw [HN.out]; exact hlt)⟩
      obtain ⟨ad', had, z0, z1, z2⟩ := td_read (HR.out.frame hp (fun _ _ h => h)) hy
      injection had with had
      have hbf := rbef_ok y x
      unfold tdV at hbf
      have HBf := Lib.hid hbf; have HY := Lib.hid hy
      subst had
      clear hbf hy
      have hk9 : ∀ u9, Pure wr.drew u9 → u9.cell? (ad.add (k * 3)) = some (.int .u32 y.slot) ∧ u9.cell? ⟨(ad.add (k * 3)).block, (ad.add (k * 3)).off + 1, none⟩ = some (.int .u64 y.dl) ∧ u9.cell? ⟨(ad.add (k * 3)).block, (ad.add (k * 3)).off + 2, none⟩ = some (.int .u64 y.birth) ∧ u9.cell? ⟨b3, 0, none⟩ = some (.int .u32 x.slot) ∧ u9.cell? ⟨b3, 1, none⟩ = some (.int .u64 x.dl) ∧ u9.cell? ⟨b3, 2, none⟩ = some (.int .u64 x.birth) := fun u9 hq =>
        ⟨hq.cell (fun h => h) z0, hq.cell (fun h => h) z1, hq.cell (fun h => h) z2, hq.cell (fun h => h) x0, hq.cell (fun h => h) x1, hq.cell (fun h => h) x2⟩
      have HK9 := Lib.hid hk9
      clear hk9
      cases hb : befB y x with
      | true =>
        rw [hb] at HBf
        go_upto_region 2 with fail
        refine wp_region_held_drew (S := fun u9 => u9.cell? (ad.add (k * 3)) = some (.int .u32 y.slot) ∧ u9.cell? ⟨(ad.add (k * 3)).block, (ad.add (k * 3)).off + 1, none⟩ = some (.int .u64 y.dl) ∧ u9.cell? ⟨(ad.add (k * 3)).block, (ad.add (k * 3)).off + 2, none⟩ = some (.int .u64 y.birth) ∧ u9.cell? ⟨b3, 0, none⟩ = some (.int .u32 x.slot) ∧ u9.cell? ⟨b3, 1, none⟩ = some (.int .u64 x.dl) ∧ u9.cell? ⟨b3, 2, none⟩ = some (.int .u64 x.birth)) (by kernel_rfl) ⟨z0, z1, z2, x0, x1, x2⟩ (fun hHeld => ?_)
        ((refine wpAnyH_take (i := 0) (v := ?_) rfl (by kernel_rfl) (by kernel_rfl) (by kernel_rfl) (fun _ _ _ h => h) (Yields.yieldsIf (Or.inl ⟨by rfl, ?_⟩)) hHeld ?_; rotate_left 1; focus (intro w; go_simp; try with_reducible rfl)); try simp only [Act.put, List.getElem_toArray, List.getElem_cons_zero, List.getElem_cons_succ, List.setIfInBounds_toArray, List.set_cons_zero, List.set_cons_succ])
        ((refine wpAnyH_take (i := 1) (v := ?_) rfl (by kernel_rfl) (by kernel_rfl) (by kernel_rfl) (fun _ _ _ h => h) (Yields.yieldsIf (Or.inl ⟨by rfl, ?_⟩)) hHeld ?_; rotate_left 1; focus (intro w; go_simp; try with_reducible rfl)); try simp only [Act.put, List.getElem_toArray, List.getElem_cons_zero, List.getElem_cons_succ, List.setIfInBounds_toArray, List.set_cons_zero, List.set_cons_succ])
        ((refine wpAnyH_take (i := 2) (v := ?_) rfl (by kernel_rfl) (by kernel_rfl) (by kernel_rfl) (fun _ _ _ h => h) (Yields.yieldsIf (Or.inl ⟨by rfl, ?_⟩)) hHeld ?_; rotate_left 1; focus (intro w; go_simp; try with_reducible rfl)); try simp only [Act.put, List.getElem_toArray, List.getElem_cons_zero, List.getElem_cons_succ, List.setIfInBounds_toArray, List.set_cons_zero, List.set_cons_succ])
        ((refine wpAnyH_take (i := 3) (v := ?_) rfl (by kernel_rfl) (by kernel_rfl) (by kernel_rfl) (fun _ _ _ h => h) (Yields.yieldsIf (Or.inl ⟨by rfl, ?_⟩)) hHeld ?_; rotate_left 1; focus (intro w; go_simp; try with_reducible rfl)); try simp only [Act.put, List.getElem_toArray, List.getElem_cons_zero, List.getElem_cons_succ, List.setIfInBounds_toArray, List.set_cons_zero, List.set_cons_succ])
        ((refine wpAnyH_take (i := 4) (v := ?_) rfl (by kernel_rfl) (by kernel_rfl) (by kernel_rfl) (fun _ _ _ h => h) (Yields.yieldsIf (Or.inl ⟨by rfl, ?_⟩)) hHeld ?_; rotate_left 1; focus (intro w; go_simp; try with_reducible rfl)); try simp only [Act.put, List.getElem_toArray, List.getElem_cons_zero, List.getElem_cons_succ, List.setIfInBounds_toArray, List.set_cons_zero, List.set_cons_succ])
        ((refine wpAnyH_take (i := 5) (v := ?_) rfl (by kernel_rfl) (by kernel_rfl) (by kernel_rfl) (fun _ _ _ h => h) (Yields.yieldsIf (Or.inl ⟨by rfl, ?_⟩)) hHeld ?_; rotate_left 1; focus (intro w; go_simp; try with_reducible rfl)); try simp only [Act.put, List.getElem_toArray, List.getElem_cons_zero, List.getElem_cons_succ, List.setIfInBounds_toArray, List.set_cons_zero, List.set_cons_succ])
        ((refine wpAnyH_take (i := 6) (v := ?_) rfl (by kernel_rfl) (by kernel_rfl) (by kernel_rfl) (fun _ _ _ h => h) (Yields.yieldsIf (Or.inl ⟨by rfl, ?_⟩)) hHeld ?_; rotate_left 1; focus (intro w; go_simp; try with_reducible rfl)); try simp only [Act.put, List.getElem_toArray, List.getElem_cons_zero, List.getElem_cons_succ, List.setIfInBounds_toArray, List.set_cons_zero, List.set_cons_succ])
        ((refine wpAnyH_take (i := 7) (v := ?_) rfl (by kernel_rfl) (by kernel_rfl) (by kernel_rfl) (fun _ _ _ h => h) (Yields.yieldsIf (Or.inl ⟨by rfl, ?_⟩)) hHeld ?_; rotate_left 1; focus (intro w; go_simp; try with_reducible rfl)); try simp only [Act.put, List.getElem_toArray, List.getElem_cons_zero, List.getElem_cons_succ, List.setIfInBounds_toArray, List.set_cons_zero, List.set_cons_succ])
        ((refine wpAnyH_take (i := 8) (v := ?_) rfl (by kernel_rfl) (by kernel_rfl) (by kernel_rfl) (fun _ _ _ h => h) (Or.inl ⟨by rfl, ?_⟩) hHeld ?_; rotate_left 1; focus (intro w hS; obtain ⟨s0, s1, s2, s3, s4, s5⟩ := hS; go_simp; try with_reducible rfl)); try simp only [Act.put, List.getElem_toArray, List.getElem_cons_zero, List.getElem_cons_succ, List.setIfInBounds_toArray, List.set_cons_zero, List.set_cons_succ])
        ((refine wpAnyH_take (i := 9) (v := ?_) rfl (by kernel_rfl) (by kernel_rfl) (by kernel_rfl) (fun _ _ _ h => h) (Or.inl ⟨by rfl, ?_⟩) hHeld ?_; rotate_left 1; focus (intro w hS; obtain ⟨s0, s1, s2, s3, s4, s5⟩ := hS; go_simp; try with_reducible rfl)); try simp only [Act.put, List.getElem_toArray, List.getElem_cons_zero, List.getElem_cons_succ, List.setIfInBounds_toArray, List.set_cons_zero, List.set_cons_succ])
        ((refine wpAnyH_ready (rs := [10]) (by kernel_rfl) (by simp) ?_; refine AllReadyH.cons rfl (fun K hK => ?_) AllReadyH.nil; go_simp; refine Calls.mono (HBf.out _) ?_; rintro e u9 ⟨rfl, hq9⟩; refine hK.out _ _ ?_ (fun hHeld => ?_); (· exact HK9.out _ hq9); clear hK K); try simp only [Act.put, List.getElem_toArray, List.getElem_cons_zero, List.getElem_cons_succ, List.setIfInBounds_toArray, List.set_cons_zero, List.set_cons_succ])
        ((refine wpAnyH_take (i := 11) (v := ?_) rfl (by kernel_rfl) (by kernel_rfl) (by kernel_rfl) (fun _ _ _ h => h) (Yields.yieldsIf (Or.inl ⟨by rfl, ?_⟩)) hHeld ?_; rotate_left 1; focus (intro w; go_simp; try with_reducible rfl)); try simp only [Act.put, List.getElem_toArray, List.getElem_cons_zero, List.getElem_cons_succ, List.setIfInBounds_toArray, List.set_cons_zero, List.set_cons_succ])
        refine wpAnyH_done (by kernel_rfl) ?_ _
        clear hHeld
        have hp9 : Pure W1 u9 := HP.out.trans (Mod.of_drew hq9)
        have HP9 := Lib.hid hp9
        have hall2 : ∀ i z, i < k + 1 → L[i]? = some z → befB z x = true := fun i z hi hz => by
          rcases Nat.lt_or_ge i k with h | h
          · exact HA.out i z h hz
          · have : i = k := by omega
            subst this
            rw [HY.out] at hz
            cases hz
            exact hb
        have HA2 := Lib.hid hall2
        clear hq9 hp9 hall2 hb
        go_wp2
        go_roundw
        case rel => exact ⟨k + 1, by go_num, hlt, HP9.out, HA2.out⟩
        case measure => simp [intOf]; omega
      | false =>
        rw [hb] at HBf
        go_upto_region 2 with fail
        refine wp_region_held_drew (S := fun u9 => u9.cell? (ad.add (k * 3)) = some (.int .u32 y.slot) ∧ u9.cell? ⟨(ad.add (k * 3)).block, (ad.add (k * 3)).off + 1, none⟩ = some (.int .u64 y.dl) ∧ u9.cell? ⟨(ad.add (k * 3)).block, (ad.add (k * 3)).off + 2, none⟩ = some (.int .u64 y.birth) ∧ u9.cell? ⟨b3, 0, none⟩ = some (.int .u32 x.slot) ∧ u9.cell? ⟨b3, 1, none⟩ = some (.int .u64 x.dl) ∧ u9.cell? ⟨b3, 2, none⟩ = some (.int .u64 x.birth)) (by kernel_rfl) ⟨z0, z1, z2, x0, x1, x2⟩ (fun hHeld => ?_)
        ((refine wpAnyH_take (i := 0) (v := ?_) rfl (by kernel_rfl) (by kernel_rfl) (by kernel_rfl) (fun _ _ _ h => h) (Yields.yieldsIf (Or.inl ⟨by rfl, ?_⟩)) hHeld ?_; rotate_left 1; focus (intro w; go_simp; try with_reducible rfl)); try simp only [Act.put, List.getElem_toArray, List.getElem_cons_zero, List.getElem_cons_succ, List.setIfInBounds_toArray, List.set_cons_zero, List.set_cons_succ])
        ((refine wpAnyH_take (i := 1) (v := ?_) rfl (by kernel_rfl) (by kernel_rfl) (by kernel_rfl) (fun _ _ _ h => h) (Yields.yieldsIf (Or.inl ⟨by rfl, ?_⟩)) hHeld ?_; rotate_left 1; focus (intro w; go_simp; try with_reducible rfl)); try simp only [Act.put, List.getElem_toArray, List.getElem_cons_zero, List.getElem_cons_succ, List.setIfInBounds_toArray, List.set_cons_zero, List.set_cons_succ])
        ((refine wpAnyH_take (i := 2) (v := ?_) rfl (by kernel_rfl) (by kernel_rfl) (by kernel_rfl) (fun _ _ _ h => h) (Yields.yieldsIf (Or.inl ⟨by rfl, ?_⟩)) hHeld ?_; rotate_left 1; focus (intro w; go_simp; try with_reducible rfl)); try simp only [Act.put, List.getElem_toArray, List.getElem_cons_zero, List.getElem_cons_succ, List.setIfInBounds_toArray, List.set_cons_zero, List.set_cons_succ])
        ((refine wpAnyH_take (i := 3) (v := ?_) rfl (by kernel_rfl) (by kernel_rfl) (by kernel_rfl) (fun _ _ _ h => h) (Yields.yieldsIf (Or.inl ⟨by rfl, ?_⟩)) hHeld ?_; rotate_left 1; focus (intro w; go_simp; try with_reducible rfl)); try simp only [Act.put, List.getElem_toArray, List.getElem_cons_zero, List.getElem_cons_succ, List.setIfInBounds_toArray, List.set_cons_zero, List.set_cons_succ])
        ((refine wpAnyH_take (i := 4) (v := ?_) rfl (by kernel_rfl) (by kernel_rfl) (by kernel_rfl) (fun _ _ _ h => h) (Yields.yieldsIf (Or.inl ⟨by rfl, ?_⟩)) hHeld ?_; rotate_left 1; focus (intro w; go_simp; try with_reducible rfl)); try simp only [Act.put, List.getElem_toArray, List.getElem_cons_zero, List.getElem_cons_succ, List.setIfInBounds_toArray, List.set_cons_zero, List.set_cons_succ])
        ((refine wpAnyH_take (i := 5) (v := ?_) rfl (by kernel_rfl) (by kernel_rfl) (by kernel_rfl) (fun _ _ _ h => h) (Yields.yieldsIf (Or.inl ⟨by rfl, ?_⟩)) hHeld ?_; rotate_left 1; focus (intro w; go_simp; try with_reducible rfl)); try simp only [Act.put, List.getElem_toArray, List.getElem_cons_zero, List.getElem_cons_succ, List.setIfInBounds_toArray, List.set_cons_zero, List.set_cons_succ])
        ((refine wpAnyH_take (i := 6) (v := ?_) rfl (by kernel_rfl) (by kernel_rfl) (by kernel_rfl) (fun _ _ _ h => h) (Yields.yieldsIf (Or.inl ⟨by rfl, ?_⟩)) hHeld ?_; rotate_left 1; focus (intro w; go_simp; try with_reducible rfl)); try simp only [Act.put, List.getElem_toArray, List.getElem_cons_zero, List.getElem_cons_succ, List.setIfInBounds_toArray, List.set_cons_zero, List.set_cons_succ])
        ((refine wpAnyH_take (i := 7) (v := ?_) rfl (by kernel_rfl) (by kernel_rfl) (by kernel_rfl) (fun _ _ _ h => h) (Yields.yieldsIf (Or.inl ⟨by rfl, ?_⟩)) hHeld ?_; rotate_left 1; focus (intro w; go_simp; try with_reducible rfl)); try simp only [Act.put, List.getElem_toArray, List.getElem_cons_zero, List.getElem_cons_succ, List.setIfInBounds_toArray, List.set_cons_zero, List.set_cons_succ])
        ((refine wpAnyH_take (i := 8) (v := ?_) rfl (by kernel_rfl) (by kernel_rfl) (by kernel_rfl) (fun _ _ _ h => h) (Or.inl ⟨by rfl, ?_⟩) hHeld ?_; rotate_left 1; focus (intro w hS; obtain ⟨s0, s1, s2, s3, s4, s5⟩ := hS; go_simp; try with_reducible rfl)); try simp only [Act.put, List.getElem_toArray, List.getElem_cons_zero, List.getElem_cons_succ, List.setIfInBounds_toArray, List.set_cons_zero, List.set_cons_succ])
        ((refine wpAnyH_take (i := 9) (v := ?_) rfl (by kernel_rfl) (by kernel_rfl) (by kernel_rfl) (fun _ _ _ h => h) (Or.inl ⟨by rfl, ?_⟩) hHeld ?_; rotate_left 1; focus (intro w hS; obtain ⟨s0, s1, s2, s3, s4, s5⟩ := hS; go_simp; try with_reducible rfl)); try simp only [Act.put, List.getElem_toArray, List.getElem_cons_zero, List.getElem_cons_succ, List.setIfInBounds_toArray, List.set_cons_zero, List.set_cons_succ])
        ((refine wpAnyH_ready (rs := [10]) (by kernel_rfl) (by simp) ?_; refine AllReadyH.cons rfl (fun K hK => ?_) AllReadyH.nil; go_simp; refine Calls.mono (HBf.out _) ?_; rintro e u9 ⟨rfl, hq9⟩; refine hK.out _ _ ?_ (fun hHeld => ?_); (· exact HK9.out _ hq9); clear hK K); try simp only [Act.put, List.getElem_toArray, List.getElem_cons_zero, List.getElem_cons_succ, List.setIfInBounds_toArray, List.set_cons_zero, List.set_cons_succ])
        ((refine wpAnyH_take (i := 11) (v := ?_) rfl (by kernel_rfl) (by kernel_rfl) (by kernel_rfl) (fun _ _ _ h => h) (Yields.yieldsIf (Or.inl ⟨by rfl, ?_⟩)) hHeld ?_; rotate_left 1; focus (intro w; go_simp; try with_reducible rfl)); try simp only [Act.put, List.getElem_toArray, List.getElem_cons_zero, List.getElem_cons_succ, List.setIfInBounds_toArray, List.set_cons_zero, List.set_cons_succ])
        refine wpAnyH_done (by kernel_rfl) ?_ _
        clear hHeld
        have hpq : Pure W1 u9 := HP.out.trans (Mod.of_drew hq9)
        have HPq := Lib.hid hpq
        have hcap : (k : Int) ≤ (c : Int) := by omega
        have hkn : (k : Int) ≤ (n : Int) := by omega
        have htw := tw_len (k := k) HA.out (fun y' hy' => by rw [HY.out] at hy'; cases hy'; exact hb) (by rw [HN.out]; omega)
        have HTw := Lib.hid htw
        clear hq9 hpq htw hb z0 z1 z2 x0 x1 x2
        go_upto_region 4 with fail
        have h3q := HPq.out.heap (fun h => h) H3.out
        have y0 : u9.cell? ⟨b3, 0, none⟩ = some (.int .u32 x.slot) := by rw [cell_of_row _ _ 0 _ _ _ h3q]; rfl
        have y1 : u9.cell? ⟨b3, 1, none⟩ = some (.int .u64 x.dl) := by rw [cell_of_row _ _ 1 _ _ _ h3q]; rfl
        have y2 : u9.cell? ⟨b3, 2, none⟩ = some (.int .u64 x.birth) := by rw [cell_of_row _ _ 2 _ _ _ h3q]; rfl
        have hrl := (HR.out.frame HPq.out (fun _ _ h => h))
        have hsuf := rd_sufI hrl (j := k) (by omega) hnc
        have hpre := rd_pre hrl (j := k) (by omega)
        rw [HTw.out.1] at hpre
        rw [HTw.out.2] at hsuf
        have hpl : (L.takeWhile (fun y => befB y x)).length = k := by rw [← HTw.out.1, List.length_take, HN.out]; omega
        have hsl : (L.dropWhile (fun y => befB y x)).length = n - k := by rw [← HTw.out.2, List.length_drop, HN.out]
        have HSuf := Lib.hid hsuf; have HPre := Lib.hid hpre; have HPL := Lib.hid hpl; have HSL := Lib.hid hsl
        have hal9 : Pure u9 (u9.drew.alloc (.cells #[.int .u32 x.slot, .int .u64 x.dl, .int .u64 x.birth] 31)) := ((Mod.refl _ u9).drew).alloc _
        have h1r := one_row (w := u9.drew) (x := x) (B := u9.heap.size) rfl
        obtain ⟨sv, hsv⟩ : ∃ v, (if c = k then some ad else some (ad.add (k * 3))) = v := ⟨_, rfl⟩
        rw [hsv] at HSuf
        have HAL9 := Lib.hid hal9; have H1R := Lib.hid h1r; have HSV := Lib.hid hsv
        clear h3q hrl hsuf hpre hpl hsl hal9 h1r hsv
        refine wp_region_held_drew (S := fun u => u.cell? ⟨b3, 0, none⟩ = some (.int .u32 x.slot) ∧ u.cell? ⟨b3, 1, none⟩ = some (.int .u64 x.dl) ∧ u.cell? ⟨b3, 2, none⟩ = some (.int .u64 x.birth)) (by kernel_rfl) ⟨y0, y1, y2⟩ (fun hHeld => ?_)
        ((refine wpAnyH_take (i := 0) (v := ?_) rfl (by kernel_rfl) (by kernel_rfl) (by kernel_rfl) (fun _ _ _ h => h) (Or.inl ⟨by rfl, ?_⟩) hHeld ?_; rotate_left 1; focus (intro w hS; obtain ⟨s0, s1, s2⟩ := hS; go_simp; try with_reducible rfl)); try simp only [Act.put, List.getElem_toArray, List.getElem_cons_zero, List.getElem_cons_succ, List.setIfInBounds_toArray, List.set_cons_zero, List.set_cons_succ])
        ((refine wpAnyH_take (i := 2) (v := ?_) rfl (by kernel_rfl) (by kernel_rfl) (by kernel_rfl) (fun _ _ _ h => h) (Yields.yieldsIf (Or.inl ⟨by rfl, ?_⟩)) hHeld ?_; rotate_left 1; focus (intro w; go_simp; try with_reducible rfl)); try simp only [Act.put, List.getElem_toArray, List.getElem_cons_zero, List.getElem_cons_succ, List.setIfInBounds_toArray, List.set_cons_zero, List.set_cons_succ])
        ((refine wpAnyH_take (i := 3) (v := ?_) rfl (by kernel_rfl) (by kernel_rfl) (by kernel_rfl) (fun _ _ _ h => h) (Yields.yieldsIf (Or.inl ⟨by rfl, ?_⟩)) hHeld ?_; rotate_left 1; focus (intro w; go_simp; try with_reducible rfl)); try simp only [Act.put, List.getElem_toArray, List.getElem_cons_zero, List.getElem_cons_succ, List.setIfInBounds_toArray, List.set_cons_zero, List.set_cons_succ])
        ((refine wpAnyH_take (i := 4) (v := ?_) rfl (by kernel_rfl) (by kernel_rfl) (by kernel_rfl) (fun _ _ _ h => h) (Yields.yieldsIf (Or.inl ⟨by rfl, ?_⟩)) hHeld ?_; rotate_left 1; focus (intro w; go_simp; try with_reducible rfl)); try simp only [Act.put, List.getElem_toArray, List.getElem_cons_zero, List.getElem_cons_succ, List.setIfInBounds_toArray, List.set_cons_zero, List.set_cons_succ])
        rw [HSV.out]
        ((refine wpAnyH_ready (rs := [1]) (by kernel_rfl) (by simp) ?_; refine AllReadyH.cons rfl (fun K hK => ?_) AllReadyH.nil; go_simp; skip; refine hK.out _ _ ?_ (fun hHeld => ?_); (· exact ⟨HAL9.out.cell (fun h => h) y0, HAL9.out.cell (fun h => h) y1, HAL9.out.cell (fun h => h) y2⟩); clear hK K); try simp only [Act.put, List.getElem_toArray, List.getElem_cons_zero, List.getElem_cons_succ, List.setIfInBounds_toArray, List.set_cons_zero, List.set_cons_succ])
        refine wpAnyH_ready (rs := [5]) (by kernel_rfl) (by simp) ?_
        refine AllReadyH.cons rfl (fun K hK => ?_) AllReadyH.nil
        refine step_append_read _ (by rfl) _ _ 28 (by rfl) 31 j0 _ 3 24 Tryd.underlying28 hj jz0 jz1 jz2 rfl (by decide) (.slice (some ⟨u9.heap.size, 0, none⟩) 1 1) 1 (tdC x) (by rfl) H1R.out (.slice sv (n - k) (c - k)) _ (n - k) (by rfl) (HSuf.out.frame HAL9.out (fun _ _ h => h)) (by rw [flat_length tdC 3 (fun _ => rfl), HSL.out]) (by unfold maxLen; omega) (by omega) ?_
        intro a7 c7 w6 hr7 hg7 hb7
        have hmg : Pure u9 w6 := HAL9.out.then (Mod.of_grown (S := fun k' => k' = u9.heap.size) hg7 (fun k e _ => by cases e; rfl)) (fun k hk e => by subst e; exact absurd hk (Nat.lt_irrefl _))
        refine hK.out _ _ ?_ (fun hHeld => ?_)
        · exact ⟨hmg.cell (fun h => h) y0, hmg.cell (fun h => h) y1, hmg.cell (fun h => h) y2⟩
        ((refine wpAnyH_take (i := 6) (v := ?_) rfl (by kernel_rfl) (by kernel_rfl) (by kernel_rfl) (fun _ _ _ h => h) (Yields.yieldsIf (Or.inl ⟨by rfl, ?_⟩)) hHeld ?_; rotate_left 1; focus (intro w; go_simp; try with_reducible rfl)); try simp only [Act.put, List.getElem_toArray, List.getElem_cons_zero, List.getElem_cons_succ, List.setIfInBounds_toArray, List.set_cons_zero, List.set_cons_succ])
        refine wpAnyH_done (by kernel_rfl) ?_ _
        have hmg1 : Pure W1 w6 := HPq.out.trans hmg
        obtain ⟨m, hm⟩ : ∃ m, 1 + (n - k) = m := ⟨_, rfl⟩
        rw [hm] at hr7 ⊢
        have hkm : k + m = n + 1 := by omega
        have HR7 := Lib.hid hr7; have HMG := Lib.hid hmg; have HMG1 := Lib.hid hmg1
        clear hHeld hr7 hg7 hb7 hmg hmg1 hm hK K y0 y1 y2
        have V1 : True := trivial
        go_wp2_with (first
          | (at_builtin; clear V1; refine wpList_append_read _ rfl _ _ 28 rfl 31 j0 _ 3 24 Tryd.underlying28 hj jz0 jz1 jz2 rfl (by decide) (.slice none 0 0) 0 [] rfl (World.ownsRow_nil _ _ _ _) (.slice (some ad) k c) _ k rfl (HPre.out.frame HMG.out (fun _ _ h => h)) (by rw [flat_length tdC 3 (fun _ => rfl), HPL.out]) (by unfold maxLen; omega) (by omega) ?_; intro a8 c8 w7 hr8 hg8 hb8
             rw [Nat.zero_add] at hr8 hb8 ⊢
             rw [List.nil_append] at hr8
             have p7 : Pure w6 w7 := Mod.of_grown hg8 (fun k e _ => by cases e)
             have HR8 := Lib.hid hr8; have HB8 := Lib.hid hb8; have HP7 := Lib.hid p7
             clear hr8 hg8 hb8 p7)
          | (at_builtin; refine wpList_append_read _ rfl _ _ 28 rfl 31 j0 _ 3 24 Tryd.underlying28 hj jz0 jz1 jz2 rfl (by decide) (.slice a8 k c8) k _ rfl HR8.out (.slice a7 m c7) _ m rfl (ReadAt.of_owns (owns_mod HR7.out HP7.out (fun _ _ h => h)) (fun u hu => (by
               rcases List.mem_append.1 hu with h | h
               · simp [tdC] at h; rcases h with rfl | rfl | rfl <;> rfl
               · exact tdC_one _ u h))) HR7.out.1 (by unfold maxLen; omega) (by omega) ?_; intro a9 c9 w8 hr9 hg9 hb9))
        rw [hkm] at hr9 hb9
        have h8f : ∀ g, (Value.slice a8 k c8).ownBlock = some g → w.heap.size ≤ g := fun g hg => by
          have e0 := (HAL.out.trans HMG1.out).size
          rcases HB8.out with e | e
          · rw [e] at hg; cases hg
          · rw [e] at hg; injection hg with hg; omega
        have p8 : Pure w w8 := ((HAL.out.trans HMG1.out).trans HP7.out).then (Mod.of_grown (S := fun k' => (Value.slice a8 k c8).ownBlock = some k') hg9 (fun k e _ => e)) (fun k hk e => by have := h8f k e; omega)
        have hrow : TdRow w8 a9 c9 (putL L x) := by
          show World.ownsRow _ 0 _ 3 (.slice a9 (putL L x).length c9) (putL L x).length ((putL L x).flatMap tdC)
          rw [putL_length, HN.out]
          have : (putL L x).flatMap tdC = (L.takeWhile (fun y => befB y x)).flatMap tdC ++ (tdC x ++ (L.dropWhile (fun y => befB y x)).flatMap tdC) := by unfold putL; simp [List.flatMap_append]
          rw [this]
          exact hr9
        have hfin : FreshV w (.slice a9 (n + 1) c9) := fun g hg => by
          rcases hb9 with e | e
          · exact h8f g (e ▸ hg)
          · rw [e] at hg; injection hg with hg; have := ((HAL.out.trans HMG1.out).trans HP7.out).size; omega
        have HF := Lib.hid hfin; have HROW := Lib.hid hrow; have HP8 := Lib.hid p8
        clear hr9 hg9 hb9 h8f p8 hrow hfin
        refine bodyPost_ret (v := .slice a9 (n + 1) c9) (by simp [results, Tryd.results59, go_sem, hkm]) rfl ⟨a9, c9, rfl, HROW.out, HF.out, HP8.out⟩
    · have hk' : k = n := by omega
      have d1 : decide (k < n) = false := decide_eq_false (by omega)
      have hlt' : ¬ (k : Int) < (n : Int) := by omega
      have HKN := Lib.hid hk'
      clear hk'
      go_upto_region 2 with fail
      refine wp_region_held_drew (S := fun _ => True) (by kernel_rfl) trivial (fun hHeld => ?_)
      ((refine wpAnyH_take (i := 0) (v := ?_) rfl (by kernel_rfl) (by kernel_rfl) (by kernel_rfl) (fun _ _ _ h => h) (Yields.yieldsIf (Or.inl ⟨by rfl, ?_⟩)) hHeld ?_; rotate_left 1; focus (intro w; go_simp; try with_reducible rfl)); try simp only [Act.put, List.getElem_toArray, List.getElem_cons_zero, List.getElem_cons_succ, List.setIfInBounds_toArray, List.set_cons_zero, List.set_cons_succ])
      ((refine wpAnyH_take (i := 1) (v := ?_) rfl (by kernel_rfl) (by kernel_rfl) (by kernel_rfl) (fun _ _ _ h => h) (Yields.yieldsIf (Or.inl ⟨by rfl, ?_⟩)) hHeld ?_; rotate_left 1; focus (intro w; go_simp; try with_reducible rfl)); try simp only [Act.put, List.getElem_toArray, List.getElem_cons_zero, List.getElem_cons_succ, List.setIfInBounds_toArray, List.set_cons_zero, List.set_cons_succ])
      ((refine wpAnyH_take (i := 2) (v := ?_) rfl (by kernel_rfl) (by kernel_rfl) (by kernel_rfl) (fun _ _ _ h => h) (Yields.yieldsIf (Or.inl ⟨by rfl, ?_⟩)) hHeld ?_; rotate_left 1; focus (intro w; go_simp; try with_reducible rfl)); try simp only [Act.put, List.getElem_toArray, List.getElem_cons_zero, List.getElem_cons_succ, List.setIfInBounds_toArray, List.set_cons_zero, List.set_cons_succ])
      ((refine wpAnyH_take (i := 3) (v := ?_) rfl (by kernel_rfl) (by kernel_rfl) (by kernel_rfl) (fun _ _ _ h => h) (Yields.yieldsIf (Or.inl ⟨by rfl, ?_⟩)) hHeld ?_; rotate_left 1; focus (intro w; go_simp; try with_reducible rfl)); try simp only [Act.put, List.getElem_toArray, List.getElem_cons_zero, List.getElem_cons_succ, List.setIfInBounds_toArray, List.set_cons_zero, List.set_cons_succ])
      ((refine wpAnyH_take (i := 4) (v := ?_) rfl (by kernel_rfl) (by kernel_rfl) (by kernel_rfl) (fun _ _ _ h => h) (Yields.yieldsIf (Or.inl ⟨by rfl, ?_⟩)) hHeld ?_; rotate_left 1; focus (intro w; go_simp; try with_reducible rfl)); try simp only [Act.put, List.getElem_toArray, List.getElem_cons_zero, List.getElem_cons_succ, List.setIfInBounds_toArray, List.set_cons_zero, List.set_cons_succ])
      (refine wpAnyH_take (i := 5) (v := undef) rfl (by kernel_rfl) (by kernel_rfl) (by kernel_rfl) (fun _ _ _ h => h) (Or.inr ⟨by rfl, rfl⟩) hHeld ?_; try simp only [Act.put, List.getElem_toArray, List.getElem_cons_zero, List.getElem_cons_succ, List.setIfInBounds_toArray, List.set_cons_zero, List.set_cons_succ])
      (refine wpAnyH_take (i := 6) (v := undef) rfl (by kernel_rfl) (by kernel_rfl) (by kernel_rfl) (fun _ _ _ h => h) (Or.inr ⟨by rfl, rfl⟩) hHeld ?_; try simp only [Act.put, List.getElem_toArray, List.getElem_cons_zero, List.getElem_cons_succ, List.setIfInBounds_toArray, List.set_cons_zero, List.set_cons_succ])
      (refine wpAnyH_take (i := 7) (v := undef) rfl (by kernel_rfl) (by kernel_rfl) (by kernel_rfl) (fun _ _ _ h => h) (Or.inr ⟨by rfl, rfl⟩) hHeld ?_; try simp only [Act.put, List.getElem_toArray, List.getElem_cons_zero, List.getElem_cons_succ, List.setIfInBounds_toArray, List.set_cons_zero, List.set_cons_succ])
      (refine wpAnyH_take (i := 8) (v := undef) rfl (by kernel_rfl) (by kernel_rfl) (by kernel_rfl) (fun _ _ _ h => h) (Or.inr ⟨by rfl, rfl⟩) hHeld ?_; try simp only [Act.put, List.getElem_toArray, List.getElem_cons_zero, List.getElem_cons_succ, List.setIfInBounds_toArray, List.set_cons_zero, List.set_cons_succ])
      (refine wpAnyH_take (i := 9) (v := undef) rfl (by kernel_rfl) (by kernel_rfl) (by kernel_rfl) (fun _ _ _ h => h) (Or.inr ⟨by rfl, rfl⟩) hHeld ?_; try simp only [Act.put, List.getElem_toArray, List.getElem_cons_zero, List.getElem_cons_succ, List.setIfInBounds_toArray, List.set_cons_zero, List.set_cons_succ])
      (refine wpAnyH_take (i := 10) (v := undef) rfl (by kernel_rfl) (by kernel_rfl) (by kernel_rfl) (fun _ _ _ h => h) (Or.inr ⟨by rfl, rfl⟩) hHeld ?_; try simp only [Act.put, List.getElem_toArray, List.getElem_cons_zero, List.getElem_cons_succ, List.setIfInBounds_toArray, List.set_cons_zero, List.set_cons_succ])
      ((refine wpAnyH_take (i := 11) (v := ?_) rfl (by kernel_rfl) (by kernel_rfl) (by kernel_rfl) (fun _ _ _ h => h) (Yields.yieldsIf (Or.inl ⟨by rfl, ?_⟩)) hHeld ?_; rotate_left 1; focus (intro w; go_simp; try with_reducible rfl)); try simp only [Act.put, List.getElem_toArray, List.getElem_cons_zero, List.getElem_cons_succ, List.setIfInBounds_toArray, List.set_cons_zero, List.set_cons_succ])
      refine wpAnyH_done (by kernel_rfl) ?_ _
      clear hHeld
      have hpq : Pure W1 wr.drew := HP.out.drew
      have HPq := Lib.hid hpq
      have hcap : (k : Int) ≤ (c : Int) := by omega
      have hkn : (k : Int) ≤ (n : Int) := by omega
      have htw := tw_len (k := k) HA.out (fun y' hy' => by have := (List.getElem?_eq_some_iff.1 hy').1; rw [HN.out] at this; have := HKN.out; omega) (by rw [HN.out]; omega)
      have HTw := Lib.hid htw
      clear htw x0 x1 x2 hpq hlt3 hp HP
      generalize wr.drew = u9 at *
      go_upto_region 4 with fail
      have h3q := HPq.out.heap (fun h => h) H3.out
      have y0 : u9.cell? ⟨b3, 0, none⟩ = some (.int .u32 x.slot) := by rw [cell_of_row _ _ 0 _ _ _ h3q]; rfl
      have y1 : u9.cell? ⟨b3, 1, none⟩ = some (.int .u64 x.dl) := by rw [cell_of_row _ _ 1 _ _ _ h3q]; rfl
      have y2 : u9.cell? ⟨b3, 2, none⟩ = some (.int .u64 x.birth) := by rw [cell_of_row _ _ 2 _ _ _ h3q]; rfl
      have hrl := (HR.out.frame HPq.out (fun _ _ h => h))
      have hsuf := rd_sufI hrl (j := k) (by omega) hnc
      have hpre := rd_pre hrl (j := k) (by omega)
      rw [HTw.out.1] at hpre
      rw [HTw.out.2] at hsuf
      have hpl : (L.takeWhile (fun y => befB y x)).length = k := by rw [← HTw.out.1, List.length_take, HN.out]; omega
      have hsl : (L.dropWhile (fun y => befB y x)).length = n - k := by rw [← HTw.out.2, List.length_drop, HN.out]
      have HSuf := Lib.hid hsuf; have HPre := Lib.hid hpre; have HPL := Lib.hid hpl; have HSL := Lib.hid hsl
      have hal9 : Pure u9 (u9.drew.alloc (.cells #[.int .u32 x.slot, .int .u64 x.dl, .int .u64 x.birth] 31)) := ((Mod.refl _ u9).drew).alloc _
      have h1r := one_row (w := u9.drew) (x := x) (B := u9.heap.size) rfl
      obtain ⟨sv, hsv⟩ : ∃ v, (if c = k then some ad else some (ad.add (k * 3))) = v := ⟨_, rfl⟩
      rw [hsv] at HSuf
      have HAL9 := Lib.hid hal9; have H1R := Lib.hid h1r; have HSV := Lib.hid hsv
      clear h3q hrl hsuf hpre hpl hsl hal9 h1r hsv
      refine wp_region_held_drew (S := fun u => u.cell? ⟨b3, 0, none⟩ = some (.int .u32 x.slot) ∧ u.cell? ⟨b3, 1, none⟩ = some (.int .u64 x.dl) ∧ u.cell? ⟨b3, 2, none⟩ = some (.int .u64 x.birth)) (by kernel_rfl) ⟨y0, y1, y2⟩ (fun hHeld => ?_)
      ((refine wpAnyH_take (i := 0) (v := ?_) rfl (by kernel_rfl) (by kernel_rfl) (by kernel_rfl) (fun _ _ _ h => h) (Or.inl ⟨by rfl, ?_⟩) hHeld ?_; rotate_left 1; focus (intro w hS; obtain ⟨s0, s1, s2⟩ := hS; go_simp; try with_reducible rfl)); try simp only [Act.put, List.getElem_toArray, List.getElem_cons_zero, List.getElem_cons_succ, List.setIfInBounds_toArray, List.set_cons_zero, List.set_cons_succ])
      ((refine wpAnyH_take (i := 2) (v := ?_) rfl (by kernel_rfl) (by kernel_rfl) (by kernel_rfl) (fun _ _ _ h => h) (Yields.yieldsIf (Or.inl ⟨by rfl, ?_⟩)) hHeld ?_; rotate_left 1; focus (intro w; go_simp; try with_reducible rfl)); try simp only [Act.put, List.getElem_toArray, List.getElem_cons_zero, List.getElem_cons_succ, List.setIfInBounds_toArray, List.set_cons_zero, List.set_cons_succ])
      ((refine wpAnyH_take (i := 3) (v := ?_) rfl (by kernel_rfl) (by kernel_rfl) (by kernel_rfl) (fun _ _ _ h => h) (Yields.yieldsIf (Or.inl ⟨by rfl, ?_⟩)) hHeld ?_; rotate_left 1; focus (intro w; go_simp; try with_reducible rfl)); try simp only [Act.put, List.getElem_toArray, List.getElem_cons_zero, List.getElem_cons_succ, List.setIfInBounds_toArray, List.set_cons_zero, List.set_cons_succ])
      ((refine wpAnyH_take (i := 4) (v := ?_) rfl (by kernel_rfl) (by kernel_rfl) (by kernel_rfl) (fun _ _ _ h => h) (Yields.yieldsIf (Or.inl ⟨by rfl, ?_⟩)) hHeld ?_; rotate_left 1; focus (intro w; go_simp; try with_reducible rfl)); try simp only [Act.put, List.getElem_toArray, List.getElem_cons_zero, List.getElem_cons_succ, List.setIfInBounds_toArray, List.set_cons_zero, List.set_cons_succ])
      rw [HSV.out]
      ((refine wpAnyH_ready (rs := [1]) (by kernel_rfl) (by simp) ?_; refine AllReadyH.cons rfl (fun K hK => ?_) AllReadyH.nil; go_simp; skip; refine hK.out _ _ ?_ (fun hHeld => ?_); (· exact ⟨HAL9.out.cell (fun h => h) y0, HAL9.out.cell (fun h => h) y1, HAL9.out.cell (fun h => h) y2⟩); clear hK K); try simp only [Act.put, List.getElem_toArray, List.getElem_cons_zero, List.getElem_cons_succ, List.setIfInBounds_toArray, List.set_cons_zero, List.set_cons_succ])
      refine wpAnyH_ready (rs := [5]) (by kernel_rfl) (by simp) ?_
      refine AllReadyH.cons rfl (fun K hK => ?_) AllReadyH.nil
      refine step_append_read _ (by rfl) _ _ 28 (by rfl) 31 j0 _ 3 24 Tryd.underlying28 hj jz0 jz1 jz2 rfl (by decide) (.slice (some ⟨u9.heap.size, 0, none⟩) 1 1) 1 (tdC x) (by rfl) H1R.out (.slice sv (n - k) (c - k)) _ (n - k) (by rfl) (HSuf.out.frame HAL9.out (fun _ _ h => h)) (by rw [flat_length tdC 3 (fun _ => rfl), HSL.out]) (by unfold maxLen; omega) (by omega) ?_
      intro a7 c7 w6 hr7 hg7 hb7
      have hmg : Pure u9 w6 := HAL9.out.then (Mod.of_grown (S := fun k' => k' = u9.heap.size) hg7 (fun k e _ => by cases e; rfl)) (fun k hk e => by subst e; exact absurd hk (Nat.lt_irrefl _))
      refine hK.out _ _ ?_ (fun hHeld => ?_)
      · exact ⟨hmg.cell (fun h => h) y0, hmg.cell (fun h => h) y1, hmg.cell (fun h => h) y2⟩
      ((refine wpAnyH_take (i := 6) (v := ?_) rfl (by kernel_rfl) (by kernel_rfl) (by kernel_rfl) (fun _ _ _ h => h) (Yields.yieldsIf (Or.inl ⟨by rfl, ?_⟩)) hHeld ?_; rotate_left 1; focus (intro w; go_simp; try with_reducible rfl)); try simp only [Act.put, List.getElem_toArray, List.getElem_cons_zero, List.getElem_cons_succ, List.setIfInBounds_toArray, List.set_cons_zero, List.set_cons_succ])
      refine wpAnyH_done (by kernel_rfl) ?_ _
      have hmg1 : Pure W1 w6 := HPq.out.trans hmg
      obtain ⟨m, hm⟩ : ∃ m, 1 + (n - k) = m := ⟨_, rfl⟩
      rw [hm] at hr7 ⊢
      have hkm : k + m = n + 1 := by omega
      have HR7 := Lib.hid hr7; have HMG := Lib.hid hmg; have HMG1 := Lib.hid hmg1
      clear hHeld hr7 hg7 hb7 hmg hmg1 hm hK K y0 y1 y2
      have V1 : True := trivial
      go_wp2_with (first
        | (at_builtin; clear V1; refine wpList_append_read _ rfl _ _ 28 rfl 31 j0 _ 3 24 Tryd.underlying28 hj jz0 jz1 jz2 rfl (by decide) (.slice none 0 0) 0 [] rfl (World.ownsRow_nil _ _ _ _) (.slice (some ad) k c) _ k rfl (HPre.out.frame HMG.out (fun _ _ h => h)) (by rw [flat_length tdC 3 (fun _ => rfl), HPL.out]) (by unfold maxLen; omega) (by omega) ?_; intro a8 c8 w7 hr8 hg8 hb8
           rw [Nat.zero_add] at hr8 hb8 ⊢
           rw [List.nil_append] at hr8
           have p7 : Pure w6 w7 := Mod.of_grown hg8 (fun k e _ => by cases e)
           have HR8 := Lib.hid hr8; have HB8 := Lib.hid hb8; have HP7 := Lib.hid p7
           clear hr8 hg8 hb8 p7)
        | (at_builtin; refine wpList_append_read _ rfl _ _ 28 rfl 31 j0 _ 3 24 Tryd.underlying28 hj jz0 jz1 jz2 rfl (by decide) (.slice a8 k c8) k _ rfl HR8.out (.slice a7 m c7) _ m rfl (ReadAt.of_owns (owns_mod HR7.out HP7.out (fun _ _ h => h)) (fun u hu => (by
             rcases List.mem_append.1 hu with h | h
             · simp [tdC] at h; rcases h with rfl | rfl | rfl <;> rfl
             · exact tdC_one _ u h))) HR7.out.1 (by unfold maxLen; omega) (by omega) ?_; intro a9 c9 w8 hr9 hg9 hb9))
      rw [hkm] at hr9 hb9
      have h8f : ∀ g, (Value.slice a8 k c8).ownBlock = some g → w.heap.size ≤ g := fun g hg => by
        have e0 := (HAL.out.trans HMG1.out).size
        rcases HB8.out with e | e
        · rw [e] at hg; cases hg
        · rw [e] at hg; injection hg with hg; omega
      have p8 : Pure w w8 := ((HAL.out.trans HMG1.out).trans HP7.out).then (Mod.of_grown (S := fun k' => (Value.slice a8 k c8).ownBlock = some k') hg9 (fun k e _ => e)) (fun k hk e => by have := h8f k e; omega)
      have hrow : TdRow w8 a9 c9 (putL L x) := by
        show World.ownsRow _ 0 _ 3 (.slice a9 (putL L x).length c9) (putL L x).length ((putL L x).flatMap tdC)
        rw [putL_length, HN.out]
        have : (putL L x).flatMap tdC = (L.takeWhile (fun y => befB y x)).flatMap tdC ++ (tdC x ++ (L.dropWhile (fun y => befB y x)).flatMap tdC) := by unfold putL; simp [List.flatMap_append]
        rw [this]
        exact hr9
      have hfin : FreshV w (.slice a9 (n + 1) c9) := fun g hg => by
        rcases hb9 with e | e
        · exact h8f g (e ▸ hg)
        · rw [e] at hg; injection hg with hg; have := ((HAL.out.trans HMG1.out).trans HP7.out).size; omega
      have HF := Lib.hid hfin; have HROW := Lib.hid hrow; have HP8 := Lib.hid p8
      clear hr9 hg9 hb9 h8f p8 hrow hfin
      refine bodyPost_ret (v := .slice a9 (n + 1) c9) (by simp [results, Tryd.results59, go_sem, hkm]) rfl ⟨a9, c9, rfl, HROW.out, HF.out, HP8.out⟩
end Go.Proofs.YtlalpenfgkfkpaaDoor

/- The reference of cascade: Put onto nothing, Put of any row, Advance. Conditions: the lists lie in memory. -/
namespace Go.Proofs.YtlalpenfgkfkpaaDoor
open Go.RowKit Go.Shelf
set_option maxRecDepth 100000
set_option maxHeartbeats 2000000 in
theorem rput_none (w : World) (x : Td) :
    Calls Tryd.prog 59 #[.slice none 0 0, tdV x] w fun e w' => ∃ a' c', e = .returned (.slice a' 1 c') ∧ TdRow w' a' c' [x] ∧ FreshV w (.slice a' 1 c') ∧ Pure w w' := by
  unfold tdV
  have hal : Pure w (w.alloc (.cells #[.int .u32 x.slot, .int .u64 x.dl, .int .u64 x.birth] 31)) := (Mod.refl _ w).alloc _
  have h3 := heap_new (w := w) (o := .cells #[.int .u32 x.slot, .int .u64 x.dl, .int .u64 x.birth] 31 (0, 0)) rfl
  have HAL := Lib.hid hal
  obtain ⟨j0, hj, jz0, jz1, jz2⟩ := info_parts info_td
  clear hal
  go_enter Tryd.func59, Tryd.ntmps59
  go_upto_region 2 with fail
  generalize w.alloc (.cells #[.int .u32 x.slot, .int .u64 x.dl, .int .u64 x.birth] 31) = W1 at *
  obtain ⟨b3, hb3⟩ : ∃ b, w.heap.size = b := ⟨_, rfl⟩
  rw [hb3] at h3 ⊢
  have HB3 := Lib.hid hb3; have H3 := Lib.hid h3
  clear hb3 h3
  refine wp_loop_rounds 1 ?_
  rw [rounds_succ]
  go_upto_region 2 with fail
  refine wp_region_held_drew (S := fun _ => True) (by kernel_rfl) trivial (fun hHeld => ?_)
  ((refine wpAnyH_take (i := 0) (v := ?_) rfl (by kernel_rfl) (by kernel_rfl) (by kernel_rfl) (fun _ _ _ h => h) (Yields.yieldsIf (Or.inl ⟨by rfl, ?_⟩)) hHeld ?_; rotate_left 1; focus (intro w; go_simp; try with_reducible rfl)); try simp only [Act.put, List.getElem_toArray, List.getElem_cons_zero, List.getElem_cons_succ, List.setIfInBounds_toArray, List.set_cons_zero, List.set_cons_succ])
  ((refine wpAnyH_take (i := 1) (v := ?_) rfl (by kernel_rfl) (by kernel_rfl) (by kernel_rfl) (fun _ _ _ h => h) (Yields.yieldsIf (Or.inl ⟨by rfl, ?_⟩)) hHeld ?_; rotate_left 1; focus (intro w; go_simp; try with_reducible rfl)); try simp only [Act.put, List.getElem_toArray, List.getElem_cons_zero, List.getElem_cons_succ, List.setIfInBounds_toArray, List.set_cons_zero, List.set_cons_succ])
  ((refine wpAnyH_take (i := 2) (v := ?_) rfl (by kernel_rfl) (by kernel_rfl) (by kernel_rfl) (fun _ _ _ h => h) (Yields.yieldsIf (Or.inl ⟨by rfl, ?_⟩)) hHeld ?_; rotate_left 1; focus (intro w; go_simp; try with_reducible rfl)); try simp only [Act.put, List.getElem_toArray, List.getElem_cons_zero, List.getElem_cons_succ, List.setIfInBounds_toArray, List.set_cons_zero, List.set_cons_succ])
  ((refine wpAnyH_take (i := 3) (v := ?_) rfl (by kernel_rfl) (by kernel_rfl) (by kernel_rfl) (fun _ _ _ h => h) (Yields.yieldsIf (Or.inl ⟨by rfl, ?_⟩)) hHeld ?_; rotate_left 1; focus (intro w; go_simp; try with_reducible rfl)); try simp only [Act.put, List.getElem_toArray, List.getElem_cons_zero, List.getElem_cons_succ, List.setIfInBounds_toArray, List.set_cons_zero, List.set_cons_succ])
  ((refine wpAnyH_take (i := 4) (v := ?_) rfl (by kernel_rfl) (by kernel_rfl) (by kernel_rfl) (fun _ _ _ h => h) (Yields.yieldsIf (Or.inl ⟨by rfl, ?_⟩)) hHeld ?_; rotate_left 1; focus (intro w; go_simp; try with_reducible rfl)); try simp only [Act.put, List.getElem_toArray, List.getElem_cons_zero, List.getElem_cons_succ, List.setIfInBounds_toArray, List.set_cons_zero, List.set_cons_succ])
  (refine wpAnyH_take (i := 5) (v := undef) rfl (by kernel_rfl) (by kernel_rfl) (by kernel_rfl) (fun _ _ _ h => h) (Or.inr ⟨by rfl, rfl⟩) hHeld ?_; try simp only [Act.put, List.getElem_toArray, List.getElem_cons_zero, List.getElem_cons_succ, List.setIfInBounds_toArray, List.set_cons_zero, List.set_cons_succ])
  (refine wpAnyH_take (i := 6) (v := undef) rfl (by kernel_rfl) (by kernel_rfl) (by kernel_rfl) (fun _ _ _ h => h) (Or.inr ⟨by rfl, rfl⟩) hHeld ?_; try simp only [Act.put, List.getElem_toArray, List.getElem_cons_zero, List.getElem_cons_succ, List.setIfInBounds_toArray, List.set_cons_zero, List.set_cons_succ])
  (refine wpAnyH_take (i := 7) (v := undef) rfl (by kernel_rfl) (by kernel_rfl) (by kernel_rfl) (fun _ _ _ h => h) (Or.inr ⟨by rfl, rfl⟩) hHeld ?_; try simp only [Act.put, List.getElem_toArray, List.getElem_cons_zero, List.getElem_cons_succ, List.setIfInBounds_toArray, List.set_cons_zero, List.set_cons_succ])
  (refine wpAnyH_take (i := 8) (v := undef) rfl (by kernel_rfl) (by kernel_rfl) (by kernel_rfl) (fun _ _ _ h => h) (Or.inr ⟨by rfl, rfl⟩) hHeld ?_; try simp only [Act.put, List.getElem_toArray, List.getElem_cons_zero, List.getElem_cons_succ, List.setIfInBounds_toArray, List.set_cons_zero, List.set_cons_succ])
  (refine wpAnyH_take (i := 9) (v := undef) rfl (by kernel_rfl) (by kernel_rfl) (by kernel_rfl) (fun _ _ _ h => h) (Or.inr ⟨by rfl, rfl⟩) hHeld ?_; try simp only [Act.put, List.getElem_toArray, List.getElem_cons_zero, List.getElem_cons_succ, List.setIfInBounds_toArray, List.set_cons_zero, List.set_cons_succ])
  (refine wpAnyH_take (i := 10) (v := undef) rfl (by kernel_rfl) (by kernel_rfl) (by kernel_rfl) (fun _ _ _ h => h) (Or.inr ⟨by rfl, rfl⟩) hHeld ?_; try simp only [Act.put, List.getElem_toArray, List.getElem_cons_zero, List.getElem_cons_succ, List.setIfInBounds_toArray, List.set_cons_zero, List.set_cons_succ])
  ((refine wpAnyH_take (i := 11) (v := ?_) rfl (by kernel_rfl) (by kernel_rfl) (by kernel_rfl) (fun _ _ _ h => h) (Yields.yieldsIf (Or.inl ⟨by rfl, ?_⟩)) hHeld ?_; rotate_left 1; focus (intro w; go_simp; try with_reducible rfl)); try simp only [Act.put, List.getElem_toArray, List.getElem_cons_zero, List.getElem_cons_succ, List.setIfInBounds_toArray, List.set_cons_zero, List.set_cons_succ])
  refine wpAnyH_done (by kernel_rfl) ?_ _
  clear hHeld
  have hpq : Pure W1 W1.drew := (Mod.refl _ _).drew
  have HPq := Lib.hid hpq
  clear hpq
  generalize W1.drew = u9 at *
  go_upto_region 4 with fail
  have h3q := HPq.out.heap (fun h => h) H3.out
  have y0 : u9.cell? ⟨b3, 0, none⟩ = some (.int .u32 x.slot) := by rw [cell_of_row _ _ 0 _ _ _ h3q]; rfl
  have y1 : u9.cell? ⟨b3, 1, none⟩ = some (.int .u64 x.dl) := by rw [cell_of_row _ _ 1 _ _ _ h3q]; rfl
  have y2 : u9.cell? ⟨b3, 2, none⟩ = some (.int .u64 x.birth) := by rw [cell_of_row _ _ 2 _ _ _ h3q]; rfl
  have hal9 : Pure u9 (u9.drew.alloc (.cells #[.int .u32 x.slot, .int .u64 x.dl, .int .u64 x.birth] 31)) := ((Mod.refl _ u9).drew).alloc _
  have h1r := one_row (w := u9.drew) (x := x) (B := u9.heap.size) rfl
  have HAL9 := Lib.hid hal9; have H1R := Lib.hid h1r
  clear h3q hal9 h1r
  refine wp_region_held_drew (S := fun u => u.cell? ⟨b3, 0, none⟩ = some (.int .u32 x.slot) ∧ u.cell? ⟨b3, 1, none⟩ = some (.int .u64 x.dl) ∧ u.cell? ⟨b3, 2, none⟩ = some (.int .u64 x.birth)) (by kernel_rfl) ⟨y0, y1, y2⟩ (fun hHeld => ?_)
  ((refine wpAnyH_take (i := 0) (v := ?_) rfl (by kernel_rfl) (by kernel_rfl) (by kernel_rfl) (fun _ _ _ h => h) (Or.inl ⟨by rfl, ?_⟩) hHeld ?_; rotate_left 1; focus (intro w hS; obtain ⟨s0, s1, s2⟩ := hS; go_simp; try with_reducible rfl)); try simp only [Act.put, List.getElem_toArray, List.getElem_cons_zero, List.getElem_cons_succ, List.setIfInBounds_toArray, List.set_cons_zero, List.set_cons_succ])
  ((refine wpAnyH_take (i := 2) (v := ?_) rfl (by kernel_rfl) (by kernel_rfl) (by kernel_rfl) (fun _ _ _ h => h) (Yields.yieldsIf (Or.inl ⟨by rfl, ?_⟩)) hHeld ?_; rotate_left 1; focus (intro w; go_simp; try with_reducible rfl)); try simp only [Act.put, List.getElem_toArray, List.getElem_cons_zero, List.getElem_cons_succ, List.setIfInBounds_toArray, List.set_cons_zero, List.set_cons_succ])
  ((refine wpAnyH_take (i := 3) (v := ?_) rfl (by kernel_rfl) (by kernel_rfl) (by kernel_rfl) (fun _ _ _ h => h) (Yields.yieldsIf (Or.inl ⟨by rfl, ?_⟩)) hHeld ?_; rotate_left 1; focus (intro w; go_simp; try with_reducible rfl)); try simp only [Act.put, List.getElem_toArray, List.getElem_cons_zero, List.getElem_cons_succ, List.setIfInBounds_toArray, List.set_cons_zero, List.set_cons_succ])
  ((refine wpAnyH_take (i := 4) (v := ?_) rfl (by kernel_rfl) (by kernel_rfl) (by kernel_rfl) (fun _ _ _ h => h) (Yields.yieldsIf (Or.inl ⟨by rfl, ?_⟩)) hHeld ?_; rotate_left 1; focus (intro w; go_simp; try with_reducible rfl)); try simp only [Act.put, List.getElem_toArray, List.getElem_cons_zero, List.getElem_cons_succ, List.setIfInBounds_toArray, List.set_cons_zero, List.set_cons_succ])
  ((refine wpAnyH_ready (rs := [1]) (by kernel_rfl) (by simp) ?_; refine AllReadyH.cons rfl (fun K hK => ?_) AllReadyH.nil; go_simp; skip; refine hK.out _ _ ?_ (fun hHeld => ?_); (· exact ⟨HAL9.out.cell (fun h => h) y0, HAL9.out.cell (fun h => h) y1, HAL9.out.cell (fun h => h) y2⟩); clear hK K); try simp only [Act.put, List.getElem_toArray, List.getElem_cons_zero, List.getElem_cons_succ, List.setIfInBounds_toArray, List.set_cons_zero, List.set_cons_succ])
  refine wpAnyH_ready (rs := [5]) (by kernel_rfl) (by simp) ?_
  refine AllReadyH.cons rfl (fun K hK => ?_) AllReadyH.nil
  refine step_append_read _ (by rfl) _ _ 28 (by rfl) 31 j0 _ 3 24 Tryd.underlying28 hj jz0 jz1 jz2 rfl (by decide) (.slice (some ⟨u9.heap.size, 0, none⟩) 1 1) 1 (tdC x) (by rfl) H1R.out (.slice none 0 0) [] 0 (by rfl) (ReadAt.nil _ _) rfl (by unfold maxLen; omega) (by omega) ?_
  intro a7 c7 w6 hr7 hg7 hb7
  have hmg : Pure u9 w6 := HAL9.out.then (Mod.of_grown (S := fun k' => k' = u9.heap.size) hg7 (fun k e _ => by cases e; rfl)) (fun k hk e => by subst e; exact absurd hk (Nat.lt_irrefl _))
  refine hK.out _ _ ?_ (fun hHeld => ?_)
  · exact ⟨hmg.cell (fun h => h) y0, hmg.cell (fun h => h) y1, hmg.cell (fun h => h) y2⟩
  ((refine wpAnyH_take (i := 6) (v := ?_) rfl (by kernel_rfl) (by kernel_rfl) (by kernel_rfl) (fun _ _ _ h => h) (Yields.yieldsIf (Or.inl ⟨by rfl, ?_⟩)) hHeld ?_; rotate_left 1; focus (intro w; go_simp; try with_reducible rfl)); try simp only [Act.put, List.getElem_toArray, List.getElem_cons_zero, List.getElem_cons_succ, List.setIfInBounds_toArray, List.set_cons_zero, List.set_cons_succ])
  refine wpAnyH_done (by kernel_rfl) ?_ _
  rw [List.append_nil] at hr7
  have hmg1 : Pure w w6 := HAL.out.trans (HPq.out.trans hmg)
  have hm0 : (1 : Nat) + 0 = 1 := rfl
  rw [hm0] at hr7 ⊢
  have HR7 := Lib.hid hr7; have HMG1 := Lib.hid hmg1
  clear hHeld hr7 hg7 hb7 hmg hmg1 hK K y0 y1 y2 hm0
  have V1 : True := trivial
  go_wp2_with (first
    | (at_builtin; clear V1; refine wpList_append_read _ rfl _ _ 28 rfl 31 j0 _ 3 24 Tryd.underlying28 hj jz0 jz1 jz2 rfl (by decide) (.slice none 0 0) 0 [] rfl (World.ownsRow_nil _ _ _ _) (.slice none 0 0) [] 0 rfl (ReadAt.nil _ _) rfl (by unfold maxLen; omega) (by omega) ?_; intro a8 c8 w7 hr8 hg8 hb8
       have p7 : Pure w6 w7 := Mod.of_grown hg8 (fun k e _ => by cases e)
       have HR8 := Lib.hid hr8; have HB8 := Lib.hid hb8; have HP7 := Lib.hid p7
       clear hr8 hg8 hb8 p7)
    | (at_builtin; refine wpList_append_read _ rfl _ _ 28 rfl 31 j0 _ 3 24 Tryd.underlying28 hj jz0 jz1 jz2 rfl (by decide) (.slice a8 0 c8) 0 [] rfl HR8.out (.slice a7 1 c7) _ 1 rfl (ReadAt.of_owns (owns_mod HR7.out HP7.out (fun _ _ h => h)) (fun u hu => (by
         simp [tdC] at hu; rcases hu with rfl | rfl | rfl <;> rfl))) rfl (by unfold maxLen; omega) (by omega) ?_; intro a9 c9 w8 hr9 hg9 hb9))
  have hm1 : (0 : Nat) + 1 = 1 := rfl
  rw [hm1] at hr9 hb9
  have h8f : ∀ g, (Value.slice a8 0 c8).ownBlock = some g → w.heap.size ≤ g := fun g hg => by
    have e0 := HMG1.out.size
    rcases HB8.out with e | e
    · rw [e] at hg; cases hg
    · rw [e] at hg; injection hg with hg; omega
  have p8 : Pure w w8 := (HMG1.out.trans HP7.out).then (Mod.of_grown (S := fun k' => (Value.slice a8 0 c8).ownBlock = some k') hg9 (fun k e _ => e)) (fun k hk e => by have := h8f k e; omega)
  have hrow : TdRow w8 a9 c9 [x] := by
    show World.ownsRow _ 0 _ 3 (.slice a9 1 c9) 1 ([x].flatMap tdC)
    have : [x].flatMap tdC = [] ++ tdC x := by simp [List.flatMap_cons]
    rw [this]
    exact hr9
  have hfin : FreshV w (.slice a9 1 c9) := fun g hg => by
    rcases hb9 with e | e
    · exact h8f g (e ▸ hg)
    · rw [e] at hg; injection hg with hg; have := (HMG1.out.trans HP7.out).size; omega
  have HF := Lib.hid hfin; have HROW := Lib.hid hrow; have HP8 := Lib.hid p8
  clear hr9 hg9 hb9 h8f p8 hrow hfin
  refine bodyPost_ret (v := .slice a9 1 c9) (by simp [results, Tryd.results59, go_sem]) rfl ⟨a9, c9, rfl, HROW.out, HF.out, HP8.out⟩
end Go.Proofs.YtlalpenfgkfkpaaDoor
