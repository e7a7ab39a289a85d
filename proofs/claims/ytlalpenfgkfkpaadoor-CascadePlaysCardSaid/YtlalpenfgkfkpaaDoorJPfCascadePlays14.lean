/- Lemmas and contracts of functions, strung together out of 3 texts. No condition. -/
import Derived.Test.YtlalpenfgkfkpaaDoorJPfCascadePlays13
import Derived.Test.YtlalpenfgkfkpaaDoorJPfCascadePlays12
import Derived.Test.YtlalpenfgkfkpaaDoorJPfCascadePlays8
import Derived.Maps.RangeWalk
/- law20.step: Reschedule. Conditions: the cascade lies in memory, the reference's list is read. -/
namespace Go.Proofs.YtlalpenfgkfkpaaDoor
open Go.RowKit Go.Shelf
set_option maxRecDepth 100000
section
variable {w0 w w5 w6 : World} {D D' : Nat → Prop} {p p' now now' n c n' c' b2 : Nat} {a a' : Option Addr} {L L' : List Td} {t : Act20}
theorem KnS.reschedM2 (h : KnS w0 w D p now L) {s dl : Nat} (h32 : s ≤ 4294967295) (hd : dl ≤ 18446744073709551615) :
    Calls Tryd.prog 25 #[lkP p, .int .u32 s, .int .u64 dl] w fun e w' => e = .returned (.int .i64 (resR now L s dl)) ∧ ∃ D', KnS w0 w' D' p now (resL now L s dl) ∧ grewD D D' w ∧ Mod D w w' := by
  refine (h.t.at_.resched h32 hd (by have := h.t.at_.count; unfold maxLen; omega)).mono ?_
  rintro e w' ⟨rfl, ⟨D', hc, hg⟩, hm⟩
  exact ⟨rfl, D', h.step (h.t.next hc hg hm) hg hm, hg, hm⟩
theorem pairwise_nodup (h : L.Pairwise bef) : L.Nodup := h.imp (fun {a b} hab e => by subst e; unfold bef at hab; omega)
set_option maxHeartbeats 2000000 in
theorem step_resched (h : StI w0 w p now a n c D L) (ht : ActOk t) (h0 : t.what = 2) :
    Calls Tryd.prog 30 #[lkP p, whV now a n c, actV t] w (StP w0 w a n c D) := by
  unfold whV actV
  obtain ⟨W1, b0, b1, b2, hW, e0, e1, e2, hB⟩ := boxA_ok (w := w) (now := now) (a := a) (n := n) (c := c) (t := t)
  unfold boxA at hW
  have hx := hB.cells (Mod.refl _ W1)
  have hw0 : (t.what == 0) = false := by rw [h0]; rfl
  have hw1 : (t.what == 1) = false := by rw [h0]; rfl
  have hw2 : (t.what == 2) = true := by rw [h0]; rfl
  have hs1 := h.pure hB.pure
  have hlL := h.ks.t.at_.count
  rw [h.rd.len] at hlL
  obtain ⟨u1, u2, u3⟩ := h.ks.t.at_.uniq
  have hca := rres_ok (now := now) hs1.rd hlL (s := t.slot) (dl := t.time) ht.s ht.t (fun y hy => (h.ks.t.at_.rng y hy).2.2.2) ⟨u1, u2, pairwise_nodup u3⟩
  have hcc := fun (W : World) (hp : Pure W1 W) => (hs1.pure hp).ks.reschedM2 (s := t.slot) (dl := t.time) ht.s ht.t
  obtain ⟨er, her⟩ : ∃ y, resR now L t.slot t.time = y := ⟨_, rfl⟩
  obtain ⟨Ln, hLn⟩ : ∃ Ln, resL now L t.slot t.time = Ln := ⟨_, rfl⟩
  rw [her, hLn] at hca
  rw [her, hLn] at hcc
  unfold whV at hca
  have HB := Lib.hid hB; have HW := Lib.hid hW; have E0 := Lib.hid e0; have E1 := Lib.hid e1; have E2 := Lib.hid e2; have HCa := Lib.hid hca; have HCc := Lib.hid hcc; have HH := Lib.hid h
  have HK := Lib.hid (fun (u : World) (hp : Pure W1 u) => hB.cells hp)
  clear hB hW e0 e1 e2 hca hcc hs1 h her hLn hlL ht h0 u1 u2 u3
  go_enter Tryd.func30, Tryd.ntmps30
  go_upto_region 1 with fail
  rw [HW.out, E2.out, E1.out, E0.out]
  clear HW E0 E1 E2
  obtain ⟨x0, x1, y0, y1, y2, y3⟩ := hx
  go_upto_region 11 with (first
    | (go_at_call 67; refine Calls.mono HCa.out ?_; rintro e w4 ⟨a4, n4, c4, rfl, hr4, hk4, hp4⟩
       have HP4 := Lib.hid hp4; have HR4 := Lib.hid hr4; have HK4 := Lib.hid hk4
       clear hp4 hr4 hk4 x0 x1 y0 y1 y2 y3))
  have pa := (Mod.refl (fun _ => False) w4).alloc (.cells #[.int .u64 now, .slice a4 n4 c4] 45)
  have h16 := heap_new (w := w4) (o := .cells #[.int .u64 now, .slice a4 n4 c4] 45 (0, 0)) rfl
  obtain ⟨b16, hb16⟩ : ∃ b, w4.heap.size = b := ⟨_, rfl⟩
  rw [hb16] at h16 ⊢
  generalize w4.alloc (.cells #[.int .u64 now, .slice a4 n4 c4] 45) = W5 at *
  have hlW : ∀ k, D k → k < w.heap.size := fun k hk => HH.out.ks.lt hk
  have hws := HB.out.pure.size
  have hw1s := HP4.out.size
  have hb2 := lt_of_block HB.out.h2
  have n9 : ¬ (D b16 ∨ b16 = b2) := fun e => by
    rcases e with e | e
    · have := hlW _ e; omega
    · omega
  have n1 : ¬ (D b1 ∨ b1 = b2) := fun e => by
    rcases e with e | e
    · have := hlW _ e; have := HB.out.z1; omega
    · exact HB.out.ne12 e
  have n2 : ¬ D b2 := fun e => by have := hlW _ e; have := HB.out.z2; omega
  have p5 := HP4.out.trans pa
  have hkm : ∀ u, Mod (fun k => D k ∨ k = b2) W5 u → u.cell? ⟨b16, 0, none⟩ = some (.int .u64 now) ∧ u.cell? ⟨b16, 1, none⟩ = some (.slice a4 n4 c4) ∧ u.cell? ⟨b1, 1, none⟩ = some (.int .u32 t.slot) ∧ u.cell? ⟨b1, 3, none⟩ = some (.int .u64 t.time) := fun u hm => by
    obtain ⟨x0, x1⟩ := whbox (hm.heap n9 h16)
    obtain ⟨_, _, _, y1, y2, y3⟩ := HK.out W5 p5
    exact ⟨x0, x1, hm.cell n1 y1, hm.cell n1 y3⟩
  have hrb : ∀ g, rdBlock (.slice a4 n4 c4) = some g → g ≠ b2 := fun g hg => by
    rcases HK4.out.rd hg with e | e
    · have := HH.out.rd.lt e; have := HB.out.z2; omega
    · omega
  have hr5 := HR4.out.pure pa
  have HKm := Lib.hid hkm; have HRb := Lib.hid hrb; have HPx := Lib.hid p5; have HRx := Lib.hid hr5; have HN2 := Lib.hid n2; have HB2 := Lib.hid hb2
  have HX := Lib.hid (hkm W5 (Mod.refl _ _))
  clear hkm hrb p5 hr5 n2 n1 n9 hlW hws hw1s hb2 h16 pa hb16
  refine wp_region_held_drew (S := fun u => u.cell? ⟨b16, 0, none⟩ = some (.int .u64 now) ∧ u.cell? ⟨b16, 1, none⟩ = some (.slice a4 n4 c4) ∧ u.cell? ⟨b1, 1, none⟩ = some (.int .u32 t.slot) ∧ u.cell? ⟨b1, 3, none⟩ = some (.int .u64 t.time)) (by kernel_rfl) HX.out (fun hHeld => ?_)
  ((refine wpAnyH_take (i := 0) (v := ?_) rfl (by kernel_rfl) (by kernel_rfl) (by kernel_rfl) (fun _ _ _ h => h) (Yields.yieldsIf (Or.inl ⟨by rfl, ?_⟩)) hHeld ?_; rotate_left 1; focus (intro w; go_simp; try with_reducible rfl)); try simp only [Act.put, List.getElem_toArray, List.getElem_cons_zero, List.getElem_cons_succ, List.setIfInBounds_toArray, List.set_cons_zero, List.set_cons_succ])
  ((refine wpAnyH_take (i := 1) (v := ?_) rfl (by kernel_rfl) (by kernel_rfl) (by kernel_rfl) (fun _ _ _ h => h) (Or.inl ⟨by rfl, ?_⟩) hHeld ?_; rotate_left 1; focus (intro w hS; obtain ⟨s0, s1, s2, s3⟩ := hS; go_simp; try with_reducible rfl)); try simp only [Act.put, List.getElem_toArray, List.getElem_cons_zero, List.getElem_cons_succ, List.setIfInBounds_toArray, List.set_cons_zero, List.set_cons_succ])
  ((refine wpAnyH_take (i := 2) (v := ?_) rfl (by kernel_rfl) (by kernel_rfl) (by kernel_rfl) (fun _ _ _ h => h) (Yields.yieldsIf (Or.inl ⟨by rfl, ?_⟩)) hHeld ?_; rotate_left 1; focus (intro w; go_simp; try with_reducible rfl)); try simp only [Act.put, List.getElem_toArray, List.getElem_cons_zero, List.getElem_cons_succ, List.setIfInBounds_toArray, List.set_cons_zero, List.set_cons_succ])
  ((refine wpAnyH_take (i := 3) (v := ?_) rfl (by kernel_rfl) (by kernel_rfl) (by kernel_rfl) (fun _ _ _ h => h) (Yields.yieldsIf (Or.inl ⟨by rfl, ?_⟩)) hHeld ?_; rotate_left 1; focus (intro w; go_simp; try with_reducible rfl)); try simp only [Act.put, List.getElem_toArray, List.getElem_cons_zero, List.getElem_cons_succ, List.setIfInBounds_toArray, List.set_cons_zero, List.set_cons_succ])
  ((refine wpAnyH_take (i := 4) (v := ?_) rfl (by kernel_rfl) (by kernel_rfl) (by kernel_rfl) (fun _ _ _ h => h) (Or.inl ⟨by rfl, ?_⟩) hHeld ?_; rotate_left 1; focus (intro w hS; obtain ⟨s0, s1, s2, s3⟩ := hS; go_simp; try with_reducible rfl)); try simp only [Act.put, List.getElem_toArray, List.getElem_cons_zero, List.getElem_cons_succ, List.setIfInBounds_toArray, List.set_cons_zero, List.set_cons_succ])
  ((refine wpAnyH_take (i := 5) (v := ?_) rfl (by kernel_rfl) (by kernel_rfl) (by kernel_rfl) (fun _ _ _ h => h) (Yields.yieldsIf (Or.inl ⟨by rfl, ?_⟩)) hHeld ?_; rotate_left 1; focus (intro w; go_simp; try with_reducible rfl)); try simp only [Act.put, List.getElem_toArray, List.getElem_cons_zero, List.getElem_cons_succ, List.setIfInBounds_toArray, List.set_cons_zero, List.set_cons_succ])
  ((refine wpAnyH_take (i := 6) (v := ?_) rfl (by kernel_rfl) (by kernel_rfl) (by kernel_rfl) (fun _ _ _ h => h) (Or.inl ⟨by rfl, ?_⟩) hHeld ?_; rotate_left 1; focus (intro w hS; obtain ⟨s0, s1, s2, s3⟩ := hS; go_simp; try with_reducible rfl)); try simp only [Act.put, List.getElem_toArray, List.getElem_cons_zero, List.getElem_cons_succ, List.setIfInBounds_toArray, List.set_cons_zero, List.set_cons_succ])
  ((refine wpAnyH_take (i := 8) (v := ?_) rfl (by kernel_rfl) (by kernel_rfl) (by kernel_rfl) (fun _ _ _ h => h) (Yields.yieldsIf (Or.inl ⟨by rfl, ?_⟩)) hHeld ?_; rotate_left 1; focus (intro w; go_simp; try with_reducible rfl)); try simp only [Act.put, List.getElem_toArray, List.getElem_cons_zero, List.getElem_cons_succ, List.setIfInBounds_toArray, List.set_cons_zero, List.set_cons_succ])
  have HQ : Hid (Pure W5 W5.drew) := Lib.hid (Mod.refl _ _).drew
  ((refine wpAnyH_ready (rs := [7]) (by kernel_rfl) (by simp) ?_; refine AllReadyH.cons rfl (fun K hK => ?_) AllReadyH.nil; go_simp; refine Calls.mono (HCc.out _ (HPx.out.trans HQ.out)) ?_; rintro e u2 ⟨rfl, D6, hs6, hg6, hm6⟩; refine hK.out _ _ ?_ (fun hHeld => ?_); (· exact HKm.out _ ((Mod.of_pure HQ.out).trans (hm6.mono (fun _ _ h => .inl h)))); clear hK K); try simp only [Act.put, List.getElem_toArray, List.getElem_cons_zero, List.getElem_cons_succ, List.setIfInBounds_toArray, List.set_cons_zero, List.set_cons_succ])
  have h26 := hm6.heap HN2.out ((HPx.out.trans HQ.out).heap (fun h => h) HB.out.h2)
  have HF := Lib.hid (HH.out.fin (HB.out.pure.trans (HPx.out.trans HQ.out)) (HRx.out.pure HQ.out) (HK4.out.mono HB.out.pure.size) hs6 hg6 hm6 HB.out.z2 (Nat.lt_of_lt_of_le HB2.out (HPx.out.trans HQ.out).size) HRb.out (.int .u64 now) (.slice a4 n4 c4))
  have HM6 := Lib.hid hm6
  clear hs6 hg6 hm6
  have h26_0 := cell_of_row _ _ 0 _ _ _ h26; have h26_1 := cell_of_row _ _ 1 _ _ _ h26; have h26_f := (fun j => frozen_of_row _ _ j _ _ h26); have h26_l := lt_of_block h26; simp at h26_0 h26_1; have H_h26 := Lib.hid h26; clear h26
  ((refine wpAnyH_take (i := 9) (v := ?_) rfl (by kernel_rfl) (by kernel_rfl) (by kernel_rfl) (fun _ _ _ h => h) (Yields.yieldsIf (Or.inl ⟨by rfl, ?_⟩)) hHeld ?_; rotate_left 1; focus (intro w; go_simp; try with_reducible rfl)); try simp only [Act.put, List.getElem_toArray, List.getElem_cons_zero, List.getElem_cons_succ, List.setIfInBounds_toArray, List.set_cons_zero, List.set_cons_succ])
  ((refine wpAnyH_take (i := 10) (v := ?_) rfl (by kernel_rfl) (by kernel_rfl) (by kernel_rfl) (fun _ _ _ h => h) (Yields.yieldsIf (Or.inl ⟨by rfl, ?_⟩)) hHeld ?_; rotate_left 1; focus (intro w; go_simp; try with_reducible rfl)); try simp only [Act.put, List.getElem_toArray, List.getElem_cons_zero, List.getElem_cons_succ, List.setIfInBounds_toArray, List.set_cons_zero, List.set_cons_succ])
  ((refine wpAnyH_ready (rs := [11]) (by kernel_rfl) (by simp) ?_; refine AllReadyH.cons rfl (fun K hK => ?_) AllReadyH.nil; go_simp; skip; refine hK.out _ _ ?_ (fun hHeld => ?_); (· exact HKm.out _ (((Mod.of_pure HQ.out).trans (HM6.out.mono (fun _ _ h => .inl h))).trans ((Mod.set2 b2 0 1 _ _).mono (fun _ _ h => .inr h)))); clear hK K); try simp only [Act.put, List.getElem_toArray, List.getElem_cons_zero, List.getElem_cons_succ, List.setIfInBounds_toArray, List.set_cons_zero, List.set_cons_succ])
  ((refine wpAnyH_take (i := 12) (v := ?_) rfl (by kernel_rfl) (by kernel_rfl) (by kernel_rfl) (fun _ _ _ h => h) (Yields.yieldsIf (Or.inl ⟨by rfl, ?_⟩)) hHeld ?_; rotate_left 1; focus (intro w; go_simp; try with_reducible rfl)); try simp only [Act.put, List.getElem_toArray, List.getElem_cons_zero, List.getElem_cons_succ, List.setIfInBounds_toArray, List.set_cons_zero, List.set_cons_succ])
  refine wpAnyH_done (by kernel_rfl) ?_ _
  clear hHeld
  go_wp2
  refine bodyPost_ret (v := .tuple #[lkP p, .agg #[.int .u64 now, .slice a4 n4 c4], .bool true]) (by simp [results, Tryd.results30, go_sem, h26_0, h26_1, h26_l]) rfl ⟨p, now, a4, n4, c4, D6, Ln, rfl, HF.out.1, HF.out.2.1, HK4.out.mono HB.out.pure.size, HF.out.2.2⟩
end
end Go.Proofs.YtlalpenfgkfkpaaDoor

/- law20.step: Advance, three kinds. Conditions: the cascade lies in memory, the reference's list is read. Printed by wip/gen_l20f.py. -/
namespace Go.Proofs.YtlalpenfgkfkpaaDoor
open Go.RowKit Go.Shelf
set_option maxRecDepth 100000
section
variable {w0 w w5 w6 : World} {D D' : Nat → Prop} {p p' now now' n c n' c' b2 : Nat} {a a' : Option Addr} {L L' : List Td} {t : Act20}
theorem nextD_lt (h : CasAt w D p now L) : nextD L < 18446744073709551616 := by
  cases L with
  | nil => show 18446744073709551615 < _; omega
  | cons x L => have := (h.rng x List.mem_cons_self).2.2.1; show x.dl < _; omega
set_option maxHeartbeats 2000000 in
theorem step_adv3 (h : StI w0 w p now a n c D L) (ht : ActOk t) (h0 : t.what = 3) :
    Calls Tryd.prog 30 #[lkP p, whV now a n c, actV t] w (StP w0 w a n c D) := by
  unfold whV actV
  obtain ⟨W1, b0, b1, b2, hW, e0, e1, e2, hB⟩ := boxA_ok (w := w) (now := now) (a := a) (n := n) (c := c) (t := t)
  unfold boxA at hW
  have hx := hB.cells (Mod.refl _ W1)
  have hw0 : (t.what == 0) = false := by rw [h0]; rfl
  have hw1 : (t.what == 1) = false := by rw [h0]; rfl
  have hw2 : (t.what == 2) = false := by rw [h0]; rfl
  have hw3 : (t.what == 3) = true := by rw [h0]; rfl
  have hw4 : (t.what == 4) = false := by rw [h0]; rfl
  have hw5 : (t.what == 5) = false := by rw [h0]; rfl
  have hs1 := h.pure hB.pure
  have hlL := h.ks.t.at_.count
  rw [h.rd.len] at hlL
  have h64 := h.ks.t.at_.now64
  have htt := ht.t
  obtain ⟨tt, hte⟩ : ∃ tt, t.time = tt := ⟨_, rfl⟩
  have ht64 : tt < 18446744073709551616 := by omega
  have hca := fun (W : World) (hp : Pure W1 W) => radv_any (tt := tt) (hs1.pure hp).rd hlL (fun x hx => (h.ks.t.at_.rng x hx).2.1)
  have hcc := fun (W : World) (hp : Pure W1 W) (a2 : Option Addr) (n2 c2 : Nat) (hr : RdL W a2 n2 c2 (aOut now tt L)) (hwD : ∀ g, rdBlock (.slice a2 n2 c2) = some g → ¬ D g) => (hs1.pure hp).ks.advM2 (tt := tt) ht64 hr hwD
  obtain ⟨nw', hnw'⟩ : ∃ x, aNow now tt = x := ⟨_, rfl⟩
  obtain ⟨er, her⟩ : ∃ x, aErr now tt = x := ⟨_, rfl⟩
  obtain ⟨Ln, hLn⟩ : ∃ x, aRest now tt L = x := ⟨_, rfl⟩
  obtain ⟨lo, hlo⟩ : ∃ x, aOut now tt L = x := ⟨_, rfl⟩
  rw [hnw', her, hLn, hlo] at hca
  rw [hnw', her, hLn, hlo] at hcc
  unfold whV at hca
  have HB := Lib.hid hB; have HW := Lib.hid hW; have E0 := Lib.hid e0; have E1 := Lib.hid e1; have E2 := Lib.hid e2; have HCa := Lib.hid hca; have HCc := Lib.hid hcc; have HH := Lib.hid h
  have HK := Lib.hid (fun (u : World) (hp : Pure W1 u) => hB.cells hp)
  clear hB hW e0 e1 e2 hca hcc hs1 h hnw' her hLn hlo hlL ht h0 h64 ht64 htt
  have HTE := Lib.hid hte
  clear hte
  go_enter Tryd.func30, Tryd.ntmps30
  go_upto_region 1 with fail
  rw [HW.out, E2.out, E1.out, E0.out]
  clear HW E0 E1 E2
  obtain ⟨x0, x1, y0, y1, y2, y3⟩ := hx
  rw [HTE.out] at y3
  go_upto_region 20 with fail
  have hca := HCa.out W1 (Mod.refl _ _)
  have HCa2 := Lib.hid hca
  clear hca HCa
  go_upto_region 21 with (first
    | (go_at_call 21; refine Calls.mono HCa2.out ?_; rintro e w4 ⟨a4, n4, c4, a5, n5, c5, rfl, hr4, hk4, hr5, hf5, hp4⟩
       have HP4 := Lib.hid (Mod.trans ((Mod.refl _ _) : Pure W1 W1) hp4); have HR4 := Lib.hid hr4; have HK4 := Lib.hid (hk4.mono (Mod.size ((Mod.refl _ _) : Pure W1 W1))); have HR5 := Lib.hid hr5
       have HF5 := Lib.hid (fun g hg => Nat.le_trans (Mod.size ((Mod.refl _ _) : Pure W1 W1)) (hf5 g hg))
       clear hp4 hr4 hk4 hr5 hf5 x0 x1 y0 y1 y2 y3))
  have pa := (Mod.refl (fun _ => False) w4).alloc (.cells #[.int .u64 nw', .slice a4 n4 c4] 45)
  have h16 := heap_new (w := w4) (o := .cells #[.int .u64 nw', .slice a4 n4 c4] 45 (0, 0)) rfl
  obtain ⟨b16, hb16⟩ : ∃ b, w4.heap.size = b := ⟨_, rfl⟩
  rw [hb16] at h16 ⊢
  generalize w4.alloc (.cells #[.int .u64 nw', .slice a4 n4 c4] 45) = W5 at *
  have hlW : ∀ k, D k → k < w.heap.size := fun k hk => HH.out.ks.lt hk
  have hws := HB.out.pure.size
  have hw1s := HP4.out.size
  have hb2 := lt_of_block HB.out.h2
  have n9 : ¬ (D b16 ∨ b16 = b2) := fun e => by
    rcases e with e | e
    · have := hlW _ e; omega
    · omega
  have n2 : ¬ D b2 := fun e => by have := hlW _ e; have := HB.out.z2; omega
  have p5 := HP4.out.trans pa
  have hkm : ∀ u, Mod (fun k => D k ∨ k = b2) W5 u → u.cell? ⟨b16, 0, none⟩ = some (.int .u64 nw') ∧ u.cell? ⟨b16, 1, none⟩ = some (.slice a4 n4 c4) := fun u hm => whbox (hm.heap n9 h16)
  have hrb : ∀ g, rdBlock (.slice a4 n4 c4) = some g → g ≠ b2 := fun g hg => by
    rcases HK4.out.rd hg with e | e
    · have := HH.out.rd.lt e; have := HB.out.z2; omega
    · omega
  have hr5 := HR4.out.pure pa
  have hcc := HCc.out W5.drew p5.drew a5 n5 c5 ((HR5.out.pure pa).pure (Mod.refl _ _).drew) (fun g hg hd => by have := HF5.out g hg; have := hlW g hd; omega)
  have HKm := Lib.hid hkm; have HRb := Lib.hid hrb; have HPx := Lib.hid p5; have HRx := Lib.hid hr5; have HN2 := Lib.hid n2; have HB2 := Lib.hid hb2; have HCc5 := Lib.hid hcc
  have HX := Lib.hid (hkm W5 (Mod.refl _ _))
  clear hkm hrb p5 hr5 n2 n9 hlW hws hw1s hb2 h16 pa hb16 hcc HCc
  refine wp_region_held_drew (S := fun u => u.cell? ⟨b16, 0, none⟩ = some (.int .u64 nw') ∧ u.cell? ⟨b16, 1, none⟩ = some (.slice a4 n4 c4)) (by kernel_rfl) HX.out (fun hHeld => ?_)
  ((refine wpAnyH_take (i := 0) (v := ?_) rfl (by kernel_rfl) (by kernel_rfl) (by kernel_rfl) (fun _ _ _ h => h) (Yields.yieldsIf (Or.inl ⟨by rfl, ?_⟩)) hHeld ?_; rotate_left 1; focus (intro w; go_simp; try with_reducible rfl)); try simp only [Act.put, List.getElem_toArray, List.getElem_cons_zero, List.getElem_cons_succ, List.setIfInBounds_toArray, List.set_cons_zero, List.set_cons_succ])
  ((refine wpAnyH_take (i := 1) (v := ?_) rfl (by kernel_rfl) (by kernel_rfl) (by kernel_rfl) (fun _ _ _ h => h) (Or.inl ⟨by rfl, ?_⟩) hHeld ?_; rotate_left 1; focus (intro w hS; obtain ⟨s0, s1⟩ := hS; go_simp; try with_reducible rfl)); try simp only [Act.put, List.getElem_toArray, List.getElem_cons_zero, List.getElem_cons_succ, List.setIfInBounds_toArray, List.set_cons_zero, List.set_cons_succ])
  ((refine wpAnyH_take (i := 2) (v := ?_) rfl (by kernel_rfl) (by kernel_rfl) (by kernel_rfl) (fun _ _ _ h => h) (Yields.yieldsIf (Or.inl ⟨by rfl, ?_⟩)) hHeld ?_; rotate_left 1; focus (intro w; go_simp; try with_reducible rfl)); try simp only [Act.put, List.getElem_toArray, List.getElem_cons_zero, List.getElem_cons_succ, List.setIfInBounds_toArray, List.set_cons_zero, List.set_cons_succ])
  ((refine wpAnyH_take (i := 3) (v := ?_) rfl (by kernel_rfl) (by kernel_rfl) (by kernel_rfl) (fun _ _ _ h => h) (Yields.yieldsIf (Or.inl ⟨by rfl, ?_⟩)) hHeld ?_; rotate_left 1; focus (intro w; go_simp; try with_reducible rfl)); try simp only [Act.put, List.getElem_toArray, List.getElem_cons_zero, List.getElem_cons_succ, List.setIfInBounds_toArray, List.set_cons_zero, List.set_cons_succ])
  ((refine wpAnyH_take (i := 4) (v := ?_) rfl (by kernel_rfl) (by kernel_rfl) (by kernel_rfl) (fun _ _ _ h => h) (Yields.yieldsIf (Or.inl ⟨by rfl, ?_⟩)) hHeld ?_; rotate_left 1; focus (intro w; go_simp; try with_reducible rfl)); try simp only [Act.put, List.getElem_toArray, List.getElem_cons_zero, List.getElem_cons_succ, List.setIfInBounds_toArray, List.set_cons_zero, List.set_cons_succ])
  ((refine wpAnyH_take (i := 5) (v := ?_) rfl (by kernel_rfl) (by kernel_rfl) (by kernel_rfl) (fun _ _ _ h => h) (Yields.yieldsIf (Or.inl ⟨by rfl, ?_⟩)) hHeld ?_; rotate_left 1; focus (intro w; go_simp; try with_reducible rfl)); try simp only [Act.put, List.getElem_toArray, List.getElem_cons_zero, List.getElem_cons_succ, List.setIfInBounds_toArray, List.set_cons_zero, List.set_cons_succ])
  have HQ : Hid (Pure W5 W5.drew) := Lib.hid (Mod.refl _ _).drew
  ((refine wpAnyH_ready (rs := [6]) (by kernel_rfl) (by simp) ?_; refine AllReadyH.cons rfl (fun K hK => ?_) AllReadyH.nil; go_simp; refine Calls.mono HCc5.out ?_; rintro e u2 ⟨rfl, D6, hs6, hg6, hm6⟩; refine hK.out _ _ ?_ (fun hHeld => ?_); (· exact HKm.out _ ((Mod.of_pure HQ.out).trans (hm6.mono (fun _ _ h => .inl h)))); clear hK K); try simp only [Act.put, List.getElem_toArray, List.getElem_cons_zero, List.getElem_cons_succ, List.setIfInBounds_toArray, List.set_cons_zero, List.set_cons_succ])
  have h26 := hm6.heap HN2.out ((HPx.out.trans HQ.out).heap (fun h => h) HB.out.h2)
  have HF := Lib.hid (HH.out.fin (HB.out.pure.trans (HPx.out.trans HQ.out)) (HRx.out.pure HQ.out) (HK4.out.mono HB.out.pure.size) hs6 hg6 hm6 HB.out.z2 (Nat.lt_of_lt_of_le HB2.out (HPx.out.trans HQ.out).size) HRb.out (.int .u64 nw') (.slice a4 n4 c4))
  have HM6 := Lib.hid hm6
  clear hs6 hg6 hm6
  have h26_0 := cell_of_row _ _ 0 _ _ _ h26; have h26_1 := cell_of_row _ _ 1 _ _ _ h26; have h26_f := (fun j => frozen_of_row _ _ j _ _ h26); have h26_l := lt_of_block h26; simp at h26_0 h26_1; have H_h26 := Lib.hid h26; clear h26
  ((refine wpAnyH_take (i := 7) (v := ?_) rfl (by kernel_rfl) (by kernel_rfl) (by kernel_rfl) (fun _ _ _ h => h) (Yields.yieldsIf (Or.inl ⟨by rfl, ?_⟩)) hHeld ?_; rotate_left 1; focus (intro w; go_simp; try with_reducible rfl)); try simp only [Act.put, List.getElem_toArray, List.getElem_cons_zero, List.getElem_cons_succ, List.setIfInBounds_toArray, List.set_cons_zero, List.set_cons_succ])
  ((refine wpAnyH_ready (rs := [8]) (by kernel_rfl) (by simp) ?_; refine AllReadyH.cons rfl (fun K hK => ?_) AllReadyH.nil; go_simp; skip; refine hK.out _ _ ?_ (fun hHeld => ?_); (· exact HKm.out _ (((Mod.of_pure HQ.out).trans (HM6.out.mono (fun _ _ h => .inl h))).trans ((Mod.set2 b2 0 1 _ _).mono (fun _ _ h => .inr h)))); clear hK K); try simp only [Act.put, List.getElem_toArray, List.getElem_cons_zero, List.getElem_cons_succ, List.setIfInBounds_toArray, List.set_cons_zero, List.set_cons_succ])
  ((refine wpAnyH_take (i := 9) (v := ?_) rfl (by kernel_rfl) (by kernel_rfl) (by kernel_rfl) (fun _ _ _ h => h) (Yields.yieldsIf (Or.inl ⟨by rfl, ?_⟩)) hHeld ?_; rotate_left 1; focus (intro w; go_simp; try with_reducible rfl)); try simp only [Act.put, List.getElem_toArray, List.getElem_cons_zero, List.getElem_cons_succ, List.setIfInBounds_toArray, List.set_cons_zero, List.set_cons_succ])
  refine wpAnyH_done (by kernel_rfl) ?_ _
  clear hHeld
  go_wp2
  refine bodyPost_ret (v := .tuple #[lkP p, .agg #[.int .u64 nw', .slice a4 n4 c4], .bool true]) (by simp [results, Tryd.results30, go_sem, h26_0, h26_1, h26_l]) rfl ⟨p, nw', a4, n4, c4, D6, Ln, rfl, HF.out.1, HF.out.2.1, HK4.out.mono HB.out.pure.size, HF.out.2.2⟩
set_option maxHeartbeats 2000000 in
theorem step_adv4 (h : StI w0 w p now a n c D L) (ht : ActOk t) (h0 : t.what = 4) :
    Calls Tryd.prog 30 #[lkP p, whV now a n c, actV t] w (StP w0 w a n c D) := by
  unfold whV actV
  obtain ⟨W1, b0, b1, b2, hW, e0, e1, e2, hB⟩ := boxA_ok (w := w) (now := now) (a := a) (n := n) (c := c) (t := t)
  unfold boxA at hW
  have hx := hB.cells (Mod.refl _ W1)
  have hw0 : (t.what == 0) = false := by rw [h0]; rfl
  have hw1 : (t.what == 1) = false := by rw [h0]; rfl
  have hw2 : (t.what == 2) = false := by rw [h0]; rfl
  have hw3 : (t.what == 3) = false := by rw [h0]; rfl
  have hw4 : (t.what == 4) = true := by rw [h0]; rfl
  have hw5 : (t.what == 5) = false := by rw [h0]; rfl
  have hs1 := h.pure hB.pure
  have hlL := h.ks.t.at_.count
  rw [h.rd.len] at hlL
  have h64 := h.ks.t.at_.now64
  have htt := ht.t
  obtain ⟨tt, hte⟩ : ∃ tt, now + min t.time (18446744073709551615 - now) = tt := ⟨_, rfl⟩
  have ht64 : tt < 18446744073709551616 := by omega
  obtain ⟨d, hd⟩ : ∃ d : Nat, 18446744073709551615 - now = d := ⟨_, rfl⟩
  have hdI : (18446744073709551615 : Int) - (now : Int) = (d : Int) := by omega
  have wd : IntKind.u64.wrap (d : Int) = (d : Int) := by simp [IntKind.wrap, IntKind.signed, IntKind.bits]; omega
  have wt : IntKind.u64.wrap ((now : Int) + min (t.time : Int) (d : Int)) = (tt : Int) := by have e : (now : Int) + min (t.time : Int) (d : Int) = (tt : Int) := (by omega); rw [e]; simp [IntKind.wrap, IntKind.signed, IntKind.bits]; omega
  have hca := fun (W : World) (hp : Pure W1 W) => radv_any (tt := tt) (hs1.pure hp).rd hlL (fun x hx => (h.ks.t.at_.rng x hx).2.1)
  have hcc := fun (W : World) (hp : Pure W1 W) (a2 : Option Addr) (n2 c2 : Nat) (hr : RdL W a2 n2 c2 (aOut now tt L)) (hwD : ∀ g, rdBlock (.slice a2 n2 c2) = some g → ¬ D g) => (hs1.pure hp).ks.advM2 (tt := tt) ht64 hr hwD
  obtain ⟨nw', hnw'⟩ : ∃ x, aNow now tt = x := ⟨_, rfl⟩
  obtain ⟨er, her⟩ : ∃ x, aErr now tt = x := ⟨_, rfl⟩
  obtain ⟨Ln, hLn⟩ : ∃ x, aRest now tt L = x := ⟨_, rfl⟩
  obtain ⟨lo, hlo⟩ : ∃ x, aOut now tt L = x := ⟨_, rfl⟩
  rw [hnw', her, hLn, hlo] at hca
  rw [hnw', her, hLn, hlo] at hcc
  unfold whV at hca
  have HB := Lib.hid hB; have HW := Lib.hid hW; have E0 := Lib.hid e0; have E1 := Lib.hid e1; have E2 := Lib.hid e2; have HCa := Lib.hid hca; have HCc := Lib.hid hcc; have HH := Lib.hid h
  have HK := Lib.hid (fun (u : World) (hp : Pure W1 u) => hB.cells hp)
  clear hB hW e0 e1 e2 hca hcc hs1 h hnw' her hLn hlo hlL ht h0 h64 ht64 htt hd
  have HTE := Lib.hid hte
  clear hte
  go_enter Tryd.func30, Tryd.ntmps30
  go_upto_region 1 with fail
  rw [HW.out, E2.out, E1.out, E0.out]
  clear HW E0 E1 E2
  obtain ⟨x0, x1, y0, y1, y2, y3⟩ := hx
  go_upto_region 20 with fail
  have hca := HCa.out W1 (Mod.refl _ _)
  have HCa2 := Lib.hid hca
  clear hca HCa
  go_upto_region 21 with (first
    | (go_at_call 21; refine Calls.mono HCa2.out ?_; rintro e w4 ⟨a4, n4, c4, a5, n5, c5, rfl, hr4, hk4, hr5, hf5, hp4⟩
       have HP4 := Lib.hid (Mod.trans ((Mod.refl _ _) : Pure W1 W1) hp4); have HR4 := Lib.hid hr4; have HK4 := Lib.hid (hk4.mono (Mod.size ((Mod.refl _ _) : Pure W1 W1))); have HR5 := Lib.hid hr5
       have HF5 := Lib.hid (fun g hg => Nat.le_trans (Mod.size ((Mod.refl _ _) : Pure W1 W1)) (hf5 g hg))
       clear hp4 hr4 hk4 hr5 hf5 x0 x1 y0 y1 y2 y3))
  have pa := (Mod.refl (fun _ => False) w4).alloc (.cells #[.int .u64 nw', .slice a4 n4 c4] 45)
  have h16 := heap_new (w := w4) (o := .cells #[.int .u64 nw', .slice a4 n4 c4] 45 (0, 0)) rfl
  obtain ⟨b16, hb16⟩ : ∃ b, w4.heap.size = b := ⟨_, rfl⟩
  rw [hb16] at h16 ⊢
  generalize w4.alloc (.cells #[.int .u64 nw', .slice a4 n4 c4] 45) = W5 at *
  have hlW : ∀ k, D k → k < w.heap.size := fun k hk => HH.out.ks.lt hk
  have hws := HB.out.pure.size
  have hw1s := HP4.out.size
  have hb2 := lt_of_block HB.out.h2
  have n9 : ¬ (D b16 ∨ b16 = b2) := fun e => by
    rcases e with e | e
    · have := hlW _ e; omega
    · omega
  have n2 : ¬ D b2 := fun e => by have := hlW _ e; have := HB.out.z2; omega
  have p5 := HP4.out.trans pa
  have hkm : ∀ u, Mod (fun k => D k ∨ k = b2) W5 u → u.cell? ⟨b16, 0, none⟩ = some (.int .u64 nw') ∧ u.cell? ⟨b16, 1, none⟩ = some (.slice a4 n4 c4) := fun u hm => whbox (hm.heap n9 h16)
  have hrb : ∀ g, rdBlock (.slice a4 n4 c4) = some g → g ≠ b2 := fun g hg => by
    rcases HK4.out.rd hg with e | e
    · have := HH.out.rd.lt e; have := HB.out.z2; omega
    · omega
  have hr5 := HR4.out.pure pa
  have hcc := HCc.out W5.drew p5.drew a5 n5 c5 ((HR5.out.pure pa).pure (Mod.refl _ _).drew) (fun g hg hd => by have := HF5.out g hg; have := hlW g hd; omega)
  have HKm := Lib.hid hkm; have HRb := Lib.hid hrb; have HPx := Lib.hid p5; have HRx := Lib.hid hr5; have HN2 := Lib.hid n2; have HB2 := Lib.hid hb2; have HCc5 := Lib.hid hcc
  have HX := Lib.hid (hkm W5 (Mod.refl _ _))
  clear hkm hrb p5 hr5 n2 n9 hlW hws hw1s hb2 h16 pa hb16 hcc HCc
  refine wp_region_held_drew (S := fun u => u.cell? ⟨b16, 0, none⟩ = some (.int .u64 nw') ∧ u.cell? ⟨b16, 1, none⟩ = some (.slice a4 n4 c4)) (by kernel_rfl) HX.out (fun hHeld => ?_)
  ((refine wpAnyH_take (i := 0) (v := ?_) rfl (by kernel_rfl) (by kernel_rfl) (by kernel_rfl) (fun _ _ _ h => h) (Yields.yieldsIf (Or.inl ⟨by rfl, ?_⟩)) hHeld ?_; rotate_left 1; focus (intro w; go_simp; try with_reducible rfl)); try simp only [Act.put, List.getElem_toArray, List.getElem_cons_zero, List.getElem_cons_succ, List.setIfInBounds_toArray, List.set_cons_zero, List.set_cons_succ])
  ((refine wpAnyH_take (i := 1) (v := ?_) rfl (by kernel_rfl) (by kernel_rfl) (by kernel_rfl) (fun _ _ _ h => h) (Or.inl ⟨by rfl, ?_⟩) hHeld ?_; rotate_left 1; focus (intro w hS; obtain ⟨s0, s1⟩ := hS; go_simp; try with_reducible rfl)); try simp only [Act.put, List.getElem_toArray, List.getElem_cons_zero, List.getElem_cons_succ, List.setIfInBounds_toArray, List.set_cons_zero, List.set_cons_succ])
  ((refine wpAnyH_take (i := 2) (v := ?_) rfl (by kernel_rfl) (by kernel_rfl) (by kernel_rfl) (fun _ _ _ h => h) (Yields.yieldsIf (Or.inl ⟨by rfl, ?_⟩)) hHeld ?_; rotate_left 1; focus (intro w; go_simp; try with_reducible rfl)); try simp only [Act.put, List.getElem_toArray, List.getElem_cons_zero, List.getElem_cons_succ, List.setIfInBounds_toArray, List.set_cons_zero, List.set_cons_succ])
  ((refine wpAnyH_take (i := 3) (v := ?_) rfl (by kernel_rfl) (by kernel_rfl) (by kernel_rfl) (fun _ _ _ h => h) (Yields.yieldsIf (Or.inl ⟨by rfl, ?_⟩)) hHeld ?_; rotate_left 1; focus (intro w; go_simp; try with_reducible rfl)); try simp only [Act.put, List.getElem_toArray, List.getElem_cons_zero, List.getElem_cons_succ, List.setIfInBounds_toArray, List.set_cons_zero, List.set_cons_succ])
  ((refine wpAnyH_take (i := 4) (v := ?_) rfl (by kernel_rfl) (by kernel_rfl) (by kernel_rfl) (fun _ _ _ h => h) (Yields.yieldsIf (Or.inl ⟨by rfl, ?_⟩)) hHeld ?_; rotate_left 1; focus (intro w; go_simp; try with_reducible rfl)); try simp only [Act.put, List.getElem_toArray, List.getElem_cons_zero, List.getElem_cons_succ, List.setIfInBounds_toArray, List.set_cons_zero, List.set_cons_succ])
  ((refine wpAnyH_take (i := 5) (v := ?_) rfl (by kernel_rfl) (by kernel_rfl) (by kernel_rfl) (fun _ _ _ h => h) (Yields.yieldsIf (Or.inl ⟨by rfl, ?_⟩)) hHeld ?_; rotate_left 1; focus (intro w; go_simp; try with_reducible rfl)); try simp only [Act.put, List.getElem_toArray, List.getElem_cons_zero, List.getElem_cons_succ, List.setIfInBounds_toArray, List.set_cons_zero, List.set_cons_succ])
  have HQ : Hid (Pure W5 W5.drew) := Lib.hid (Mod.refl _ _).drew
  ((refine wpAnyH_ready (rs := [6]) (by kernel_rfl) (by simp) ?_; refine AllReadyH.cons rfl (fun K hK => ?_) AllReadyH.nil; go_simp; refine Calls.mono HCc5.out ?_; rintro e u2 ⟨rfl, D6, hs6, hg6, hm6⟩; refine hK.out _ _ ?_ (fun hHeld => ?_); (· exact HKm.out _ ((Mod.of_pure HQ.out).trans (hm6.mono (fun _ _ h => .inl h)))); clear hK K); try simp only [Act.put, List.getElem_toArray, List.getElem_cons_zero, List.getElem_cons_succ, List.setIfInBounds_toArray, List.set_cons_zero, List.set_cons_succ])
  have h26 := hm6.heap HN2.out ((HPx.out.trans HQ.out).heap (fun h => h) HB.out.h2)
  have HF := Lib.hid (HH.out.fin (HB.out.pure.trans (HPx.out.trans HQ.out)) (HRx.out.pure HQ.out) (HK4.out.mono HB.out.pure.size) hs6 hg6 hm6 HB.out.z2 (Nat.lt_of_lt_of_le HB2.out (HPx.out.trans HQ.out).size) HRb.out (.int .u64 nw') (.slice a4 n4 c4))
  have HM6 := Lib.hid hm6
  clear hs6 hg6 hm6
  have h26_0 := cell_of_row _ _ 0 _ _ _ h26; have h26_1 := cell_of_row _ _ 1 _ _ _ h26; have h26_f := (fun j => frozen_of_row _ _ j _ _ h26); have h26_l := lt_of_block h26; simp at h26_0 h26_1; have H_h26 := Lib.hid h26; clear h26
  ((refine wpAnyH_take (i := 7) (v := ?_) rfl (by kernel_rfl) (by kernel_rfl) (by kernel_rfl) (fun _ _ _ h => h) (Yields.yieldsIf (Or.inl ⟨by rfl, ?_⟩)) hHeld ?_; rotate_left 1; focus (intro w; go_simp; try with_reducible rfl)); try simp only [Act.put, List.getElem_toArray, List.getElem_cons_zero, List.getElem_cons_succ, List.setIfInBounds_toArray, List.set_cons_zero, List.set_cons_succ])
  ((refine wpAnyH_ready (rs := [8]) (by kernel_rfl) (by simp) ?_; refine AllReadyH.cons rfl (fun K hK => ?_) AllReadyH.nil; go_simp; skip; refine hK.out _ _ ?_ (fun hHeld => ?_); (· exact HKm.out _ (((Mod.of_pure HQ.out).trans (HM6.out.mono (fun _ _ h => .inl h))).trans ((Mod.set2 b2 0 1 _ _).mono (fun _ _ h => .inr h)))); clear hK K); try simp only [Act.put, List.getElem_toArray, List.getElem_cons_zero, List.getElem_cons_succ, List.setIfInBounds_toArray, List.set_cons_zero, List.set_cons_succ])
  ((refine wpAnyH_take (i := 9) (v := ?_) rfl (by kernel_rfl) (by kernel_rfl) (by kernel_rfl) (fun _ _ _ h => h) (Yields.yieldsIf (Or.inl ⟨by rfl, ?_⟩)) hHeld ?_; rotate_left 1; focus (intro w; go_simp; try with_reducible rfl)); try simp only [Act.put, List.getElem_toArray, List.getElem_cons_zero, List.getElem_cons_succ, List.setIfInBounds_toArray, List.set_cons_zero, List.set_cons_succ])
  refine wpAnyH_done (by kernel_rfl) ?_ _
  clear hHeld
  go_wp2
  refine bodyPost_ret (v := .tuple #[lkP p, .agg #[.int .u64 nw', .slice a4 n4 c4], .bool true]) (by simp [results, Tryd.results30, go_sem, h26_0, h26_1, h26_l]) rfl ⟨p, nw', a4, n4, c4, D6, Ln, rfl, HF.out.1, HF.out.2.1, HK4.out.mono HB.out.pure.size, HF.out.2.2⟩
set_option maxHeartbeats 2000000 in
theorem step_adv5 (h : StI w0 w p now a n c D L) (ht : ActOk t) (h0 : t.what = 5) :
    Calls Tryd.prog 30 #[lkP p, whV now a n c, actV t] w (StP w0 w a n c D) := by
  unfold whV actV
  obtain ⟨W1, b0, b1, b2, hW, e0, e1, e2, hB⟩ := boxA_ok (w := w) (now := now) (a := a) (n := n) (c := c) (t := t)
  unfold boxA at hW
  have hx := hB.cells (Mod.refl _ W1)
  have hw0 : (t.what == 0) = false := by rw [h0]; rfl
  have hw1 : (t.what == 1) = false := by rw [h0]; rfl
  have hw2 : (t.what == 2) = false := by rw [h0]; rfl
  have hw3 : (t.what == 3) = false := by rw [h0]; rfl
  have hw4 : (t.what == 4) = false := by rw [h0]; rfl
  have hw5 : (t.what == 5) = true := by rw [h0]; rfl
  have hs1 := h.pure hB.pure
  have hlL := h.ks.t.at_.count
  rw [h.rd.len] at hlL
  have h64 := h.ks.t.at_.now64
  obtain ⟨tt, hte⟩ : ∃ tt, nextD L = tt := ⟨_, rfl⟩
  have ht64 : tt < 18446744073709551616 := by rw [← hte]; exact nextD_lt h.ks.t.at_
  have hnx := rnext_ok (now := now) hs1.rd.rd hs1.rd.len
  rw [hte] at hnx
  unfold whV at hnx
  have HNx := Lib.hid hnx
  clear hnx
  have hca := fun (W : World) (hp : Pure W1 W) => radv_any (tt := tt) (hs1.pure hp).rd hlL (fun x hx => (h.ks.t.at_.rng x hx).2.1)
  have hcc := fun (W : World) (hp : Pure W1 W) (a2 : Option Addr) (n2 c2 : Nat) (hr : RdL W a2 n2 c2 (aOut now tt L)) (hwD : ∀ g, rdBlock (.slice a2 n2 c2) = some g → ¬ D g) => (hs1.pure hp).ks.advM2 (tt := tt) ht64 hr hwD
  obtain ⟨nw', hnw'⟩ : ∃ x, aNow now tt = x := ⟨_, rfl⟩
  obtain ⟨er, her⟩ : ∃ x, aErr now tt = x := ⟨_, rfl⟩
  obtain ⟨Ln, hLn⟩ : ∃ x, aRest now tt L = x := ⟨_, rfl⟩
  obtain ⟨lo, hlo⟩ : ∃ x, aOut now tt L = x := ⟨_, rfl⟩
  rw [hnw', her, hLn, hlo] at hca
  rw [hnw', her, hLn, hlo] at hcc
  unfold whV at hca
  have HB := Lib.hid hB; have HW := Lib.hid hW; have E0 := Lib.hid e0; have E1 := Lib.hid e1; have E2 := Lib.hid e2; have HCa := Lib.hid hca; have HCc := Lib.hid hcc; have HH := Lib.hid h
  have HK := Lib.hid (fun (u : World) (hp : Pure W1 u) => hB.cells hp)
  clear hB hW e0 e1 e2 hca hcc hs1 h hnw' her hLn hlo hlL ht h0 h64 ht64 hte
  go_enter Tryd.func30, Tryd.ntmps30
  go_upto_region 1 with fail
  rw [HW.out, E2.out, E1.out, E0.out]
  clear HW E0 E1 E2
  obtain ⟨x0, x1, y0, y1, y2, y3⟩ := hx
  go_upto_region 20 with (go_at_call 60; refine Calls.mono HNx.out ?_; rintro e v1 ⟨rfl, hpv⟩; have HPv := Lib.hid hpv; have hkx := HK.out v1 hpv; clear hpv)
  obtain ⟨x0, x1, y0, y1, y2, y3⟩ := hkx
  have hca := HCa.out v1 HPv.out
  have HCa2 := Lib.hid hca
  clear hca HCa
  go_upto_region 21 with (first
    | (go_at_call 21; refine Calls.mono HCa2.out ?_; rintro e w4 ⟨a4, n4, c4, a5, n5, c5, rfl, hr4, hk4, hr5, hf5, hp4⟩
       have HP4 := Lib.hid (Mod.trans (HPv.out : Pure W1 v1) hp4); have HR4 := Lib.hid hr4; have HK4 := Lib.hid (hk4.mono (Mod.size (HPv.out : Pure W1 v1))); have HR5 := Lib.hid hr5
       have HF5 := Lib.hid (fun g hg => Nat.le_trans (Mod.size (HPv.out : Pure W1 v1)) (hf5 g hg))
       clear hp4 hr4 hk4 hr5 hf5 x0 x1 y0 y1 y2 y3))
  have pa := (Mod.refl (fun _ => False) w4).alloc (.cells #[.int .u64 nw', .slice a4 n4 c4] 45)
  have h16 := heap_new (w := w4) (o := .cells #[.int .u64 nw', .slice a4 n4 c4] 45 (0, 0)) rfl
  obtain ⟨b16, hb16⟩ : ∃ b, w4.heap.size = b := ⟨_, rfl⟩
  rw [hb16] at h16 ⊢
  generalize w4.alloc (.cells #[.int .u64 nw', .slice a4 n4 c4] 45) = W5 at *
  have hlW : ∀ k, D k → k < w.heap.size := fun k hk => HH.out.ks.lt hk
  have hws := HB.out.pure.size
  have hw1s := HP4.out.size
  have hb2 := lt_of_block HB.out.h2
  have n9 : ¬ (D b16 ∨ b16 = b2) := fun e => by
    rcases e with e | e
    · have := hlW _ e; omega
    · omega
  have n2 : ¬ D b2 := fun e => by have := hlW _ e; have := HB.out.z2; omega
  have p5 := HP4.out.trans pa
  have hkm : ∀ u, Mod (fun k => D k ∨ k = b2) W5 u → u.cell? ⟨b16, 0, none⟩ = some (.int .u64 nw') ∧ u.cell? ⟨b16, 1, none⟩ = some (.slice a4 n4 c4) := fun u hm => whbox (hm.heap n9 h16)
  have hrb : ∀ g, rdBlock (.slice a4 n4 c4) = some g → g ≠ b2 := fun g hg => by
    rcases HK4.out.rd hg with e | e
    · have := HH.out.rd.lt e; have := HB.out.z2; omega
    · omega
  have hr5 := HR4.out.pure pa
  have hcc := HCc.out W5.drew p5.drew a5 n5 c5 ((HR5.out.pure pa).pure (Mod.refl _ _).drew) (fun g hg hd => by have := HF5.out g hg; have := hlW g hd; omega)
  have HKm := Lib.hid hkm; have HRb := Lib.hid hrb; have HPx := Lib.hid p5; have HRx := Lib.hid hr5; have HN2 := Lib.hid n2; have HB2 := Lib.hid hb2; have HCc5 := Lib.hid hcc
  have HX := Lib.hid (hkm W5 (Mod.refl _ _))
  clear hkm hrb p5 hr5 n2 n9 hlW hws hw1s hb2 h16 pa hb16 hcc HCc
  refine wp_region_held_drew (S := fun u => u.cell? ⟨b16, 0, none⟩ = some (.int .u64 nw') ∧ u.cell? ⟨b16, 1, none⟩ = some (.slice a4 n4 c4)) (by kernel_rfl) HX.out (fun hHeld => ?_)
  ((refine wpAnyH_take (i := 0) (v := ?_) rfl (by kernel_rfl) (by kernel_rfl) (by kernel_rfl) (fun _ _ _ h => h) (Yields.yieldsIf (Or.inl ⟨by rfl, ?_⟩)) hHeld ?_; rotate_left 1; focus (intro w; go_simp; try with_reducible rfl)); try simp only [Act.put, List.getElem_toArray, List.getElem_cons_zero, List.getElem_cons_succ, List.setIfInBounds_toArray, List.set_cons_zero, List.set_cons_succ])
  ((refine wpAnyH_take (i := 1) (v := ?_) rfl (by kernel_rfl) (by kernel_rfl) (by kernel_rfl) (fun _ _ _ h => h) (Or.inl ⟨by rfl, ?_⟩) hHeld ?_; rotate_left 1; focus (intro w hS; obtain ⟨s0, s1⟩ := hS; go_simp; try with_reducible rfl)); try simp only [Act.put, List.getElem_toArray, List.getElem_cons_zero, List.getElem_cons_succ, List.setIfInBounds_toArray, List.set_cons_zero, List.set_cons_succ])
  ((refine wpAnyH_take (i := 2) (v := ?_) rfl (by kernel_rfl) (by kernel_rfl) (by kernel_rfl) (fun _ _ _ h => h) (Yields.yieldsIf (Or.inl ⟨by rfl, ?_⟩)) hHeld ?_; rotate_left 1; focus (intro w; go_simp; try with_reducible rfl)); try simp only [Act.put, List.getElem_toArray, List.getElem_cons_zero, List.getElem_cons_succ, List.setIfInBounds_toArray, List.set_cons_zero, List.set_cons_succ])
  ((refine wpAnyH_take (i := 3) (v := ?_) rfl (by kernel_rfl) (by kernel_rfl) (by kernel_rfl) (fun _ _ _ h => h) (Yields.yieldsIf (Or.inl ⟨by rfl, ?_⟩)) hHeld ?_; rotate_left 1; focus (intro w; go_simp; try with_reducible rfl)); try simp only [Act.put, List.getElem_toArray, List.getElem_cons_zero, List.getElem_cons_succ, List.setIfInBounds_toArray, List.set_cons_zero, List.set_cons_succ])
  ((refine wpAnyH_take (i := 4) (v := ?_) rfl (by kernel_rfl) (by kernel_rfl) (by kernel_rfl) (fun _ _ _ h => h) (Yields.yieldsIf (Or.inl ⟨by rfl, ?_⟩)) hHeld ?_; rotate_left 1; focus (intro w; go_simp; try with_reducible rfl)); try simp only [Act.put, List.getElem_toArray, List.getElem_cons_zero, List.getElem_cons_succ, List.setIfInBounds_toArray, List.set_cons_zero, List.set_cons_succ])
  ((refine wpAnyH_take (i := 5) (v := ?_) rfl (by kernel_rfl) (by kernel_rfl) (by kernel_rfl) (fun _ _ _ h => h) (Yields.yieldsIf (Or.inl ⟨by rfl, ?_⟩)) hHeld ?_; rotate_left 1; focus (intro w; go_simp; try with_reducible rfl)); try simp only [Act.put, List.getElem_toArray, List.getElem_cons_zero, List.getElem_cons_succ, List.setIfInBounds_toArray, List.set_cons_zero, List.set_cons_succ])
  have HQ : Hid (Pure W5 W5.drew) := Lib.hid (Mod.refl _ _).drew
  ((refine wpAnyH_ready (rs := [6]) (by kernel_rfl) (by simp) ?_; refine AllReadyH.cons rfl (fun K hK => ?_) AllReadyH.nil; go_simp; refine Calls.mono HCc5.out ?_; rintro e u2 ⟨rfl, D6, hs6, hg6, hm6⟩; refine hK.out _ _ ?_ (fun hHeld => ?_); (· exact HKm.out _ ((Mod.of_pure HQ.out).trans (hm6.mono (fun _ _ h => .inl h)))); clear hK K); try simp only [Act.put, List.getElem_toArray, List.getElem_cons_zero, List.getElem_cons_succ, List.setIfInBounds_toArray, List.set_cons_zero, List.set_cons_succ])
  have h26 := hm6.heap HN2.out ((HPx.out.trans HQ.out).heap (fun h => h) HB.out.h2)
  have HF := Lib.hid (HH.out.fin (HB.out.pure.trans (HPx.out.trans HQ.out)) (HRx.out.pure HQ.out) (HK4.out.mono HB.out.pure.size) hs6 hg6 hm6 HB.out.z2 (Nat.lt_of_lt_of_le HB2.out (HPx.out.trans HQ.out).size) HRb.out (.int .u64 nw') (.slice a4 n4 c4))
  have HM6 := Lib.hid hm6
  clear hs6 hg6 hm6
  have h26_0 := cell_of_row _ _ 0 _ _ _ h26; have h26_1 := cell_of_row _ _ 1 _ _ _ h26; have h26_f := (fun j => frozen_of_row _ _ j _ _ h26); have h26_l := lt_of_block h26; simp at h26_0 h26_1; have H_h26 := Lib.hid h26; clear h26
  ((refine wpAnyH_take (i := 7) (v := ?_) rfl (by kernel_rfl) (by kernel_rfl) (by kernel_rfl) (fun _ _ _ h => h) (Yields.yieldsIf (Or.inl ⟨by rfl, ?_⟩)) hHeld ?_; rotate_left 1; focus (intro w; go_simp; try with_reducible rfl)); try simp only [Act.put, List.getElem_toArray, List.getElem_cons_zero, List.getElem_cons_succ, List.setIfInBounds_toArray, List.set_cons_zero, List.set_cons_succ])
  ((refine wpAnyH_ready (rs := [8]) (by kernel_rfl) (by simp) ?_; refine AllReadyH.cons rfl (fun K hK => ?_) AllReadyH.nil; go_simp; skip; refine hK.out _ _ ?_ (fun hHeld => ?_); (· exact HKm.out _ (((Mod.of_pure HQ.out).trans (HM6.out.mono (fun _ _ h => .inl h))).trans ((Mod.set2 b2 0 1 _ _).mono (fun _ _ h => .inr h)))); clear hK K); try simp only [Act.put, List.getElem_toArray, List.getElem_cons_zero, List.getElem_cons_succ, List.setIfInBounds_toArray, List.set_cons_zero, List.set_cons_succ])
  ((refine wpAnyH_take (i := 9) (v := ?_) rfl (by kernel_rfl) (by kernel_rfl) (by kernel_rfl) (fun _ _ _ h => h) (Yields.yieldsIf (Or.inl ⟨by rfl, ?_⟩)) hHeld ?_; rotate_left 1; focus (intro w; go_simp; try with_reducible rfl)); try simp only [Act.put, List.getElem_toArray, List.getElem_cons_zero, List.getElem_cons_succ, List.setIfInBounds_toArray, List.set_cons_zero, List.set_cons_succ])
  refine wpAnyH_done (by kernel_rfl) ?_ _
  clear hHeld
  go_wp2
  refine bodyPost_ret (v := .tuple #[lkP p, .agg #[.int .u64 nw', .slice a4 n4 c4], .bool true]) (by simp [results, Tryd.results30, go_sem, h26_0, h26_1, h26_l]) rfl ⟨p, nw', a4, n4, c4, D6, Ln, rfl, HF.out.1, HF.out.2.1, HK4.out.mono HB.out.pure.size, HF.out.2.2⟩
end
end Go.Proofs.YtlalpenfgkfkpaaDoor

/- cascade: Copy. Conditions: the cascade lies in memory. -/
namespace Go.Proofs.YtlalpenfgkfkpaaDoor
open Go.RowKit
set_option maxRecDepth 100000
section
variable {P : Program} {k : TypeId} {R : Value → Option (DataW Unit × List MemPlace)} {w w' : World} {b r n : Nat} {D : DataW Unit} {left : Lit → Bool} {cnt : Nat} {S : Nat → Prop}
theorem rgs_mod (h : w.ranges P k R b r n D left cnt) (hm : Mod S w w') (hb : ¬ S b) (hr : ¬ S r) : w'.ranges P k R b r n D left cnt := by
  obtain ⟨es, clock, since, seen, c0, h1, h2, h3, h4, h5, h6⟩ := h
  exact ⟨es, clock, since, seen, c0, hm.heap hb h1, h2, h3, h4, hm.heap hr h5, h6⟩
end
theorem key_inv {x : Int} {kl : Lit} (h : keyOf Tryd.prog 29 (.int .u32 x) = some kl) : ∃ s : Nat, x = s ∧ kl = kS s ∧ s ≤ 4294967295 := by
  obtain ⟨y, e1, e2, e3⟩ := Maps.keyOf_int_inv Tryd.underlying29 h
  injection e1 with _ e1
  subst e1
  have : 0 ≤ x ∧ x ≤ 4294967295 := by simp [Lit.wf, IntKind.min, IntKind.max, IntKind.signed, IntKind.bits] at e3; omega
  refine ⟨x.toNat, by omega, ?_, by omega⟩
  rw [e2]
  unfold kS
  rw [show ((x.toNat : Nat) : Int) = x by omega]
theorem same_kS (a b : Nat) : (kS a).sameKey (kS b) = decide (a = b) := by
  unfold kS
  simp [Lit.sameKey]
  omega
section
variable {w w' : World} {D : Nat → Prop} {p now tt : Nat} {ws : List Nat} {bm bb : Nat} {Ds : Nat → Nat → Prop} {Dm Db : DataW Unit} {M L : List Td} {Lss : List (List (List Nat))}
structure CpI (w wr : World) (L : List Td) (bm rb n : Nat) (Dm : DataW Unit) (left : Lit → Bool) (cnt : Nat) (p2 now : Nat) (D2 : Nat → Prop) (M2 : List Td) : Prop where
  rg : wr.ranges Tryd.prog 29 tdElem bm rb n Dm left cnt
  has : ∀ kl, left kl = true → Maps.has Dm kl = true
  mem : ∃ ws bm' bb' Ds Dm' Db' Lss, CasMem wr D2 p2 now ws bm' bb' Ds Dm' Db' M2 Lss ∧ PInv now M2 (fun _ => False) Lss
  sub : ∀ x ∈ M2, x ∈ L
  todo : ∀ x ∈ L, left (kS x.slot) = true ↔ x ∉ M2
  fresh : ∀ k, D2 k → w.heap.size ≤ k
  rb2 : ¬ D2 rb
  pure : Pure w wr
set_option maxHeartbeats 2000000 in
theorem CasAt.copy (h : CasAt w D p now L) : Calls Tryd.prog 14 #[lkP p] w fun e w' => ∃ p2 D2, e = .returned (lkP p2) ∧ CasAt w' D2 p2 now L ∧ Pure w w' ∧ ∀ k, D2 k → w.heap.size ≤ k := by
  obtain ⟨ws, bm, bb, Ds, Dm, Db, Lss, h1, h2, h3⟩ := h
  have HCk := Lib.hid (ccheck_ok h1.box (s := 0) (by omega))
  obtain ⟨c0, c9, c10, cf, cl⟩ := h1.box.cells
  have HNw := Lib.hid (fun W => cnew_ok W h1.box.now)
  have HC := Lib.hid h1; have HI := Lib.hid h2; have HS := Lib.hid h3
  clear h1 h2 h3
  go_enter Tryd.func14, Tryd.ntmps14
  go_upto_region 4 with (first
    | (go_at_call 46; refine Calls.mono HCk.out ?_; rintro e w' ⟨rfl, rfl⟩)
    | (go_at_call 11; refine Calls.mono (HNw.out _) ?_; rintro e w1 ⟨p2, D2, rfl, hc2, hp2, hf2⟩))
  have HC1 := Lib.hid (HC.out.pure hp2)
  obtain ⟨c0', c9', c10', cf', cl'⟩ := HC1.out.box.cells
  have HC2 := Lib.hid hc2; have HP2 := Lib.hid hp2; have HF2 := Lib.hid hf2
  clear hc2 hp2 hf2 c0 c9 c10 cf cl
  go_upto_region 5 with (at_range; refine wpList_range_own _ rfl _ 54 rfl 29 31 keyedS Tryd.underlying54 tdElem bm L.length Dm rfl HC1.out.what.own ?_; intro wg hrg hgr hsz; go_frame)
  have hpg : Pure w1 wg := Mod.of_grown hgr (fun i e _ => by cases e)
  have hr1 : ¬ D2 w1.heap.size := fun e => by have := HC2.out.lt e; omega
  have hI : CpI w wg L bm w1.heap.size L.length Dm (Maps.has Dm) (Maps.size Dm) p2 now D2 [] := by
    obtain ⟨ws2, bm2, bb2, Ds2, Dm2, Db2, Lss2, k1, k2, k3⟩ := HC2.out
    exact ⟨hrg, fun _ h => h, ⟨_, _, _, _, _, _, _, k1.pure hpg, k2⟩, (fun x hx => by cases hx), fun x hx => ⟨fun _ c => (by cases c), fun _ => HC1.out.what.has_mem hx⟩, HF2.out, hr1, HP2.out.trans hpg⟩
  have hszr : w.heap.size ≤ w1.heap.size := HP2.out.size
  have HI0 := Lib.hid hI
  clear hrg hgr hsz hpg hr1 hI c0' c9' c10' cf' cl' HC1 HC2 HF2 HP2 HNw
  generalize w1.heap.size = rb at *
  have hbm : bm < w.heap.size := HC.out.what.own.lt
  go_loopw [] (fun wr => ∃ left cnt D2 M2, CpI w wr L bm rb L.length Dm left cnt p2 now D2 M2) (fun wr => wr.rangeLeft bm rb)
  case atStart => exact ⟨_, _, _, _, HI0.out⟩
  case round =>
    obtain ⟨left, cnt, D2, M2, hI⟩ := hrel
    have HIr := Lib.hid hI
    clear hI
    go_wp2_with (at_next; refine wpList_next_ranges _ rfl _ rfl 29 keyedS tdElem (fun x : Int => Value.int .u32 x) tdV (fun key kl hkey => by obtain ⟨x, rfl, _⟩ := Maps.keyOf_int_inv Tryd.underlying29 hkey; exact ⟨x, rfl⟩) (fun v y hv => by obtain ⟨c, rfl, _⟩ := tdElem_inv hv; exact ⟨c, rfl⟩) bm rb L.length Dm left cnt rfl HIr.out.rg ?_ ?_)
    · intro hc0 hl0
      obtain ⟨ws2, bm2, bb2, Ds2, Dm2, Db2, Lss2, k1, k2⟩ := HIr.out.mem
      have hp : M2.Perm L := by
        rw [List.perm_ext_iff_of_nodup k2.ndM HI.out.ndM]
        intro x
        refine ⟨HIr.out.sub x, fun hx => ?_⟩
        apply Classical.byContradiction
        intro hn
        have := (HIr.out.todo x hx).2 hn
        rw [hl0] at this
        cases this
      have hfin : CasAt wr D2 p2 now L := ⟨_, _, _, _, _, _, _, k1.perm hp, k2.perm hp, HS.out⟩
      have HFin := Lib.hid hfin
      clear hc0 hl0 k1 k2 hp hfin
      go_wp2
      go_ret
      exact ⟨p2, D2, rfl, HFin.out, HIr.out.pure, HIr.out.fresh⟩
    · intro x c kl y1 y2 w3 cnt1 hkey hlk hv hat hrg1 hlt1 hg1 hs1 hen
      obtain ⟨s, rfl, rfl, hs32⟩ := key_inv hkey
      obtain ⟨z, hz, hzs⟩ := HC.out.what.has s (HIr.out.has _ hlk)
      have hcz : c = z := by
        have e1 := hat (.lit (.int .u32 0))
        rw [← hzs, HC.out.what.at_ z hz] at e1
        have e5 := tdElem_mk c
        rw [hv] at e5
        injection e5 with e5
        have e6 : y1 = tdD c := congrArg Prod.fst e5
        exact tdD_inj (e6.symm.trans e1.symm)
      subst hcz
      subst hzs
      have hm3 : Mod (fun k => k = rb) wr w3 := Mod.of_grown hg1 (fun i e _ => by cases e; rfl)
      have hn2 : c ∉ M2 := (HIr.out.todo c hz).1 hlk
      obtain ⟨ws2, bm2, bb2, Ds2, Dm2, Db2, Lss2, k1, k2⟩ := HIr.out.mem
      have k3 := k1.frame hm3 (fun k hk e => HIr.out.rb2 (e ▸ hk))
      obtain ⟨r1, r2, r3, r4⟩ := HI.out.rng c hz
      have r5 := HI.out.after c hz (fun c => c)
      obtain ⟨Ls, B, hL, hK⟩ := k2.get (lvl_spec HC.out.box.now (dl := c.dl) (by omega)).1 (bkt_lt (now := now) (dl := c.dl))
      have n1 : ∀ y ∈ M2, y.slot ≠ c.slot := fun y hy e => hn2 (by rw [← HI.out.slots y (HIr.out.sub y hy) c hz e]; exact hy)
      have n2 : ∀ y ∈ M2, y.birth ≠ c.birth := fun y hy e => hn2 (by rw [← HI.out.births y (HIr.out.sub y hy) c hz e]; exact hy)
      have hpu := fun (W : World) (hW : Pure w3 W) => cput_ok (k3.pure hW) (x := c) (M' := c :: M2) r1 (by omega) r4 (by omega) (by have := k2.count; unfold maxLen; omega) hL hK (k2.notL (fun y hy e => absurd e (n1 y hy)) hL) (.inl ⟨n1, n2, rfl⟩)
      have hinv := k2.put (x := c) (M' := c :: M2) (Q := fun _ => False) (.inl ⟨n1, n2, rfl⟩) r5 ⟨r1, r2, r3, r4⟩ (fun y hy e => absurd e (n1 y hy)) hL hK (fun s => ⟨fun c => c.elim, fun c => c.1.elim⟩)
      have hsz3 : w3.heap.size = wr.heap.size := hs1
      have hpw3 : Pure w w3 := HIr.out.pure.then hm3 (fun k hk e => by omega)
      unfold tdV at hpu hen
      have HPu := Lib.hid hpu; have HInv := Lib.hid hinv; have HZ := Lib.hid hz; have HN2 := Lib.hid hn2; have HSZ3 := Lib.hid hsz3; have HRG := Lib.hid hrg1; have HLT := Lib.hid hlt1; have HPW3 := Lib.hid hpw3
      clear hpu hinv hz hn2 hrg1 hlt1 k1 k2 k3 hL hK n1 n2 hkey hat hv hlk hg1 hs1 hm3 hpw3 hsz3
      have hal : Pure w3 (w3.alloc (.cells #[.int .u32 c.slot, .int .u64 c.dl, .int .u64 c.birth] 31)) := (Mod.refl _ w3).alloc _
      have h5 := heap_new (w := w3) (o := .cells #[.int .u32 c.slot, .int .u64 c.dl, .int .u64 c.birth] 31 (0, 0)) rfl
      have HAL := Lib.hid hal
      go_upto_region 7 with fail
      generalize w3.alloc (.cells #[.int .u32 c.slot, .int .u64 c.dl, .int .u64 c.birth] 31) = W4 at *
      obtain ⟨b5, hb5⟩ : ∃ b5, w3.heap.size = b5 := ⟨_, rfl⟩
      rw [hb5] at h5 ⊢
      have HB5 := Lib.hid hb5
      clear hb5 hal hen
      have h5_0 := cell_of_row _ _ 0 _ _ _ h5; have h5_1 := cell_of_row _ _ 1 _ _ _ h5; have h5_2 := cell_of_row _ _ 2 _ _ _ h5; have h5_f := (fun j => frozen_of_row _ _ j _ _ h5); have h5_l := lt_of_block h5; simp at h5_0 h5_1 h5_2; have H_h5 := Lib.hid h5; clear h5
      go_wp2_with (go_at_call 48; refine Calls.mono (HPu.out _ (by first | exact HAL.out | exact HAL.out.drew)) ?_; rintro e w5 ⟨rfl, ⟨D3, Ds3, Dm3, Db3, hC3, hg3⟩, hm3⟩)
      have hm5 : Mod D2 w3 w5 := (Mod.of_pure HAL.out).trans (by first | exact hm3 | exact Mod.of_drew hm3)
      have hg5 : ∀ k, D3 k → D2 k ∨ b5 ≤ k := fun k hk => by
        have e1 := HAL.out.size
        have e2 := HB5.out
        rcases hg3 k hk with e | e
        · exact .inl e
        · have e' : W4.heap.size ≤ k := e
          exact .inr (by omega)
      have hrb : rb < b5 := by have := HRG.out.lt; have := HB5.out; omega
      have hb5w : w.heap.size ≤ b5 := by have := HPW3.out.size; have := HB5.out; omega
      have hrg5 := rgs_mod HRG.out hm5 (fun e => by have := HIr.out.fresh _ e; omega) HIr.out.rb2
      have hI5 : CpI w w5 L bm rb L.length Dm (fun z => left z && !z.sameKey (kS c.slot)) cnt1 p2 now D3 (c :: M2) := ⟨hrg5, fun kl hk => HIr.out.has kl (by simp at hk; exact hk.1), ⟨_, _, _, _, _, _, _, hC3, HInv.out⟩, fun x hx => (by
          rcases List.mem_cons.1 hx with rfl | hx
          · exact HZ.out
          · exact HIr.out.sub x hx), fun x hx => (by
          rw [same_kS, List.mem_cons, not_or, ← HIr.out.todo x hx]
          simp
          exact ⟨fun k => ⟨fun e => k.2 (by rw [e]), k.1⟩, fun k => ⟨k.2, fun e => k.1 (HI.out.slots x hx c HZ.out e)⟩⟩), fun k hk => (by
          rcases hg5 k hk with e | e
          · exact HIr.out.fresh k e
          · omega), fun e => (by
          rcases hg5 rb e with e | e
          · exact HIr.out.rb2 e
          · omega), HPW3.out.then hm5 (fun k hk e => by have := HIr.out.fresh k e; omega)⟩
      have HI5 := Lib.hid hI5
      clear hm5 hg5 hrg5 hI5 hC3 hg3 hm3
      go_wp2
      go_roundw
      case rel => exact ⟨_, _, _, _, HI5.out⟩
      case measure => rw [HI5.out.rg.left_eq, HIr.out.rg.left_eq]; exact HLT.out
end
end Go.Proofs.YtlalpenfgkfkpaaDoor
