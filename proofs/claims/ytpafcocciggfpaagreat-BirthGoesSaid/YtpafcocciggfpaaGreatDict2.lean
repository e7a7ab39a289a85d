/- dict: plan, do, put. -/
import Derived.Test.YtpafcocciggfpaaGreatDict
namespace Go.Proofs.YtpafcocciggfpaaGreat
open Go.RowKit Go.Shelf
set_option maxRecDepth 100000
section
variable {w : World} {d q p : Nat} {sv : Value} {Dl : Nat → Prop} {seed : Nat} {same : Bool} {L : List (Option Ent)} {Gs : List Grp}

def planPost (w : World) (x : Nat × Bool) (e : Ending) (w' : World) : Prop :=
  e = .returned (.tuple #[.agg #[.int .i64 (x.1 : Nat), .bool x.2], .int .i64 0]) ∧ Pure w w'
set_option maxHeartbeats 1000000 in
theorem dplan_ok (h : DictMem w d q p sv Dl seed same L Gs) {x : Nat × Bool} (hx : planI Gs.length (usedN Gs) (tombN Gs) = some x) : Calls Tryz.prog 66 #[dPtr d] w (planPost w x) := by
  have hpow := h.ix.ok.pow
  have hle := used_tomb_le h.ix.ok.grp
  have HX := Lib.hid h.ix
  have HG := Lib.hid (fun W => gInsert_ok hpow hle W)
  rw [hx] at HG
  dsimp only [planV] at HG
  have hb := h.box
  have hp0 : Pure w (w.alloc (.cells #[.int .i64 0, .bool false] 131)) := (Mod.refl _ w).alloc _
  have h2 := heap_new (w := w) (o := .cells #[.int .i64 0, .bool false] 131 (0, 0)) rfl
  have hbb := hp0.heap (fun h => h) hb
  have HP := Lib.hid hp0
  replace HX := Lib.hid (HX.out.pure hp0)
  have HBX := Lib.hid hb
  clear h hx hpow hle hp0 hb
  obtain ⟨x1, x2⟩ := x
  dsimp only at HG
  go_enter Tryz.func66, Tryz.ntmps66
  go_upto_region 1 with fail
  generalize w.alloc (.cells #[.int .i64 0, .bool false] 131) = W1 at *
  obtain ⟨b, hbe⟩ : ∃ b, w.heap.size = b := ⟨_, rfl⟩
  rw [hbe] at h2 ⊢
  have HB := Lib.hid hbe
  clear hbe
  have hdb : d ≠ b := by have := lt_of_block HBX.out; have := HB.out; omega
  have hbb_0 := cell_of_row _ _ 0 _ _ _ hbb; have hbb_1 := cell_of_row _ _ 1 _ _ _ hbb; have hbb_2 := cell_of_row _ _ 2 _ _ _ hbb; have hbb_3 := cell_of_row _ _ 3 _ _ _ hbb; have hbb_f := (fun j => frozen_of_row _ _ j _ _ hbb); have hbb_l := lt_of_block hbb; simp at hbb_0 hbb_1 hbb_2 hbb_3; have H_hbb := Lib.hid hbb; clear hbb
  have h2_0 := cell_of_row _ _ 0 _ _ _ h2; have h2_1 := cell_of_row _ _ 1 _ _ _ h2; have h2_f := (fun j => frozen_of_row _ _ j _ _ h2); have h2_l := lt_of_block h2; simp at h2_0 h2_1; have H_h2 := Lib.hid h2; clear h2
  go_region_held3 (fun w' => w'.cell? ⟨d, 3, none⟩ = some (.pointer (some ⟨p, 0, none⟩)))
    (first | exact hbb_3 | exact hp1.cell (fun h => h) hbb_3 | exact (Mod.set2 b 0 1 _ _).cell (fun e => hdb e) (hp1.cell (fun h => h) hbb_3))
    (first
      | (go_at_call 76; refine Calls.mono (IGroups_ok (HX.out.pure (by (repeat' (first | (with_reducible exact Mod.refl _ _) | (with_reducible refine Mod.alloc ?_ _) | (with_reducible refine Mod.drew ?_) | (with_reducible refine Mod.drewN ?_ _) | (with_reducible refine Mod.setCell ?_ ?_ _) | (refine Mod.then ?_ (by with_reducible assumption) ?_))) <;> (all_goals (intros; first | (exfalso; assumption) | omega | (simp at *; done) | (simp at *; omega)))))) ?_; rintro e w1 ⟨rfl, rfl⟩)
      | (go_at_call 77; refine Calls.mono (ILen_ok (HX.out.pure (by (repeat' (first | (with_reducible exact Mod.refl _ _) | (with_reducible refine Mod.alloc ?_ _) | (with_reducible refine Mod.drew ?_) | (with_reducible refine Mod.drewN ?_ _) | (with_reducible refine Mod.setCell ?_ ?_ _) | (refine Mod.then ?_ (by with_reducible assumption) ?_))) <;> (all_goals (intros; first | (exfalso; assumption) | omega | (simp at *; done) | (simp at *; omega)))))) ?_; rintro e w1 ⟨rfl, rfl⟩)
      | (go_at_call 78; refine Calls.mono (ITombs_ok (HX.out.pure (by (repeat' (first | (with_reducible exact Mod.refl _ _) | (with_reducible refine Mod.alloc ?_ _) | (with_reducible refine Mod.drew ?_) | (with_reducible refine Mod.drewN ?_ _) | (with_reducible refine Mod.setCell ?_ ?_ _) | (refine Mod.then ?_ (by with_reducible assumption) ?_))) <;> (all_goals (intros; first | (exfalso; assumption) | omega | (simp at *; done) | (simp at *; omega)))))) ?_; rintro e w1 ⟨rfl, rfl⟩)
      | (go_at_call 128; refine Calls.mono (HG.out _) ?_; rintro e w1 ⟨rfl, hp1⟩; have k0 := hp1.cell (fun h => h) h2_0; have k1 := hp1.cell (fun h => h) h2_1; have kf : ∀ j, w1.frozen? ⟨b, j, none⟩ = false := (fun j => (hp1.cells.2 b j h2_l).trans (h2_f j)); have kl : b < w1.heap.size := hp1.lt h2_l))
  go_wp2
  obtain ⟨f1, y0, y1⟩ := gfin (v0 := .int .i64 x1) (v1 := .bool x2) ((Mod.of_drew hp1).heap (fun h => h) H_h2.out) (HP.out.trans (Mod.of_drew hp1)) (by have := HB.out; omega) rfl
  obtain ⟨Y, hY⟩ : ∃ Y, (w1.setCell ⟨b, 0, none⟩ (.int .i64 x1)).setCell ⟨b, 1, none⟩ (.bool x2) = Y := ⟨_, rfl⟩
  rw [hY] at f1 y0 y1 ⊢
  exact bodyPost_ret (v := .tuple #[.agg #[.int .i64 x1, .bool x2], .int .i64 0]) (by simp [results, Tryz.results66, go_sem, y0, y1]) rfl ⟨rfl, f1⟩

/-! ### do -/
theorem dsumOk (h : DictMem w d q p sv Dl seed same L Gs) : SumOk Tryz.prog 74 #[dPtr d] #[] (sumL seed same L) (fun _ => True) (fun W => Pure w W) w :=
  ⟨enters_of Tryz.func74 (by kernel_rfl) rfl, fun s W hs _ hJ => by
    have := (callsIn_wide (n := 0)).2 (dsum_ok (h.pure hJ) s hs)
    simpa using this, fun s => sumL_lt seed same L s, fun A B hJ hm => hJ.then hm (fun i hi e => by omega), Mod.refl _ _⟩
/-- The index is the same one, or a new one. -/
def SameIx (w : World) (p : Nat) (sv : Value) (p2 : Nat) (sv2 : Value) : Prop := (p2 = p ∧ sv2 = sv) ∨ (w.heap.size ≤ p2 ∧ ∀ k, sv2.ownBlock = some k → w.heap.size ≤ k)
def ddoPost (w : World) (d q p : Nat) (sv : Value) (Dl : Nat → Prop) (seed : Nat) (same : Bool) (L : List (Option Ent)) (Gs : List Grp) (x : Nat × Bool) (e : Ending) (w' : World) : Prop :=
  ∃ v p2 sv2, e = .returned v ∧ DictMem w' d q p2 sv2 Dl seed same L (doG (sumL seed same L) x Gs) ∧ Mod (fun k => k = d) w w' ∧ SameIx w p sv p2 sv2
theorem DictMem.reindex {w w1 : World} {p2 : Nat} {sv2 : Value} {Gs2 : List Grp} (h : DictMem w d q p sv Dl seed same L Gs) (hp : Pure w w1) (hx : IxRow w1 (fun k => k = p2 ∨ sv2.ownBlock = some k) p2 sv2 Gs2) {Y : World} (hY : w1.setCell ⟨d, 3, none⟩ (.pointer (some ⟨p2, 0, none⟩)) = Y) :
    DictMem Y d q p2 sv2 Dl seed same L Gs2 ∧ Mod (fun k => k = d) w Y := by
  subst hY
  have h1 := h.pure hp
  have hm : Mod (fun k => k = d) w1 (w1.setCell ⟨d, 3, none⟩ (.pointer (some ⟨p2, 0, none⟩))) := Mod.set1 _ _ _
  refine ⟨⟨?_, h1.log.frame hm (fun k hk e => by subst e; exact h1.nd hk) (fun k _ e cs fz e2 => by subst e; rw [h1.box] at e2; cases e2), hx.mod hm (fun k hk e => ?_), h.sd⟩, (Mod.of_pure hp).trans hm⟩
  · have := heap_set1 (j := 3) (v := .pointer (some ⟨p2, 0, none⟩)) h1.box
    simpa using this
  · subst e
    rcases hk with e | e
    · have h2 := hx.box; rw [← e, h1.box] at h2; cases h2
    · obtain ⟨cc, e2⟩ := owns_type hx.row e
      rw [h1.box] at e2; cases e2
set_option maxHeartbeats 1000000 in
theorem ddo_ok (h : DictMem w d q p sv Dl seed same L Gs) (x : Nat × Bool) (hx : x.2 = true → Pow x.1 ∧ usedN Gs ≤ 8 * x.1) : Calls Tryz.prog 79 #[dPtr d, .agg #[.int .i64 (x.1 : Nat), .bool x.2]] w (ddoPost w d q p sv Dl seed same L Gs x) := by
  obtain ⟨x1, x2⟩ := x
  have hp0 : Pure w (w.alloc (.cells #[.int .i64 x1, .bool x2] 131)) := (Mod.refl _ w).alloc _
  have h2 := heap_new (w := w) (o := .cells #[.int .i64 x1, .bool x2] 131 (0, 0)) rfl
  have HM := Lib.hid h
  cases x2 with
  | false =>
    have HP := Lib.hid hp0
    clear h hx hp0
    go_enter Tryz.func79, Tryz.ntmps79
    go_upto_region 1 with fail
    generalize w.alloc (.cells #[.int .i64 x1, .bool false] 131) = W1 at *
    generalize w.heap.size = b at *
    have h2_0 := cell_of_row _ _ 0 _ _ _ h2; have h2_1 := cell_of_row _ _ 1 _ _ _ h2; have h2_f := (fun j => frozen_of_row _ _ j _ _ h2); have h2_l := lt_of_block h2; simp at h2_0 h2_1; have H_h2 := Lib.hid h2; clear h2
    go_wp2
    refine bodyPost_ret (v := .tuple #[]) (by simp [results, Tryz.results79, go_sem]) rfl ?_
    exact ⟨_, p, sv, rfl, HM.out.pure HP.out, Mod.of_pure HP.out, .inl ⟨rfl, rfl⟩⟩
  | true =>
    obtain ⟨k1, k2⟩ := hx rfl
    have HR := Lib.hid (fun (W : World) (hW : Pure w W) => Rehash_ok (h.pure hW).ix x1 k1 k2 (dsumOk (h.pure hW)) (fun _ _ => trivial))
    have HP := Lib.hid hp0
    have hb := hp0.heap (fun h => h) h.box
    clear h hx hp0 k1 k2
    go_enter Tryz.func79, Tryz.ntmps79
    go_upto_region 1 with fail
    generalize hW1 : w.alloc (.cells #[.int .i64 x1, .bool true] 131) = W1 at *
    clear hW1
    obtain ⟨b, hbe⟩ : ∃ b, w.heap.size = b := ⟨_, rfl⟩
    rw [hbe] at h2 ⊢
    have HB := Lib.hid hbe
    clear hbe
    have hb_0 := cell_of_row _ _ 0 _ _ _ hb; have hb_1 := cell_of_row _ _ 1 _ _ _ hb; have hb_2 := cell_of_row _ _ 2 _ _ _ hb; have hb_3 := cell_of_row _ _ 3 _ _ _ hb; have hb_f := (fun j => frozen_of_row _ _ j _ _ hb); have hb_l := lt_of_block hb; simp at hb_0 hb_1 hb_2 hb_3; have H_hb := Lib.hid hb; clear hb
    have h2_0 := cell_of_row _ _ 0 _ _ _ h2; have h2_1 := cell_of_row _ _ 1 _ _ _ h2; have h2_f := (fun j => frozen_of_row _ _ j _ _ h2); have h2_l := lt_of_block h2; simp at h2_0 h2_1; have H_h2 := Lib.hid h2; clear h2
    go_upto_region 3 with fail
    go_region_held3 (fun w' => w'.cell? ⟨d, 3, none⟩ = some (.pointer (some ⟨p, 0, none⟩)) ∧ w'.cell? ⟨b, 0, none⟩ = some (.int .i64 x1))
      (first | exact ⟨hb_3, h2_0⟩ | exact ⟨hp1.cell (fun h => h) hb_3, hp1.cell (fun h => h) h2_0⟩)
      (first
        | (go_at_call 140; refine Calls.mono (HR.out _ (by have := HP.out; (repeat' (first | (with_reducible exact Mod.refl _ _) | (with_reducible refine Mod.alloc ?_ _) | (with_reducible refine Mod.drew ?_) | (with_reducible refine Mod.drewN ?_ _) | (with_reducible refine Mod.setCell ?_ ?_ _) | (refine Mod.then ?_ (by with_reducible assumption) ?_))) <;> (all_goals (intros; first | (exfalso; assumption) | omega | (simp at *; done) | (simp at *; omega))))) ?_; rintro e w1 ⟨p2, sv2, rfl, hix, hp1, hl2, hs2, _, _⟩; have k3 := hp1.cell (fun h => h) hb_3; have kf : ∀ j, w1.frozen? ⟨d, j, none⟩ = false := (fun j => (hp1.cells.2 d j hb_l).trans (hb_f j)); have kl : d < w1.heap.size := hp1.lt hb_l))
    go_wp2
    have hpw := HP.out.trans (Mod.of_drew hp1)
    obtain ⟨g1, g2⟩ := HM.out.reindex hpw hix rfl
    refine bodyPost_ret (v := .tuple #[]) (by simp [results, Tryz.results79, go_sem]) rfl ?_
    have hl : w.heap.size ≤ W1.heap.size := HP.out.size
    exact ⟨_, p2, sv2, rfl, g1, g2, .inr ⟨Nat.le_trans hl hl2, fun k hk => Nat.le_trans hl (hs2 k hk)⟩⟩

/-! ### put -/
def dputPost (w : World) (d q p : Nat) (sv : Value) (Dl : Nat → Prop) (seed : Nat) (same : Bool) (L : List (Option Ent)) (Gs2 : List Grp) (e : Ending) (w' : World) : Prop :=
  ∃ p2 sv2, e = .returned (.int .i64 0) ∧ DictMem w' d q p2 sv2 Dl seed same L Gs2 ∧ Mod (fun k => k = d ∨ k = p ∨ sv.ownBlock = some k) w w' ∧ SameIx w p sv p2 sv2
theorem dput_end {w w3 w4 w5 : World} {Gs1 Gs2 : List Grp} {p2 : Nat} {sv2 : Value} (h : DictMem w3 d q p2 sv2 Dl seed same L Gs1) (h4 : Pure w3 w4) (hx : IxRow w5 (fun k => k = p2 ∨ sv2.ownBlock = some k) p2 sv2 Gs2) (h5 : Mod (fun k => k = p2 ∨ sv2.ownBlock = some k) w4 w5)
    (hm : Mod (fun k => k = d) w w3) (hs : SameIx w p sv p2 sv2) : DictMem w5 d q p2 sv2 Dl seed same L Gs2 ∧ Mod (fun k => k = d ∨ k = p ∨ sv.ownBlock = some k) w w5 := by
  have h1 := h.pure h4
  refine ⟨⟨h5.heap (fun hk => ?_) h1.box, h1.log.frame h5 (fun k hk e => h1.nlp k hk e) (fun k _ e cs fz e2 => ?_), hx, h.sd⟩, ?_⟩
  · rcases hk with e | e
    · exact h1.npd e.symm
    · exact h1.nsd e
  · rcases e with rfl | e
    · rw [h1.ix.box] at e2; cases e2
    · obtain ⟨cc, e3⟩ := owns_type h1.ix.row e
      rw [e3] at e2; cases e2
  · have hm4 := hm.then h4 (fun _ _ h => h.elim)
    refine Mod.trans' hm4 h5 (fun i _ e => .inl e) (fun i hi e => ?_)
    rcases hs with ⟨rfl, rfl⟩ | ⟨g1, g2⟩
    · exact .inr e
    · rcases e with rfl | e
      · omega
      · have := g2 _ e; omega
set_option maxHeartbeats 1000000 in
theorem dput_ok (h : DictMem w d q p sv Dl seed same L Gs) {x : Nat × Bool} (hx : planI Gs.length (usedN Gs) (tombN Gs) = some x) (hp : Pow x.1) (hu : usedN Gs ≤ 8 * x.1) {s : Nat} (hs : s ≤ 4294967295) {Gs2 : List Grp}
    (hi : insM (doG (sumL seed same L) x Gs) (sumL seed same L s) s = some Gs2) : Calls Tryz.prog 68 #[dPtr d, .int .u32 s] w (dputPost w d q p sv Dl seed same L Gs2) := by
  have HPl := Lib.hid (dplan_ok h hx)
  have HDo := Lib.hid (fun (W : World) (hW : Pure w W) => ddo_ok (h.pure hW) x (fun _ => ⟨hp, hu⟩))
  have HH := Lib.hid h
  have HI := Lib.hid hi
  have hsl := sumL_lt seed same L s
  obtain ⟨hh, hhe⟩ : ∃ hh, sumL seed same L s = hh := ⟨_, rfl⟩
  have HS := Lib.hid (fun (W : World) (p2 : Nat) (sv2 : Value) (Gs1 : List Grp) (hW : DictMem W d q p2 sv2 Dl seed same L Gs1) => dsum_ok hW s hs)
  rw [hhe] at HI hsl HS
  have HHE := Lib.hid hhe
  obtain ⟨x1, x2⟩ := x
  clear h hx hp hu hi hhe
  unfold planPost at HPl
  dsimp only at HPl HDo HI
  go_enter Tryz.func68, Tryz.ntmps68
  go_upto_region 2 with (go_at_call 66; refine Calls.mono HPl.out ?_; rintro e w1 ⟨rfl, hp1⟩)
  have hpa : Pure w1 (w1.alloc (.cells #[.int .i64 x1, .bool x2] 131)) := (Mod.refl _ w1).alloc _
  have h5 := heap_new (w := w1) (o := .cells #[.int .i64 x1, .bool x2] 131 (0, 0)) rfl
  have HP := Lib.hid (hp1.trans hpa)
  clear hp1 hpa HPl
  generalize w1.alloc (.cells #[.int .i64 x1, .bool x2] 131) = W2 at *
  generalize w1.heap.size = b5 at *
  have h5_0 := cell_of_row _ _ 0 _ _ _ h5; have h5_1 := cell_of_row _ _ 1 _ _ _ h5; have h5_f := (fun j => frozen_of_row _ _ j _ _ h5); have h5_l := lt_of_block h5; simp at h5_0 h5_1; have H_h5 := Lib.hid h5; clear h5
  go_upto_region 5 with (go_at_call 79; refine Calls.mono (HDo.out _ HP.out) ?_; rintro e w3 ⟨v, p2, sv2, rfl, hm3, hm, hsx⟩)
  have hsx' : SameIx w p sv p2 sv2 := by
    have := HP.out.size
    rcases hsx with h | ⟨g1, g2⟩
    · exact .inl h
    · exact .inr ⟨by omega, fun k hk => by have := g2 k hk; omega⟩
  have hmw : Mod (fun k => k = d) w w3 := (Mod.of_pure HP.out).trans hm
  have HM3 := Lib.hid hm3
  have HMW := Lib.hid hmw; have HSX := Lib.hid hsx'
  have hb := hm3.box
  clear h5_0 h5_1 h5_f h5_l
  clear hm3 hm hsx hsx' hmw H_h5
  generalize hGd : doG (sumL seed same L) (x1, x2) Gs = Gs1 at *
  clear hGd
  have hb_0 := cell_of_row _ _ 0 _ _ _ hb; have hb_1 := cell_of_row _ _ 1 _ _ _ hb; have hb_2 := cell_of_row _ _ 2 _ _ _ hb; have hb_3 := cell_of_row _ _ 3 _ _ _ hb; have hb_f := (fun j => frozen_of_row _ _ j _ _ hb); have hb_l := lt_of_block hb; simp at hb_0 hb_1 hb_2 hb_3; have H_hb := Lib.hid hb; clear hb
  have HIN := Lib.hid (fun (W : World) (hW : Pure w3 W) => Insert_ok (HM3.out.ix.pure hW) hh s hsl hs)
  go_region_held3 (fun w' => w'.cell? ⟨d, 3, none⟩ = some (.pointer (some ⟨p2, 0, none⟩)))
    (first | exact hb_3 | exact hp1.cell (fun h => h) hb_3 | exact hm5.cell (fun e => e.elim (fun e => HM3.out.npd e.symm) (fun e => HM3.out.nsd e)) (hp1.cell (fun h => h) hb_3))
    (first
      | (go_at_call 74; refine Calls.mono (HS.out _ p2 sv2 Gs1 (HM3.out.pure (by (repeat' (first | (with_reducible exact Mod.refl _ _) | (with_reducible refine Mod.alloc ?_ _) | (with_reducible refine Mod.drew ?_) | (with_reducible refine Mod.drewN ?_ _) | (with_reducible refine Mod.setCell ?_ ?_ _) | (refine Mod.then ?_ (by with_reducible assumption) ?_))) <;> (all_goals (intros; first | (exfalso; assumption) | omega | (simp at *; done) | (simp at *; omega)))))) ?_; rintro e w4 ⟨rfl, hp1⟩)
      | (go_at_call 129; refine Calls.mono (HIN.out _ (by (repeat' (first | (with_reducible exact Mod.refl _ _) | (with_reducible refine Mod.alloc ?_ _) | (with_reducible refine Mod.drew ?_) | (with_reducible refine Mod.drewN ?_ _) | (with_reducible refine Mod.setCell ?_ ?_ _) | (refine Mod.then ?_ (by with_reducible assumption) ?_))) <;> (all_goals (intros; first | (exfalso; assumption) | omega | (simp at *; done) | (simp at *; omega))))) ?_; rintro e w5 hq; unfold insPost at hq; rw [HI.out] at hq; obtain ⟨rfl, hx5, hm5⟩ := hq))
  go_wp2
  go_ret
  obtain ⟨g1, g2⟩ := dput_end HM3.out (Mod.of_drew hp1) hx5 hm5 HMW.out HSX.out
  exact ⟨p2, sv2, rfl, g1, g2, HSX.out⟩
end
end Go.Proofs.YtpafcocciggfpaaGreat
