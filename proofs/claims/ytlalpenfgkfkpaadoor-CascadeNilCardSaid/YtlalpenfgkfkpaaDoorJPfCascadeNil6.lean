/- Lemmas and contracts of functions, strung together out of 2 texts. No condition. -/
import Derived.Test.YtlalpenfgkfkpaaDoorJPfCascadeNil5
import Derived.Test.YtlalpenfgkfkpaaDoorJPfCascadeNil4
/- links: Remove. Conditions: the field lies in memory, the node is in a list. -/
namespace Go.Proofs.YtlalpenfgkfkpaaDoor
open Go.RowKit
set_option maxRecDepth 100000
theorem fld_cut2 {w : World} {gF : Nat} {F : List Nd} {T : TypeId} {n a b : Nat} (ha : (nd F n).pv = a) (hb : (nd F n).nx = b) (h : w.heap[gF]? = some (.cells (fldC F).toArray T (0, 0))) (haF : a < F.length) (hbF : b < F.length) :
    ((w.setCell ⟨gF, a * 3 + 1, none⟩ (.int .u32 b)).setCell ⟨gF, b * 3, none⟩ (.int .u32 a)).heap[gF]? = some (.cells (fldC ((F.set a ⟨(nd F a).pv, b, (nd F a).ow⟩).set b ⟨a, (nd (F.set a ⟨(nd F a).pv, b, (nd F a).ow⟩) b).nx, (nd (F.set a ⟨(nd F a).pv, b, (nd F a).ow⟩) b).ow⟩)).toArray T (0, 0)) := by
  have h1 := fld_set h (i := a) (j := 1) (u := .int .u32 b) (m := ⟨(nd F a).pv, b, (nd F a).ow⟩) haF (by decide) rfl
  exact fld_set h1 (i := b) (j := 0) (u := .int .u32 a) (by simpa using hbF) (by decide) rfl
def SCut (p b6 : Nat) (v0 v1 u0 u1 : Value) (w' : World) : Prop := w'.cell? ⟨p, 0, none⟩ = some v0 ∧ w'.cell? ⟨p, 2, none⟩ = some v1 ∧ w'.cell? ⟨b6, 0, none⟩ = some u0 ∧ w'.cell? ⟨b6, 1, none⟩ = some u1
theorem SCut.set {p b6 g i : Nat} {v0 v1 u0 u1 v : Value} {X : World} (h : SCut p b6 v0 v1 u0 u1 X) (h1 : g ≠ p) (h2 : g ≠ b6) : SCut p b6 v0 v1 u0 u1 (X.setCell ⟨g, i, none⟩ v) :=
  ⟨cell_set h.1 (.inl h1), cell_set h.2.1 (.inl h1), cell_set h.2.2.1 (.inl h2), cell_set h.2.2.2 (.inl h2)⟩
section
variable {w w' : World} {p gF gL cF cL N : Nat} {Ls : List (List Nat)} {F : List Nd} {D : Nat → Prop}
set_option maxHeartbeats 1000000 in
theorem lrem_mem (h : LkMem w p gF gL cF cL N Ls F) {n k : Nat} {l : List Nat} (hl : Ls[k]? = some l) (hm : n ∈ l) :
    Calls Tryd.prog 85 #[lkP p, .int .u32 n] w fun e w' => e = .returned (.int .i64 0) ∧ LkMem w' p gF gL cF cL N (Ls.set k (l.erase n)) (cutF F n) ∧ Mod (fun b => b = gF ∨ b = gL) w w' := by
  obtain ⟨a1, hn, how, haF, hbF, han, hbn⟩ := h.ok.cut hl hm
  have hk : k < Ls.length := (List.getElem?_eq_some_iff.1 hl).1
  have hk4 : k < 4096 := by have := h.hm; omega
  have hnF : n < F.length := by rw [h.ok.len]; omega
  have h32 : n ≤ 4294967295 := by have := h.nm; omega
  have HI := lin_ok h h32
  have e0 : inE N F n = 0 := by unfold inE; rw [if_pos hn, if_neg (by omega)]
  rw [e0] at HI
  have HI := Lib.hid HI
  have hll : l.length ≤ N := h.ok.short hl
  have hl0 : 0 < l.length := List.length_pos_of_mem hm
  have hnm := h.nm
  have hend : ∀ (w' : World), w'.heap[gF]? = some (.cells (fldC (cutF F n)).toArray 156 (0, 0)) → w'.heap[gL]? = some (.cells ((lensC Ls).set k (.int .i64 ((l.length - 1 : Nat) : Int))).toArray 3 (0, 0)) → Mod (fun b => b = gF ∨ b = gL) w w' → LkMem w' p gF gL cF cL N (Ls.set k (l.erase n)) (cutF F n) := fun w' g1 g2 g3 => by
    obtain ⟨n1, n2, n3⟩ := h.ne
    refine ⟨?_, g1, ?_, a1, h.n1, h.nm, by rw [List.length_set]; exact h.hm⟩
    · rw [cutF_length, List.length_set]; exact g3.heap (fun e => by rcases e with e | e; exact n1 e; exact n2 e) h.box
    · rw [← lensC_set, List.length_erase_of_mem hm]; exact g2
  have HE := Lib.hid hend
  have hFb : F.length ≤ 4198400 := by rw [h.ok.len]; have := h.hm; omega
  obtain ⟨c0, c1, c2⟩ := h.at_ hnF
  rw [how] at c2
  obtain ⟨ne1, ne2, ne3⟩ := h.ne
  have HFL := Lib.hid h.fld; have HLN := Lib.hid h.len
  have HNX := Lib.hid (fun (X : World) (hX : X.heap[gL]? = some (.cells (lensC Ls).toArray 3 (0, 0))) => (show X.cell? ⟨gL, k, none⟩ = some (.int .i64 (l.length : Nat)) by rw [cell_of_row X gL k _ _ (0, 0) hX, List.getElem?_toArray]; exact lensC_get hl))
  have hbx := h.box
  have hp6 : p < w.heap.size := lt_of_block hbx
  have hg6 : gF < w.heap.size := lt_of_block h.fld
  have hL6 : gL < w.heap.size := lt_of_block h.len
  obtain ⟨FL, hFL⟩ : ∃ FL, F.length = FL := ⟨_, rfl⟩
  obtain ⟨a, ha⟩ : ∃ a, (nd F n).pv = a := ⟨_, rfl⟩
  obtain ⟨b, hb⟩ : ∃ b, (nd F n).nx = b := ⟨_, rfl⟩
  rw [ha] at haF han c0
  rw [hb] at hbF hbn c1
  rw [hFL] at hbx hFb hnF haF hbF
  have HBX := Lib.hid hbx
  have HA := Lib.hid ha; have HB := Lib.hid hb; have HFLe := Lib.hid hFL; have HOW := Lib.hid how
  clear h hend hFL a1 hl hm ha hb how e0 hbx
  have hbx := HBX.out
  obtain ⟨kk, hkk⟩ : ∃ kk, k + 1 = kk := ⟨_, rfl⟩
  rw [hkk] at c2 HOW
  have wk : IntKind.u32.wrap ((kk : Int) - 1) = (k : Int) := by rw [← hkk, show ((k + 1 : Nat) : Int) - 1 = (k : Int) by omega]; exact u32_of k (by omega)
  have dn : decide (n < FL) = true := decide_eq_true hnF
  have da : decide (a < FL) = true := decide_eq_true haF
  have db : decide (b < FL) = true := decide_eq_true hbF
  clear hkk
  have hbx_0 := cell_of_row _ _ 0 _ _ _ hbx; have hbx_1 := cell_of_row _ _ 1 _ _ _ hbx; have hbx_2 := cell_of_row _ _ 2 _ _ _ hbx; have hbx_f := (fun j => frozen_of_row _ _ j _ _ hbx); have hbx_l := lt_of_block hbx; simp at hbx_0 hbx_1 hbx_2; have H_hbx := Lib.hid hbx; clear hbx
  go_enter Tryd.func85, Tryd.ntmps85
  go_upto_region 5 with (go_at_call 107; refine Calls.mono HI.out ?_; rintro e w' ⟨rfl, rfl⟩)
  have hal : Pure w (w.alloc (.cells #[.int .u32 a, .int .u32 b, .int .u32 kk] 156)) := (Mod.refl _ w).alloc _
  have h6 := heap_new (w := w) (o := .cells #[.int .u32 a, .int .u32 b, .int .u32 kk] 156 (0, 0)) rfl
  have hbx0 := hal.heap (fun h => h) HBX.out
  have hf0 := hal.heap (fun h => h) HFL.out
  have hl0' := hal.heap (fun h => h) HLN.out
  have n6 : gF ≠ w.heap.size := by omega
  have n6L : gL ≠ w.heap.size := by omega
  have HM0 := Lib.hid hal
  clear hbx_0 hbx_1 hbx_2 hbx_f hbx_l
  clear H_hbx c0 c1 c2 hal hp6 hg6 hL6
  generalize w.alloc (.cells #[.int .u32 a, .int .u32 b, .int .u32 kk] 156) = X0 at *
  generalize w.heap.size = b6 at *
  have HF0 := Lib.hid hf0; have HL0 := Lib.hid hl0'; have HBX0 := Lib.hid hbx0; have H60 := Lib.hid h6
  obtain ⟨r0, r1, r2⟩ := fldC_at hf0 (i := a) (by rw [HFLe.out]; exact haF)
  obtain ⟨s0, s1, s2⟩ := fldC_at hf0 (i := b) (by rw [HFLe.out]; exact hbF)
  have g0 := frozen_of_row X0 gF (a * 3 + 1) _ _ hf0
  have g1 := frozen_of_row X0 gF (b * 3) _ _ hf0
  have hX : gF < X0.heap.size := lt_of_block hf0
  clear hf0 hl0'
  have hbx0_0 := cell_of_row _ _ 0 _ _ _ hbx0; have hbx0_1 := cell_of_row _ _ 1 _ _ _ hbx0; have hbx0_2 := cell_of_row _ _ 2 _ _ _ hbx0; have hbx0_f := (fun j => frozen_of_row _ _ j _ _ hbx0); have hbx0_l := lt_of_block hbx0; simp at hbx0_0 hbx0_1 hbx0_2; have H_hbx0 := Lib.hid hbx0; clear hbx0
  have h6_0 := cell_of_row _ _ 0 _ _ _ h6; have h6_1 := cell_of_row _ _ 1 _ _ _ h6; have h6_2 := cell_of_row _ _ 2 _ _ _ h6; have h6_f := (fun j => frozen_of_row _ _ j _ _ h6); have h6_l := lt_of_block h6; simp at h6_0 h6_1 h6_2; have H_h6 := Lib.hid h6; clear h6
  have HS : Hid (SCut p b6 (.slice (some ⟨gF, 0, none⟩) FL cF) (.slice (some ⟨gL, 0, none⟩) Ls.length cL) (.int .u32 a) (.int .u32 b) X0) := Lib.hid ⟨hbx0_0, hbx0_2, h6_0, h6_1⟩
  go_upto_region 5 with fail
  go_region_held3 (fun w' => w'.cell? ⟨p, 0, none⟩ = some (.slice (some ⟨gF, 0, none⟩) FL cF) ∧ w'.cell? ⟨p, 2, none⟩ = some (.slice (some ⟨gL, 0, none⟩) Ls.length cL) ∧ w'.cell? ⟨b6, 0, none⟩ = some (.int .u32 a) ∧ w'.cell? ⟨b6, 1, none⟩ = some (.int .u32 b))
    (first | exact HS.out | exact HS.out.set ne1.symm n6 | exact (HS.out.set ne1.symm n6).set ne1.symm n6) (fail)
  have hm2 : Mod (fun b => b = gF) X0 ((X0.setCell ⟨gF, a * 3 + 1, none⟩ (.int .u32 b)).setCell ⟨gF, b * 3, none⟩ (.int .u32 a)).drew :=
    (((Mod.refl (fun b => b = gF) X0).setCell (p := ⟨gF, a * 3 + 1, none⟩) (fun _ => rfl) _).setCell (p := ⟨gF, b * 3, none⟩) (fun _ => rfl) _).drew
  have hf2 : ((X0.setCell ⟨gF, a * 3 + 1, none⟩ (.int .u32 b)).setCell ⟨gF, b * 3, none⟩ (.int .u32 a)).drew.heap[gF]? = _ := fld_cut2 HA.out HB.out HF0.out (by rw [HFLe.out]; exact haF) (by rw [HFLe.out]; exact hbF)
  generalize ((X0.setCell ⟨gF, a * 3 + 1, none⟩ (.int .u32 b)).setCell ⟨gF, b * 3, none⟩ (.int .u32 a)).drew = X2 at hm2 hf2 ⊢
  have hbx2 := hm2.heap (fun e => ne1 e) HBX0.out
  have hln2 := hm2.heap (fun e => ne3 e.symm) HL0.out
  have h62 := hm2.heap (fun e => n6 e.symm) H60.out
  have hl9 := HNX.out _ hln2
  clear hbx0_0 hbx0_1 hbx0_2 hbx0_f hbx0_l
  clear h6_0 h6_1 h6_2 h6_f h6_l
  clear H_hbx0 H_h6 r0 r1 r2 s0 s1 s2 g0 g1 hX HS
  have g0 := frozen_of_row X2 gL k _ _ hln2
  have HM := Lib.hid ((HM0.out.mono (fun _ _ h => h.elim)).trans (hm2.mono (fun _ _ h => Or.inl h)) : Mod (fun b => b = gF ∨ b = gL) w X2)
  have HF2 := Lib.hid hf2; have HL2 := Lib.hid hln2
  have hX2 : gL < X2.heap.size := lt_of_block hln2
  have hX3 : gF < X2.heap.size := lt_of_block hf2
  clear hm2 hf2 hln2
  have dk : decide (k < Ls.length) = true := decide_eq_true hk
  have wl : IntKind.i64.wrap ((l.length : Int) - 1) = (l.length : Int) - 1 := IntWalk.i64_in _ (by omega)
  have hbx2_0 := cell_of_row _ _ 0 _ _ _ hbx2; have hbx2_1 := cell_of_row _ _ 1 _ _ _ hbx2; have hbx2_2 := cell_of_row _ _ 2 _ _ _ hbx2; have hbx2_f := (fun j => frozen_of_row _ _ j _ _ hbx2); have hbx2_l := lt_of_block hbx2; simp at hbx2_0 hbx2_1 hbx2_2; have H_hbx2 := Lib.hid hbx2; clear hbx2
  have h62_0 := cell_of_row _ _ 0 _ _ _ h62; have h62_1 := cell_of_row _ _ 1 _ _ _ h62; have h62_2 := cell_of_row _ _ 2 _ _ _ h62; have h62_f := (fun j => frozen_of_row _ _ j _ _ h62); have h62_l := lt_of_block h62; simp at h62_0 h62_1 h62_2; have H_h62 := Lib.hid h62; clear h62
  go_upto_region 6 with fail
  go_still_tail 11, (by kernel_rfl)
  go_upto_region 7 with fail
  have e1 : (X2.setCell ⟨gL, k, none⟩ (.int .i64 ((l.length : Int) - 1))).drew.heap[gF]? = _ := heap_set_other HF2.out ne3
  have e2 : (X2.setCell ⟨gL, k, none⟩ (.int .i64 ((l.length : Int) - 1))).drew.heap[gL]? = _ := heap_setCell_same X2 gL k _ _ (.int .i64 ((l.length : Int) - 1)) HL2.out
  rw [List.setIfInBounds_toArray, show ((l.length : Int) - 1) = ((l.length - 1 : Nat) : Int) by omega] at e2
  rw [show ((l.length : Int) - 1) = ((l.length - 1 : Nat) : Int) by omega] at e1
  have e3 := (HM.out.setCell (p := ⟨gL, k, none⟩) (fun _ => .inr rfl) (.int .i64 ((l.length - 1 : Nat) : Int))).drew
  have e4 : (X2.setCell ⟨gL, k, none⟩ (.int .i64 ((l.length - 1 : Nat) : Int))).drew.heap[p]? = _ := heap_set_other H_hbx2.out ne2
  rw [show ((l.length : Int) - 1) = ((l.length - 1 : Nat) : Int) by omega]
  clear hbx2_0 hbx2_1 hbx2_2 hbx2_f hbx2_l
  clear h62_0 h62_1 h62_2 h62_f h62_l
  clear H_hbx2 H_h62 wl dk hl9 g0 hX2 hX3
  generalize (X2.setCell ⟨gL, k, none⟩ (.int .i64 ((l.length - 1 : Nat) : Int))).drew = X3 at e1 e2 e3 e4 ⊢
  obtain ⟨q0, q1, q2⟩ := fldC_at e1 (i := n) (by simp; rw [HFLe.out]; exact hnF)
  have g0 := frozen_of_row X3 gF (n * 3) _ _ e1
  have g1 := frozen_of_row X3 gF (n * 3 + 1) _ _ e1
  have g2 := frozen_of_row X3 gF (n * 3 + 2) _ _ e1
  have hX3 : gF < X3.heap.size := lt_of_block e1
  have HE1 := Lib.hid e1; have HE2 := Lib.hid e2; have HE3 := Lib.hid e3
  have hfin := fld_put e1 (i := n) (by simp; rw [HFLe.out]; exact hnF) 0 0 0
  have HFIN := Lib.hid hfin
  clear e1 e2 e3 hfin
  have e4_0 := cell_of_row _ _ 0 _ _ _ e4; have e4_1 := cell_of_row _ _ 1 _ _ _ e4; have e4_2 := cell_of_row _ _ 2 _ _ _ e4; have e4_f := (fun j => frozen_of_row _ _ j _ _ e4); have e4_l := lt_of_block e4; simp at e4_0 e4_1 e4_2; have H_e4 := Lib.hid e4; clear e4
  go_wp2
  have r1 := HFIN.out
  have r2 := heap_set_other (v := .int .u32 0) (heap_set_other (v := .int .u32 0) (heap_set_other (a := ⟨gF, n * 3, none⟩) (v := .int .u32 0) HE2.out (fun e => ne3 e.symm)) (a := ⟨gF, n * 3 + 1, none⟩) (fun e => ne3 e.symm)) (a := ⟨gF, n * 3 + 2, none⟩) (fun e => ne3 e.symm)
  have r3 := ((HE3.out.setCell (p := ⟨gF, n * 3, none⟩) (fun _ => .inl rfl) (.int .u32 0)).setCell (p := ⟨gF, n * 3 + 1, none⟩) (fun _ => .inl rfl) (.int .u32 0)).setCell (p := ⟨gF, n * 3 + 2, none⟩) (fun _ => .inl rfl) (.int .u32 0)
  go_ret
  refine ⟨rfl, HE.out _ ?_ r2 r3, r3⟩
  unfold cutF
  rw [HA.out, HB.out]
  exact r1
/-- A node of list k is taken out. -/
theorem lrem_ok (h : LkAt w D p N Ls) {n k : Nat} {l : List Nat} (hl : Ls[k]? = some l) (hm : n ∈ l) :
    Calls Tryd.prog 85 #[lkP p, .int .u32 n] w fun e w' => e = .returned (.int .i64 0) ∧ LkAt w' D p N (Ls.set k (l.erase n)) ∧ Mod D w w' := by
  obtain ⟨gF, gL, cF, cL, F, h1, h2⟩ := h
  refine (lrem_mem h1 hl hm).mono ?_
  rintro e w' ⟨he, q1, q2⟩
  exact ⟨he, ⟨gF, gL, cF, cL, _, q1, h2⟩, q2.mono (fun k _ hk => (h2 k).2 (.inr hk))⟩
end
end Go.Proofs.YtlalpenfgkfkpaaDoor

/- wheel: Put, Bucket, Remove. Conditions: the level lies in memory. -/
namespace Go.Proofs.YtlalpenfgkfkpaaDoor
open Go.RowKit
set_option maxRecDepth 100000
section
variable {w w' : World} {D : Nat → Prop} {p : Nat} {Ls : List (List Nat)}
def grewD (D D' : Nat → Prop) (w : World) : Prop := ∀ k, D' k → D k ∨ w.heap.size ≤ k
theorem grewD.refl (D : Nat → Prop) (w : World) : grewD D D w := fun _ h => .inl h
set_option maxHeartbeats 1000000 in
theorem wput_ok (h : WhAt w D p Ls) {s b : Nat} {l : List Nat} (hs : s < 4194304) (hl : Ls[b]? = some l) (hf : ¬ inL Ls s) :
    Calls Tryd.prog 77 #[lkP p, .int .u32 s, .int .i64 b] w fun e w' => e = .returned (.int .i64 0) ∧ (∃ D', WhAt w' D' p (Ls.set b (l ++ [s])) ∧ grewD D D' w) ∧ Mod D w w' := by
  have hb : b < 256 := by have := (List.getElem?_eq_some_iff.1 hl).1; rw [h.len] at this; exact this
  have HCk := Lib.hid (wcheck_ok h hs (b := (b : Int)) (by omega) (by omega))
  have HW := Lib.hid h
  obtain ⟨q, many, N, Dl, h1, h2, h3, h4⟩ := h
  have HRo := Lib.hid (wroom_ok h1 h2 h3 hs)
  have HB := Lib.hid h1; have HDD := Lib.hid h4; have HL := Lib.hid hl; have HF := Lib.hid hf; have H3 := Lib.hid h3
  have HNB := Lib.hid (box_not h1 h2)
  have hpq : p ≠ q := fun e => box_not h1 h2 (e ▸ h2.self)
  have hpl : p < w.heap.size := lt_of_block h1
  clear h1 h2 h3 h4 hl hf
  have b0 : (0 : Int) ≤ (b : Int) := by omega
  go_enter Tryd.func77, Tryd.ntmps77
  go_upto_region 5 with (first
    | (go_at_call 88; refine Calls.mono HCk.out ?_; rintro e w' ⟨rfl, rfl⟩)
    | (go_at_call 94; refine Calls.mono HRo.out ?_; rintro e w1 ⟨rfl, N', Dl', hl1, hsN, hm1, hg1⟩))
  have hbx1 := hm1.heap HNB.out HB.out
  have hnb1 := box_not hbx1 hl1
  have HBk := Lib.hid (lback_ok hl1 hsN HL.out HF.out)
  have HM1 := Lib.hid hm1; have HG1 := Lib.hid hg1; have HBX1 := Lib.hid hbx1; have HNB1 := Lib.hid hnb1
  obtain ⟨c0, c5, _, _⟩ := wh_cells hbx1
  clear hl1 hm1 hg1 hbx1 hnb1 c5
  go_upto_region 8 with (go_at_call 95; refine Calls.mono HBk.out ?_; rintro e w2 ⟨rfl, hl2, hm2⟩)
  have hbx2 := hm2.heap HNB1.out HBX1.out
  have HSe := Lib.hid (mset_ok hbx2 hb)
  have HL2 := Lib.hid hl2; have HM2 := Lib.hid hm2
  clear hl2 hm2 hbx2 c0
  go_upto_region 9 with (go_at_call 96; refine Calls.mono HSe.out ?_; rintro e w3 ⟨rfl, hbx3, hm3⟩)
  obtain ⟨c0, c5, g5, hlt3⟩ := wh_cells hbx3
  have g55 := g5 5
  have HBX3 := Lib.hid hbx3; have HM3 := Lib.hid hm3
  clear hbx3 hm3 g5
  obtain ⟨m2, hm2⟩ : ∃ m2, IntKind.i64.wrap (many + 1) = m2 := ⟨_, rfl⟩
  have hend := wh_many HBX3.out m2
  have hmd := (Mod.refl (fun k => k = p) w3).setCell (p := ⟨p, 5, none⟩) (fun _ => rfl) (.int .i64 m2)
  have HEnd := Lib.hid hend; have HMd := Lib.hid hmd
  clear hend hmd
  go_wp2
  go_ret
  have hne : neB (Ls.set b (l ++ [s])) = setB (neB Ls) b true := by
    rw [neB_set (by rw [H3.out]; exact hb)]
    congr 1
    simp
  refine ⟨rfl, ⟨fun k => k = p ∨ Dl' k, ⟨q, m2, N', Dl', ?_, (HL2.out.frame HM3.out (fun k hk e => HNB1.out (e ▸ hk))).frame HMd.out (fun k hk e => HNB1.out (e ▸ hk)), by rw [List.length_set]; exact H3.out, fun k => Iff.rfl⟩, fun k hk => ?_⟩, ?_⟩
  · rw [hne]; exact HEnd.out
  · rcases hk with rfl | hk
    · exact .inl ((HDD.out k).2 (.inl rfl))
    · rcases HG1.out k hk with e | e
      · exact .inl ((HDD.out k).2 (.inr e))
      · exact .inr e
  · refine (HM1.out.mono (fun k _ hk => (HDD.out k).2 (.inr hk))).then ((HM2.out.mono (fun k _ hk => Or.inr hk) : Mod (fun k => k = p ∨ Dl' k) w1 w2).trans ((HM3.out.trans HMd.out).mono (fun k _ hk => Or.inl hk))) (fun k hk e => ?_)
    rcases e with rfl | e
    · exact (HDD.out k).2 (.inl rfl)
    · rcases HG1.out k e with e2 | e2
      · exact (HDD.out k).2 (.inr e2)
      · omega
/-- What Bucket says: the bucket of a slot that is there. -/
theorem wbucket_ok (h : WhAt w D p Ls) {s : Nat} (hs : s < 4194304) {b : Nat} {l : List Nat} (hl : Ls[b]? = some l) (hm : s ∈ l) :
    Calls Tryd.prog 84 #[lkP p, .int .u32 s] w fun e w' => e = .returned (.tuple #[.int .i64 b, .int .i64 0]) ∧ w = w' := by
  have HCk := Lib.hid (wcheck_ok h hs (b := 0) (by omega) (by omega))
  obtain ⟨q, many, N, Dl, h1, h2, h3, h4⟩ := h
  have HOf : Hid (Calls Tryd.prog 106 #[lkP q, .int .u32 s] w fun e w' => e = .returned (.tuple #[.int .i64 b, .int .i64 0]) ∧ w = w') := Lib.hid (by
    refine (lof_ok h2 (n := s) (by omega)).mono ?_
    rintro e w' ⟨hp, rfl⟩
    refine ⟨?_, rfl⟩
    rcases hp with ⟨k, l', e1, e2, rfl⟩ | ⟨hn, _⟩
    · obtain ⟨gF, gL, cF, cL, F, m1, m2⟩ := h2
      have := (m1.ok.own k l' e1 s e2).2
      have h9 := (m1.ok.own b l hl s hm).2
      rw [show k = b by omega]
    · exact absurd ⟨b, l, hl, hm⟩ hn)
  obtain ⟨c0, _, _, _⟩ := wh_cells h1
  clear h1 h2 h3 h4 hl hm
  go_enter Tryd.func84, Tryd.ntmps84
  go_wp2_with (first
    | (go_at_call 88; refine Calls.mono HCk.out ?_; rintro e w' ⟨rfl, rfl⟩)
    | (go_at_call 106; refine Calls.mono HOf.out ?_; rintro e w' ⟨rfl, rfl⟩))
  go_ret2
  exact ⟨rfl, rfl⟩
set_option maxHeartbeats 1000000 in
theorem wrem_ok (h : WhAt w D p Ls) {s b : Nat} {l : List Nat} (hs : s < 4194304) (hl : Ls[b]? = some l) (hm : s ∈ l) :
    Calls Tryd.prog 62 #[lkP p, .int .u32 s] w fun e w' => e = .returned (.tuple #[.int .i64 b, .int .i64 0]) ∧ WhAt w' D p (Ls.set b (l.erase s)) ∧ Mod D w w' := by
  have hb : b < 256 := by have := (List.getElem?_eq_some_iff.1 hl).1; rw [h.len] at this; exact this
  have HBu := Lib.hid (wbucket_ok h hs hl hm)
  obtain ⟨q, many, N, Dl, h1, h2, h3, h4⟩ := h
  have HRe := Lib.hid (lrem_ok h2 hl hm)
  have HNB := Lib.hid (box_not h1 h2)
  have HB := Lib.hid h1; have HDD := Lib.hid h4; have H3 := Lib.hid h3
  have HNE0 : Hid (neB Ls b = true) := Lib.hid (by unfold neB; rw [hl]; cases l with | nil => cases hm | cons x l => rfl)
  have hbl : b < Ls.length := by rw [h3]; exact hb
  have hl9 : (Ls.set b (l.erase s))[b]? = some (l.erase s) := List.getElem?_set_self hbl
  have HL9 := Lib.hid hl9
  obtain ⟨c0, c5, _, _⟩ := wh_cells h1
  clear h1 h2 h3 h4 hl hm hl9
  have b0 : (0 : Int) ≤ (b : Int) := by omega
  go_enter Tryd.func62, Tryd.ntmps62
  go_upto_region 5 with (first
    | (go_at_call 84; refine Calls.mono HBu.out ?_; rintro e w' ⟨rfl, rfl⟩)
    | (go_at_call 85; refine Calls.mono HRe.out ?_; rintro e w1 ⟨rfl, hl1, hm1⟩))
  have hbx1 := hm1.heap HNB.out HB.out
  obtain ⟨m2, hmm⟩ : ∃ m2, IntKind.i64.wrap (many - 1) = m2 := ⟨_, rfl⟩
  have hend := wh_many hbx1 m2
  have hmd := (Mod.refl (fun k => k = p) w1).setCell (p := ⟨p, 5, none⟩) (fun _ => rfl) (.int .i64 m2)
  have hl2 := hl1.frame hmd (fun k hk e => HNB.out (e ▸ hk))
  have hmt : Mod (fun k => k = p ∨ Dl k) w (w1.setCell ⟨p, 5, none⟩ (.int .i64 m2)) := (hm1.mono (fun _ _ h => Or.inr h)).trans (hmd.mono (fun _ _ h => Or.inl h))
  have HLe := Lib.hid (fun W (hW : w1.setCell ⟨p, 5, none⟩ (.int .i64 m2) = W) => (hW ▸ llen_ok hl2 HL9.out : Calls Tryd.prog 86 #[lkP q, .int .i64 b] W fun e w' => e = .returned (.int .i64 (l.erase s).length) ∧ W = w'))
  obtain ⟨d0, d5, g5, hlt1⟩ := wh_cells hbx1
  have g55 := g5 5
  have HL2 := Lib.hid hl2; have HMt := Lib.hid hmt; have HEnd := Lib.hid hend
  clear hl1 hm1 hl2 hmt hend hmd g5 hbx1 c0 c5
  go_upto_region 6 with fail
  generalize hW3 : w1.setCell ⟨p, 5, none⟩ (.int .i64 m2) = W3 at *
  have HLe3 := Lib.hid (HLe.out W3 rfl)
  have hb3 := HEnd.out
  have HFin : Hid (∀ X : World, X.heap[p]? = some (.cells (whC q (neB (Ls.set b (l.erase s))) m2) 132 (0, 0)) → LkAt X Dl q N (Ls.set b (l.erase s)) → WhAt X D p (Ls.set b (l.erase s))) := Lib.hid (fun X g1 g2 => ⟨q, m2, N, Dl, g1, g2, by rw [List.length_set]; exact H3.out, HDD.out⟩)
  have hne := neB_set (Ls := Ls) hbl (l.erase s)
  have HNE := Lib.hid hne
  have HMD : Hid (Mod D w W3) := Lib.hid (HMt.out.mono (fun k _ hk => (HDD.out k).2 hk))
  have HCl := Lib.hid (mclear_ok hb3 hb)
  obtain ⟨d0, d5, _, _⟩ := wh_cells hb3
  clear hne hW3 HLe hb3 HMt
  obtain ⟨l', hl'⟩ : ∃ l', l.erase s = l' := ⟨_, rfl⟩
  rw [hl'] at HLe3 HFin HNE HL2
  have HLE := Lib.hid hl'
  clear hl'
  cases l' with
  | nil =>
    have HLe4 : Hid (Calls Tryd.prog 86 #[lkP q, .int .i64 b] W3 fun e w' => e = .returned (.int .i64 0) ∧ W3 = w') := HLe3
    clear HLe3
    go_wp2_with (first
      | (go_at_call 86; refine Calls.mono HLe4.out ?_; rintro e w' ⟨rfl, rfl⟩)
      | (go_at_call 87; refine Calls.mono HCl.out ?_; rintro e w5 ⟨rfl, q1, q2⟩))
    go_ret2
    refine ⟨rfl, by rw [HLE.out]; exact HFin.out _ (by rw [HNE.out]; exact q1) (HL2.out.frame q2 (fun k hk e => HNB.out (e ▸ hk))), HMD.out.trans (q2.mono (fun k _ hk => by rw [hk]; exact (HDD.out p).2 (.inl rfl)))⟩
  | cons x l2 =>
    obtain ⟨n, hn⟩ : ∃ n, (x :: l2).length = n := ⟨_, rfl⟩
    have hn0 : n ≠ 0 := by rw [← hn]; simp
    rw [hn] at HLe3
    have e0 : ((n : Int) == 0) = false := by simp; omega
    have HN := Lib.hid hn
    clear hn hn0
    go_wp2_with (go_at_call 86; refine Calls.mono HLe3.out ?_; rintro e w' ⟨rfl, rfl⟩)
    go_ret2
    exact ⟨rfl, by rw [HLE.out]; exact HFin.out _ (by rw [HNE.out, setB_same (by rw [HNE0.out]; rfl)]; exact HEnd.out) HL2.out, HMD.out⟩
end
end Go.Proofs.YtlalpenfgkfkpaaDoor
