/- Lemmas and contracts of functions, strung together out of 6 texts. No condition. -/
import Derived.Test.YtlalpenfgkfkpaaDoorJPfCascadePlays4
import Derived.Test.YtlalpenfgkfkpaaDoorJPfCascadePlays3
import Derived.Test.YtlalpenfgkfkpaaDoorJPfCascadePlays1
import Derived.Test.YtlalpenfgkfkpaaDoorProg
import Derived.Maps.OwnOps
import Derived.Maps.OwnSet
import Derived.Maps.Views
/- links: Remove. Conditions: the field lies in memory, the node is in a list. -/
namespace Go.Proofs.YtlalpenfgkfkpaaDoor
open Go.RowKit
set_option maxRecDepth 100000
theorem fld_cut2 {w : World} {gF : Nat} {F : List Nd} {T : TypeId} {n a b : Nat} (ha : (nd F n).pv = a) (hb : (nd F n).nx = b) (h : w.heap[gF]? = some (.cells (fldC F).toArray T (0, 0))) (haF : a < F.length) (hbF : b < F.length) :
    ((w.setCell ⟨gF, a * 3 + 1, none⟩ (.int .u32 b)).setCell ⟨gF, b * 3, none⟩ (.int .u32 a)).heap[gF]? = some (.cells (fldC ((F.set a ⟨(nd F a).pv, b, (nd F a).ow⟩).set b ⟨a, (nd (F.set a ⟨(nd F a).pv, b, (nd F a).ow⟩) b).nx, (nd (F.set a ⟨(nd F a).pv, b, (nd F a).ow⟩) b).ow⟩)).toArray T (0, 0)) := by
  have h1 := fld_set h (i := a) (j := 1) (u := .int .u32 b) (m := ⟨(nd F a).pv, b, (nd F a).ow⟩) haF (by decide) rfl
  exact fld_set h1 (i := b) (j := 0) (u := .int .u32 a) (by simpa using hbF) (by decide) rfl
def SCut (p b6 : Nat) (v0 v1 u0 u1 : Value) (w' : World) : Prop := w'.cell? ⟨p, 0, none⟩ = some v0 ∧ w'.cell? ⟨p, 2, none⟩ = some v1 ∧ w'.cell? ⟨b6, 0, none⟩ = some u0 ∧ w'.cell? ⟨b6, 1, none⟩ = some u1
theorem SCut.set {p b6 g i : Nat} {v0 v1 u0 u1 v : Value} {X : World} (h : SCut p b6 v0 v1 u0 u1 X) (h1 : g ≠ p) (h2 : g ≠ b6) : SCut p b6 v0 v1 u0 u1 (X.setCell ⟨g, i, none⟩ v) :=
  ⟨cell_set h.1 (.inl h1), cell_set h.2.1 (.inl h1), cell_set h.2.2.1 (.inl h2), cell_set h.2.2.2 (.inl h2)⟩
section
variable {w w' : World} {p gF gL cF cL N : Nat} {Ls : List (List Nat)} {F : List Nd} {D : Nat → Prop}
set_option maxHeartbeats 1000000 in
theorem lrem_mem (h : LkMem w p gF gL cF cL N Ls F) {n k : Nat} {l : List Nat} (hl : Ls[k]? = some l) (hm : n ∈ l) :
    Calls Tryd.prog 85 #[lkP p, .int .u32 n] w fun e w' => e = .returned (.int .i64 0) ∧ LkMem w' p gF gL cF cL N (Ls.set k (l.erase n)) (cutF F n) ∧ Mod (fun b => b = gF ∨ b = gL) w w' := by
  obtain ⟨a1, hn, how, haF, hbF, han, hbn⟩ := h.ok.cut hl hm
  have hk : k < Ls.length := (List.getElem?_eq_some_iff.1 hl).1
  have hk4 : k < 4096 := by have := h.hm; omega
  have hnF : n < F.length := by rw [h.ok.len]; omega
  have h32 : n ≤ 4294967295 := by have := h.nm; omega
  have HI := lin_ok h h32
  have e0 : inE N F n = 0 := by unfold inE; rw [if_pos hn, if_neg (by omega)]
  rw [e0] at HI
  have HI := Lib.hid HI
  have hll : l.length ≤ N := h.ok.short hl
  have hl0 : 0 < l.length := List.length_pos_of_mem hm
  have hnm := h.nm
  have hend : ∀ (w' : World), w'.heap[gF]? = some (.cells (fldC (cutF F n)).toArray 156 (0, 0)) → w'.heap[gL]? = some (.cells ((lensC Ls).set k (.int .i64 ((l.length - 1 : Nat) : Int))).toArray 3 (0, 0)) → Mod (fun b => b = gF ∨ b = gL) w w' → LkMem w' p gF gL cF cL N (Ls.set k (l.erase n)) (cutF F n) := fun w' g1 g2 g3 => by
    obtain ⟨n1, n2, n3⟩ := h.ne
    refine ⟨?_, g1, ?_, a1, h.n1, h.nm, by rw [List.length_set]; exact h.hm⟩
    · rw [cutF_length, List.length_set]; exact g3.heap (fun e => by rcases e with e | e; exact n1 e; exact n2 e) h.box
    · rw [← lensC_set, List.length_erase_of_mem hm]; exact g2
  have HE := Lib.hid hend
  have hFb : F.length ≤ 4198400 := by rw [h.ok.len]; have := h.hm; omega
  obtain ⟨c0, c1, c2⟩ := h.at_ hnF
  rw [how] at c2
  obtain ⟨ne1, ne2, ne3⟩ := h.ne
  have HFL := Lib.hid h.fld; have HLN := Lib.hid h.len
  have HNX := Lib.hid (fun (X : World) (hX : X.heap[gL]? = some (.cells (lensC Ls).toArray 3 (0, 0))) => (show X.cell? ⟨gL, k, none⟩ = some (.int .i64 (l.length : Nat)) by rw [cell_of_row X gL k _ _ (0, 0) hX, List.getElem?_toArray]; exact lensC_get hl))
  have hbx := h.box
  have hp6 : p < w.heap.size := lt_of_block hbx
  have hg6 : gF < w.heap.size := lt_of_block h.fld
  have hL6 : gL < w.heap.size := lt_of_block h.len
  obtain ⟨FL, hFL⟩ : ∃ FL, F.length = FL := ⟨_, rfl⟩
  obtain ⟨a, ha⟩ : ∃ a, (nd F n).pv = a := ⟨_, rfl⟩
  obtain ⟨b, hb⟩ : ∃ b, (nd F n).nx = b := ⟨_, rfl⟩
  rw [ha] at haF han c0
  rw [hb] at hbF hbn c1
  rw [hFL] at hbx hFb hnF haF hbF
  have HBX := Lib.hid hbx
  have HA := Lib.hid ha; have HB := Lib.hid hb; have HFLe := Lib.hid hFL; have HOW := Lib.hid how
  clear h hend hFL a1 hl hm ha hb how e0 hbx
  have hbx := HBX.out
  obtain ⟨kk, hkk⟩ : ∃ kk, k + 1 = kk := ⟨_, rfl⟩
  rw [hkk] at c2 HOW
  have wk : IntKind.u32.wrap ((kk : Int) - 1) = (k : Int) := by rw [← hkk, show ((k + 1 : Nat) : Int) - 1 = (k : Int) by omega]; exact u32_of k (by omega)
  have dn : decide (n < FL) = true := decide_eq_true hnF
  have da : decide (a < FL) = true := decide_eq_true haF
  have db : decide (b < FL) = true := decide_eq_true hbF
  clear hkk
  have hbx_0 := cell_of_row _ _ 0 _ _ _ hbx; have hbx_1 := cell_of_row _ _ 1 _ _ _ hbx; have hbx_2 := cell_of_row _ _ 2 _ _ _ hbx; have hbx_f := (fun j => frozen_of_row _ _ j _ _ hbx); have hbx_l := lt_of_block hbx; simp at hbx_0 hbx_1 hbx_2; have H_hbx := Lib.hid hbx; clear hbx
  go_enter Tryd.func85, Tryd.ntmps85
  go_upto_region 5 with (go_at_call 107; refine Calls.mono HI.out ?_; rintro e w' ⟨rfl, rfl⟩)
  have hal : Pure w (w.alloc (.cells #[.int .u32 a, .int .u32 b, .int .u32 kk] 156)) := (Mod.refl _ w).alloc _
  have h6 := heap_new (w := w) (o := .cells #[.int .u32 a, .int .u32 b, .int .u32 kk] 156 (0, 0)) rfl
  have hbx0 := hal.heap (fun h => h) HBX.out
  have hf0 := hal.heap (fun h => h) HFL.out
  have hl0' := hal.heap (fun h => h) HLN.out
  have n6 : gF ≠ w.heap.size := by omega
  have n6L : gL ≠ w.heap.size := by omega
  have HM0 := Lib.hid hal
  clear hbx_0 hbx_1 hbx_2 hbx_f hbx_l
  clear H_hbx c0 c1 c2 hal hp6 hg6 hL6
  generalize w.alloc (.cells #[.int .u32 a, .int .u32 b, .int .u32 kk] 156) = X0 at *
  generalize w.heap.size = b6 at *
  have HF0 := Lib.hid hf0; have HL0 := Lib.hid hl0'; have HBX0 := Lib.hid hbx0; have H60 := Lib.hid h6
  obtain ⟨r0, r1, r2⟩ := fldC_at hf0 (i := a) (by rw [HFLe.out]; exact haF)
  obtain ⟨s0, s1, s2⟩ := fldC_at hf0 (i := b) (by rw [HFLe.out]; exact hbF)
  have g0 := frozen_of_row X0 gF (a * 3 + 1) _ _ hf0
  have g1 := frozen_of_row X0 gF (b * 3) _ _ hf0
  have hX : gF < X0.heap.size := lt_of_block hf0
  clear hf0 hl0'
  have hbx0_0 := cell_of_row _ _ 0 _ _ _ hbx0; have hbx0_1 := cell_of_row _ _ 1 _ _ _ hbx0; have hbx0_2 := cell_of_row _ _ 2 _ _ _ hbx0; have hbx0_f := (fun j => frozen_of_row _ _ j _ _ hbx0); have hbx0_l := lt_of_block hbx0; simp at hbx0_0 hbx0_1 hbx0_2; have H_hbx0 := Lib.hid hbx0; clear hbx0
  have h6_0 := cell_of_row _ _ 0 _ _ _ h6; have h6_1 := cell_of_row _ _ 1 _ _ _ h6; have h6_2 := cell_of_row _ _ 2 _ _ _ h6; have h6_f := (fun j => frozen_of_row _ _ j _ _ h6); have h6_l := lt_of_block h6; simp at h6_0 h6_1 h6_2; have H_h6 := Lib.hid h6; clear h6
  have HS : Hid (SCut p b6 (.slice (some ⟨gF, 0, none⟩) FL cF) (.slice (some ⟨gL, 0, none⟩) Ls.length cL) (.int .u32 a) (.int .u32 b) X0) := Lib.hid ⟨hbx0_0, hbx0_2, h6_0, h6_1⟩
  go_upto_region 5 with fail
  go_region_held3 (fun w' => w'.cell? ⟨p, 0, none⟩ = some (.slice (some ⟨gF, 0, none⟩) FL cF) ∧ w'.cell? ⟨p, 2, none⟩ = some (.slice (some ⟨gL, 0, none⟩) Ls.length cL) ∧ w'.cell? ⟨b6, 0, none⟩ = some (.int .u32 a) ∧ w'.cell? ⟨b6, 1, none⟩ = some (.int .u32 b))
    (first | exact HS.out | exact HS.out.set ne1.symm n6 | exact (HS.out.set ne1.symm n6).set ne1.symm n6) (fail)
  have hm2 : Mod (fun b => b = gF) X0 ((X0.setCell ⟨gF, a * 3 + 1, none⟩ (.int .u32 b)).setCell ⟨gF, b * 3, none⟩ (.int .u32 a)).drew :=
    (((Mod.refl (fun b => b = gF) X0).setCell (p := ⟨gF, a * 3 + 1, none⟩) (fun _ => rfl) _).setCell (p := ⟨gF, b * 3, none⟩) (fun _ => rfl) _).drew
  have hf2 : ((X0.setCell ⟨gF, a * 3 + 1, none⟩ (.int .u32 b)).setCell ⟨gF, b * 3, none⟩ (.int .u32 a)).drew.heap[gF]? = _ := fld_cut2 HA.out HB.out HF0.out (by rw [HFLe.out]; exact haF) (by rw [HFLe.out]; exact hbF)
  generalize ((X0.setCell ⟨gF, a * 3 + 1, none⟩ (.int .u32 b)).setCell ⟨gF, b * 3, none⟩ (.int .u32 a)).drew = X2 at hm2 hf2 ⊢
  have hbx2 := hm2.heap (fun e => ne1 e) HBX0.out
  have hln2 := hm2.heap (fun e => ne3 e.symm) HL0.out
  have h62 := hm2.heap (fun e => n6 e.symm) H60.out
  have hl9 := HNX.out _ hln2
  clear hbx0_0 hbx0_1 hbx0_2 hbx0_f hbx0_l
  clear h6_0 h6_1 h6_2 h6_f h6_l
  clear H_hbx0 H_h6 r0 r1 r2 s0 s1 s2 g0 g1 hX HS
  have g0 := frozen_of_row X2 gL k _ _ hln2
  have HM := Lib.hid ((HM0.out.mono (fun _ _ h => h.elim)).trans (hm2.mono (fun _ _ h => Or.inl h)) : Mod (fun b => b = gF ∨ b = gL) w X2)
  have HF2 := Lib.hid hf2; have HL2 := Lib.hid hln2
  have hX2 : gL < X2.heap.size := lt_of_block hln2
  have hX3 : gF < X2.heap.size := lt_of_block hf2
  clear hm2 hf2 hln2
  have dk : decide (k < Ls.length) = true := decide_eq_true hk
  have wl : IntKind.i64.wrap ((l.length : Int) - 1) = (l.length : Int) - 1 := IntWalk.i64_in _ (by omega)
  have hbx2_0 := cell_of_row _ _ 0 _ _ _ hbx2; have hbx2_1 := cell_of_row _ _ 1 _ _ _ hbx2; have hbx2_2 := cell_of_row _ _ 2 _ _ _ hbx2; have hbx2_f := (fun j => frozen_of_row _ _ j _ _ hbx2); have hbx2_l := lt_of_block hbx2; simp at hbx2_0 hbx2_1 hbx2_2; have H_hbx2 := Lib.hid hbx2; clear hbx2
  have h62_0 := cell_of_row _ _ 0 _ _ _ h62; have h62_1 := cell_of_row _ _ 1 _ _ _ h62; have h62_2 := cell_of_row _ _ 2 _ _ _ h62; have h62_f := (fun j => frozen_of_row _ _ j _ _ h62); have h62_l := lt_of_block h62; simp at h62_0 h62_1 h62_2; have H_h62 := Lib.hid h62; clear h62
  go_upto_region 6 with fail
  go_still_tail 11, (by kernel_rfl)
  go_upto_region 7 with fail
  have e1 : (X2.setCell ⟨gL, k, none⟩ (.int .i64 ((l.length : Int) - 1))).drew.heap[gF]? = _ := heap_set_other HF2.out ne3
  have e2 : (X2.setCell ⟨gL, k, none⟩ (.int .i64 ((l.length : Int) - 1))).drew.heap[gL]? = _ := heap_setCell_same X2 gL k _ _ (.int .i64 ((l.length : Int) - 1)) HL2.out
  rw [List.setIfInBounds_toArray, show ((l.length : Int) - 1) = ((l.length - 1 : Nat) : Int) by omega] at e2
  rw [show ((l.length : Int) - 1) = ((l.length - 1 : Nat) : Int) by omega] at e1
  have e3 := (HM.out.setCell (p := ⟨gL, k, none⟩) (fun _ => .inr rfl) (.int .i64 ((l.length - 1 : Nat) : Int))).drew
  have e4 : (X2.setCell ⟨gL, k, none⟩ (.int .i64 ((l.length - 1 : Nat) : Int))).drew.heap[p]? = _ := heap_set_other H_hbx2.out ne2
  rw [show ((l.length : Int) - 1) = ((l.length - 1 : Nat) : Int) by omega]
  clear hbx2_0 hbx2_1 hbx2_2 hbx2_f hbx2_l
  clear h62_0 h62_1 h62_2 h62_f h62_l
  clear H_hbx2 H_h62 wl dk hl9 g0 hX2 hX3
  generalize (X2.setCell ⟨gL, k, none⟩ (.int .i64 ((l.length - 1 : Nat) : Int))).drew = X3 at e1 e2 e3 e4 ⊢
  obtain ⟨q0, q1, q2⟩ := fldC_at e1 (i := n) (by simp; rw [HFLe.out]; exact hnF)
  have g0 := frozen_of_row X3 gF (n * 3) _ _ e1
  have g1 := frozen_of_row X3 gF (n * 3 + 1) _ _ e1
  have g2 := frozen_of_row X3 gF (n * 3 + 2) _ _ e1
  have hX3 : gF < X3.heap.size := lt_of_block e1
  have HE1 := Lib.hid e1; have HE2 := Lib.hid e2; have HE3 := Lib.hid e3
  have hfin := fld_put e1 (i := n) (by simp; rw [HFLe.out]; exact hnF) 0 0 0
  have HFIN := Lib.hid hfin
  clear e1 e2 e3 hfin
  have e4_0 := cell_of_row _ _ 0 _ _ _ e4; have e4_1 := cell_of_row _ _ 1 _ _ _ e4; have e4_2 := cell_of_row _ _ 2 _ _ _ e4; have e4_f := (fun j => frozen_of_row _ _ j _ _ e4); have e4_l := lt_of_block e4; simp at e4_0 e4_1 e4_2; have H_e4 := Lib.hid e4; clear e4
  go_wp2
  have r1 := HFIN.out
  have r2 := heap_set_other (v := .int .u32 0) (heap_set_other (v := .int .u32 0) (heap_set_other (a := ⟨gF, n * 3, none⟩) (v := .int .u32 0) HE2.out (fun e => ne3 e.symm)) (a := ⟨gF, n * 3 + 1, none⟩) (fun e => ne3 e.symm)) (a := ⟨gF, n * 3 + 2, none⟩) (fun e => ne3 e.symm)
  have r3 := ((HE3.out.setCell (p := ⟨gF, n * 3, none⟩) (fun _ => .inl rfl) (.int .u32 0)).setCell (p := ⟨gF, n * 3 + 1, none⟩) (fun _ => .inl rfl) (.int .u32 0)).setCell (p := ⟨gF, n * 3 + 2, none⟩) (fun _ => .inl rfl) (.int .u32 0)
  go_ret
  refine ⟨rfl, HE.out _ ?_ r2 r3, r3⟩
  unfold cutF
  rw [HA.out, HB.out]
  exact r1
/-- A node of list k is taken out. -/
theorem lrem_ok (h : LkAt w D p N Ls) {n k : Nat} {l : List Nat} (hl : Ls[k]? = some l) (hm : n ∈ l) :
    Calls Tryd.prog 85 #[lkP p, .int .u32 n] w fun e w' => e = .returned (.int .i64 0) ∧ LkAt w' D p N (Ls.set k (l.erase n)) ∧ Mod D w w' := by
  obtain ⟨gF, gL, cF, cL, F, h1, h2⟩ := h
  refine (lrem_mem h1 hl hm).mono ?_
  rintro e w' ⟨he, q1, q2⟩
  exact ⟨he, ⟨gF, gL, cF, cL, _, q1, h2⟩, q2.mono (fun k _ hk => (h2 k).2 (.inr hk))⟩
end
end Go.Proofs.YtlalpenfgkfkpaaDoor

/- wheel: Put, Bucket, Remove. Conditions: the level lies in memory. -/
namespace Go.Proofs.YtlalpenfgkfkpaaDoor
open Go.RowKit
set_option maxRecDepth 100000
section
variable {w w' : World} {D : Nat → Prop} {p : Nat} {Ls : List (List Nat)}
def grewD (D D' : Nat → Prop) (w : World) : Prop := ∀ k, D' k → D k ∨ w.heap.size ≤ k
theorem grewD.refl (D : Nat → Prop) (w : World) : grewD D D w := fun _ h => .inl h
set_option maxHeartbeats 1000000 in
theorem wput_ok (h : WhAt w D p Ls) {s b : Nat} {l : List Nat} (hs : s < 4194304) (hl : Ls[b]? = some l) (hf : ¬ inL Ls s) :
    Calls Tryd.prog 77 #[lkP p, .int .u32 s, .int .i64 b] w fun e w' => e = .returned (.int .i64 0) ∧ (∃ D', WhAt w' D' p (Ls.set b (l ++ [s])) ∧ grewD D D' w) ∧ Mod D w w' := by
  have hb : b < 256 := by have := (List.getElem?_eq_some_iff.1 hl).1; rw [h.len] at this; exact this
  have HCk := Lib.hid (wcheck_ok h hs (b := (b : Int)) (by omega) (by omega))
  have HW := Lib.hid h
  obtain ⟨q, many, N, Dl, h1, h2, h3, h4⟩ := h
  have HRo := Lib.hid (wroom_ok h1 h2 h3 hs)
  have HB := Lib.hid h1; have HDD := Lib.hid h4; have HL := Lib.hid hl; have HF := Lib.hid hf; have H3 := Lib.hid h3
  have HNB := Lib.hid (box_not h1 h2)
  have hpq : p ≠ q := fun e => box_not h1 h2 (e ▸ h2.self)
  have hpl : p < w.heap.size := lt_of_block h1
  clear h1 h2 h3 h4 hl hf
  have b0 : (0 : Int) ≤ (b : Int) := by omega
  go_enter Tryd.func77, Tryd.ntmps77
  go_upto_region 5 with (first
    | (go_at_call 88; refine Calls.mono HCk.out ?_; rintro e w' ⟨rfl, rfl⟩)
    | (go_at_call 94; refine Calls.mono HRo.out ?_; rintro e w1 ⟨rfl, N', Dl', hl1, hsN, hm1, hg1⟩))
  have hbx1 := hm1.heap HNB.out HB.out
  have hnb1 := box_not hbx1 hl1
  have HBk := Lib.hid (lback_ok hl1 hsN HL.out HF.out)
  have HM1 := Lib.hid hm1; have HG1 := Lib.hid hg1; have HBX1 := Lib.hid hbx1; have HNB1 := Lib.hid hnb1
  obtain ⟨c0, c5, _, _⟩ := wh_cells hbx1
  clear hl1 hm1 hg1 hbx1 hnb1 c5
  go_upto_region 8 with (go_at_call 95; refine Calls.mono HBk.out ?_; rintro e w2 ⟨rfl, hl2, hm2⟩)
  have hbx2 := hm2.heap HNB1.out HBX1.out
  have HSe := Lib.hid (mset_ok hbx2 hb)
  have HL2 := Lib.hid hl2; have HM2 := Lib.hid hm2
  clear hl2 hm2 hbx2 c0
  go_upto_region 9 with (go_at_call 96; refine Calls.mono HSe.out ?_; rintro e w3 ⟨rfl, hbx3, hm3⟩)
  obtain ⟨c0, c5, g5, hlt3⟩ := wh_cells hbx3
  have g55 := g5 5
  have HBX3 := Lib.hid hbx3; have HM3 := Lib.hid hm3
  clear hbx3 hm3 g5
  obtain ⟨m2, hm2⟩ : ∃ m2, IntKind.i64.wrap (many + 1) = m2 := ⟨_, rfl⟩
  have hend := wh_many HBX3.out m2
  have hmd := (Mod.refl (fun k => k = p) w3).setCell (p := ⟨p, 5, none⟩) (fun _ => rfl) (.int .i64 m2)
  have HEnd := Lib.hid hend; have HMd := Lib.hid hmd
  clear hend hmd
  go_wp2
  go_ret
  have hne : neB (Ls.set b (l ++ [s])) = setB (neB Ls) b true := by
    rw [neB_set (by rw [H3.out]; exact hb)]
    congr 1
    simp
  refine ⟨rfl, ⟨fun k => k = p ∨ Dl' k, ⟨q, m2, N', Dl', ?_, (HL2.out.frame HM3.out (fun k hk e => HNB1.out (e ▸ hk))).frame HMd.out (fun k hk e => HNB1.out (e ▸ hk)), by rw [List.length_set]; exact H3.out, fun k => Iff.rfl⟩, fun k hk => ?_⟩, ?_⟩
  · rw [hne]; exact HEnd.out
  · rcases hk with rfl | hk
    · exact .inl ((HDD.out k).2 (.inl rfl))
    · rcases HG1.out k hk with e | e
      · exact .inl ((HDD.out k).2 (.inr e))
      · exact .inr e
  · refine (HM1.out.mono (fun k _ hk => (HDD.out k).2 (.inr hk))).then ((HM2.out.mono (fun k _ hk => Or.inr hk) : Mod (fun k => k = p ∨ Dl' k) w1 w2).trans ((HM3.out.trans HMd.out).mono (fun k _ hk => Or.inl hk))) (fun k hk e => ?_)
    rcases e with rfl | e
    · exact (HDD.out k).2 (.inl rfl)
    · rcases HG1.out k e with e2 | e2
      · exact (HDD.out k).2 (.inr e2)
      · omega
/-- What Bucket says: the bucket of a slot that is there. -/
theorem wbucket_ok (h : WhAt w D p Ls) {s : Nat} (hs : s < 4194304) {b : Nat} {l : List Nat} (hl : Ls[b]? = some l) (hm : s ∈ l) :
    Calls Tryd.prog 84 #[lkP p, .int .u32 s] w fun e w' => e = .returned (.tuple #[.int .i64 b, .int .i64 0]) ∧ w = w' := by
  have HCk := Lib.hid (wcheck_ok h hs (b := 0) (by omega) (by omega))
  obtain ⟨q, many, N, Dl, h1, h2, h3, h4⟩ := h
  have HOf : Hid (Calls Tryd.prog 106 #[lkP q, .int .u32 s] w fun e w' => e = .returned (.tuple #[.int .i64 b, .int .i64 0]) ∧ w = w') := Lib.hid (by
    refine (lof_ok h2 (n := s) (by omega)).mono ?_
    rintro e w' ⟨hp, rfl⟩
    refine ⟨?_, rfl⟩
    rcases hp with ⟨k, l', e1, e2, rfl⟩ | ⟨hn, _⟩
    · obtain ⟨gF, gL, cF, cL, F, m1, m2⟩ := h2
      have := (m1.ok.own k l' e1 s e2).2
      have h9 := (m1.ok.own b l hl s hm).2
      rw [show k = b by omega]
    · exact absurd ⟨b, l, hl, hm⟩ hn)
  obtain ⟨c0, _, _, _⟩ := wh_cells h1
  clear h1 h2 h3 h4 hl hm
  go_enter Tryd.func84, Tryd.ntmps84
  go_wp2_with (first
    | (go_at_call 88; refine Calls.mono HCk.out ?_; rintro e w' ⟨rfl, rfl⟩)
    | (go_at_call 106; refine Calls.mono HOf.out ?_; rintro e w' ⟨rfl, rfl⟩))
  go_ret2
  exact ⟨rfl, rfl⟩
set_option maxHeartbeats 1000000 in
theorem wrem_ok (h : WhAt w D p Ls) {s b : Nat} {l : List Nat} (hs : s < 4194304) (hl : Ls[b]? = some l) (hm : s ∈ l) :
    Calls Tryd.prog 62 #[lkP p, .int .u32 s] w fun e w' => e = .returned (.tuple #[.int .i64 b, .int .i64 0]) ∧ WhAt w' D p (Ls.set b (l.erase s)) ∧ Mod D w w' := by
  have hb : b < 256 := by have := (List.getElem?_eq_some_iff.1 hl).1; rw [h.len] at this; exact this
  have HBu := Lib.hid (wbucket_ok h hs hl hm)
  obtain ⟨q, many, N, Dl, h1, h2, h3, h4⟩ := h
  have HRe := Lib.hid (lrem_ok h2 hl hm)
  have HNB := Lib.hid (box_not h1 h2)
  have HB := Lib.hid h1; have HDD := Lib.hid h4; have H3 := Lib.hid h3
  have HNE0 : Hid (neB Ls b = true) := Lib.hid (by unfold neB; rw [hl]; cases l with | nil => cases hm | cons x l => rfl)
  have hbl : b < Ls.length := by rw [h3]; exact hb
  have hl9 : (Ls.set b (l.erase s))[b]? = some (l.erase s) := List.getElem?_set_self hbl
  have HL9 := Lib.hid hl9
  obtain ⟨c0, c5, _, _⟩ := wh_cells h1
  clear h1 h2 h3 h4 hl hm hl9
  have b0 : (0 : Int) ≤ (b : Int) := by omega
  go_enter Tryd.func62, Tryd.ntmps62
  go_upto_region 5 with (first
    | (go_at_call 84; refine Calls.mono HBu.out ?_; rintro e w' ⟨rfl, rfl⟩)
    | (go_at_call 85; refine Calls.mono HRe.out ?_; rintro e w1 ⟨rfl, hl1, hm1⟩))
  have hbx1 := hm1.heap HNB.out HB.out
  obtain ⟨m2, hmm⟩ : ∃ m2, IntKind.i64.wrap (many - 1) = m2 := ⟨_, rfl⟩
  have hend := wh_many hbx1 m2
  have hmd := (Mod.refl (fun k => k = p) w1).setCell (p := ⟨p, 5, none⟩) (fun _ => rfl) (.int .i64 m2)
  have hl2 := hl1.frame hmd (fun k hk e => HNB.out (e ▸ hk))
  have hmt : Mod (fun k => k = p ∨ Dl k) w (w1.setCell ⟨p, 5, none⟩ (.int .i64 m2)) := (hm1.mono (fun _ _ h => Or.inr h)).trans (hmd.mono (fun _ _ h => Or.inl h))
  have HLe := Lib.hid (fun W (hW : w1.setCell ⟨p, 5, none⟩ (.int .i64 m2) = W) => (hW ▸ llen_ok hl2 HL9.out : Calls Tryd.prog 86 #[lkP q, .int .i64 b] W fun e w' => e = .returned (.int .i64 (l.erase s).length) ∧ W = w'))
  obtain ⟨d0, d5, g5, hlt1⟩ := wh_cells hbx1
  have g55 := g5 5
  have HL2 := Lib.hid hl2; have HMt := Lib.hid hmt; have HEnd := Lib.hid hend
  clear hl1 hm1 hl2 hmt hend hmd g5 hbx1 c0 c5
  go_upto_region 6 with fail
  generalize hW3 : w1.setCell ⟨p, 5, none⟩ (.int .i64 m2) = W3 at *
  have HLe3 := Lib.hid (HLe.out W3 rfl)
  have hb3 := HEnd.out
  have HFin : Hid (∀ X : World, X.heap[p]? = some (.cells (whC q (neB (Ls.set b (l.erase s))) m2) 132 (0, 0)) → LkAt X Dl q N (Ls.set b (l.erase s)) → WhAt X D p (Ls.set b (l.erase s))) := Lib.hid (fun X g1 g2 => ⟨q, m2, N, Dl, g1, g2, by rw [List.length_set]; exact H3.out, HDD.out⟩)
  have hne := neB_set (Ls := Ls) hbl (l.erase s)
  have HNE := Lib.hid hne
  have HMD : Hid (Mod D w W3) := Lib.hid (HMt.out.mono (fun k _ hk => (HDD.out k).2 hk))
  have HCl := Lib.hid (mclear_ok hb3 hb)
  obtain ⟨d0, d5, _, _⟩ := wh_cells hb3
  clear hne hW3 HLe hb3 HMt
  obtain ⟨l', hl'⟩ : ∃ l', l.erase s = l' := ⟨_, rfl⟩
  rw [hl'] at HLe3 HFin HNE HL2
  have HLE := Lib.hid hl'
  clear hl'
  cases l' with
  | nil =>
    have HLe4 : Hid (Calls Tryd.prog 86 #[lkP q, .int .i64 b] W3 fun e w' => e = .returned (.int .i64 0) ∧ W3 = w') := HLe3
    clear HLe3
    go_wp2_with (first
      | (go_at_call 86; refine Calls.mono HLe4.out ?_; rintro e w' ⟨rfl, rfl⟩)
      | (go_at_call 87; refine Calls.mono HCl.out ?_; rintro e w5 ⟨rfl, q1, q2⟩))
    go_ret2
    refine ⟨rfl, by rw [HLE.out]; exact HFin.out _ (by rw [HNE.out]; exact q1) (HL2.out.frame q2 (fun k hk e => HNB.out (e ▸ hk))), HMD.out.trans (q2.mono (fun k _ hk => by rw [hk]; exact (HDD.out p).2 (.inl rfl)))⟩
  | cons x l2 =>
    obtain ⟨n, hn⟩ : ∃ n, (x :: l2).length = n := ⟨_, rfl⟩
    have hn0 : n ≠ 0 := by rw [← hn]; simp
    rw [hn] at HLe3
    have e0 : ((n : Int) == 0) = false := by simp; omega
    have HN := Lib.hid hn
    clear hn hn0
    go_wp2_with (go_at_call 86; refine Calls.mono HLe3.out ?_; rintro e w' ⟨rfl, rfl⟩)
    go_ret2
    exact ⟨rfl, by rw [HLE.out]; exact HFin.out _ (by rw [HNE.out, setB_same (by rw [HNE0.out]; rfl)]; exact HEnd.out) HL2.out, HMD.out⟩
end
end Go.Proofs.YtlalpenfgkfkpaaDoor

/- links: All, slices.Collect of what it goes over. Conditions: the field lies in memory. -/
namespace Go.Proofs.YtlalpenfgkfkpaaDoor
open Go.RowKit Go.Shelf
set_option maxRecDepth 100000
structure NumIter (w : World) (B : Nat) (a : Option Addr) (c : Nat) (l : List Nat) : Prop where
  box : w.heap[B]? = some (.cells #[.slice a l.length c] 74 (0, 0))
  row : NumRow w a c l
def numBlocks (B : Nat) (a : Option Addr) (n c : Nat) (k : Nat) : Prop := k = B ∨ (Value.slice a n c).ownBlock = some k
theorem NumIter.keeps {w w' : World} {B : Nat} {a : Option Addr} {c : Nat} {l : List Nat} (h : NumIter w B a c l) (hk : KeepsIt (numBlocks B a l.length c) w w') : NumIter w' B a c l :=
  ⟨(hk.2 B (.inl rfl) (lt_of_block h.box)).trans h.box, owns_heap h.row (fun g hg hlt => hk.2 g (.inr hg) hlt)⟩
theorem NumIter.cell {w : World} {B : Nat} {a : Option Addr} {c : Nat} {l : List Nat} (h : NumIter w B a c l) {j x : Nat} (hx : l[j]? = some x) : ∃ g, a = some ⟨g, 0, none⟩ ∧ w.cell? ⟨g, j, none⟩ = some (.int .u32 x) := by
  have hlt := (List.getElem?_eq_some_iff.1 hx).1
  obtain ⟨g, c', hsv, _, hg, hc, hf, _⟩ := owns_at h.row (by omega)
  cases hsv
  refine ⟨g, rfl, hc _ _ ?_⟩
  unfold nums
  rw [List.getElem?_map, hx]
  rfl
def encU (x : Nat) : Array Value := #[.int .u32 x]
def numInv (J : List Nat → World → Prop) (B : Nat) (a : Option Addr) (c : Nat) (l : List Nat) (k : Value) (wr : World) : Prop :=
  ∃ pre post : List Nat, k = .int .i64 (pre.length : Nat) ∧ l = pre ++ post ∧ J pre wr ∧ NumIter wr B a c l
set_option maxHeartbeats 1000000 in
theorem Nums_iter {w : World} {B : Nat} {a : Option Addr} {c : Nat} {l : List Nat} (h : NumIter w B a c l) (hl : l.length ≤ 4194304) :
    IterOk Tryd.prog 112 #[.pointer (some ⟨B, 0, none⟩)] encU (numBlocks B a l.length c) (fun pre x _ => ∃ post, l = pre ++ x :: post) (fun xs => xs = l) w := by
  intro lb J Jx W hW hJ hJx hY h0
  have hA := h.keeps (KeepsIt.of_pure hW)
  have hB := cell_of_row W B 0 _ _ _ hA.box
  simp at hB
  have HA := Lib.hid hA
  have HY := Lib.hid hY
  clear hA hY hJ hJx h hW
  refine callsIn_of_wp Tryd.func112 rfl trivial ?_ rfl
  simp only [Tryd.ntmps112, List.size_toArray, List.length_cons, List.length_nil, Nat.reduceAdd, Nat.reduceSub, Array.replicate_succ, Array.replicate_zero, List.push_toArray, List.append_toArray, List.nil_append, List.cons_append]
  obtain ⟨n, hn⟩ : ∃ n, l.length = n := ⟨_, rfl⟩
  rw [hn] at hB hl HY
  have wn : IntKind.i64.wrap (n : Int) = n := IntWalk.i64_in _ (by omega)
  have HN := Lib.hid hn
  clear hn
  gi_wp2
  gi_loopw [7] (fun k wr => numInv J B a c l k wr) (fun k _ => n - (intOf k).toNat)
  case atStart => exact ⟨[], l, rfl, rfl, h0, HA.out⟩
  case round =>
    obtain ⟨pre, post, rfl, hpp, hJs, hI⟩ := hrel
    have hlen : pre.length + post.length = n := by rw [← HN.out, hpp, List.length_append]
    cases post with
    | nil =>
      have he : pre = l := by rw [hpp, List.append_nil]
      have HE := Lib.hid he; have HJS := Lib.hid hJs
      have hpn : n = pre.length := by simpa using hlen.symm
      have d1 : decide (pre.length < n) = false := decide_eq_false (by omega)
      have d2 : decide ((pre.length : Int) < (n : Int)) = false := decide_eq_false (by omega)
      clear hpp hlen he hI hJs hpn
      gi_wp2
      go_end0
      exact ⟨⟨_, rfl⟩, .inl ⟨pre, HE.out, HJS.out⟩⟩
    | cons x post =>
      obtain ⟨g, rfl, hc⟩ := hI.cell (j := pre.length) (x := x) (by rw [hpp]; simp)
      obtain ⟨fn, tmps, assign, body, hy, hR⟩ := HY.out pre x wr hJs ⟨post, hpp⟩
      dsimp only [encU] at hy
      have hRR := Lib.hid hR
      have HL := Lib.hid hpp; have HI := Lib.hid hI
      have hlt : pre.length < n := by simp at hlen; omega
      obtain ⟨j, hj⟩ : ∃ j, pre.length = j := ⟨_, rfl⟩
      rw [hj] at hc hlt ⊢
      have hlt' : (j : Int) < (n : Int) := by omega
      have j0 : (0 : Int) ≤ (j : Int) := by omega
      have wj : IntKind.i64.wrap ((j : Int) + 1) = (j : Int) + 1 := IntWalk.i64_in _ (by omega)
      have HJ := Lib.hid hj
      clear hpp hI hR hJs hlen hj
      gi_wp2
      refine hRR.out.mono ?_
      rintro e W' (⟨rfl, hJ', hk⟩ | ⟨rfl, hJx'⟩)
      · have HJ' := Lib.hid hJ'
        have HK := Lib.hid (HI.out.keeps (by rw [HN.out]; exact hk))
        clear hJ' hk
        gi_wp2
        go_roundw
        case rel =>
          unfold numInv
          exact ⟨pre ++ [x], post, by rw [List.length_append, HJ.out]; go_num, by rw [HL.out]; simp, HJ'.out, HK.out⟩
        case measure => simp [intOf]; omega
      · gi_wp2
        refine bodyPost_ret (results_none rfl _ _ _) rfl ?_
        exact ⟨⟨_, rfl⟩, .inr ⟨_, hJx'⟩⟩
end Go.Proofs.YtlalpenfgkfkpaaDoor

/- links: All; slices.AppendSeq and Collect of what it goes over. Conditions: the field lies in memory. -/
namespace Go.Proofs.YtlalpenfgkfkpaaDoor
open Go.RowKit Go.Shelf
set_option maxRecDepth 100000
attribute [local go_sem] Oper.semAt_some
def lallPost (w : World) (l : List Nat) (e : Ending) (w' : World) : Prop :=
  ∃ B a c, e = .returned (.func (.func 112) #[] #[.pointer (some ⟨B, 0, none⟩)]) ∧ NumIter w' B a c l ∧ Pure w w'
set_option maxHeartbeats 1000000 in
theorem lAll_ok {w : World} {D : Nat → Prop} {p N : Nat} {Ls : List (List Nat)} (h : LkAt w D p N Ls) {k : Nat} {l : List Nat} (hl : Ls[k]? = some l) (hll : l.length ≤ 4194304) : Calls Tryd.prog 91 #[lkP p, .int .i64 k] w (lallPost w l) := by
  have HA := Lib.hid (lall_ok h hl)
  obtain ⟨n, hn⟩ : ∃ n, l.length = n := ⟨_, rfl⟩
  rw [hn] at HA hll
  have HN := Lib.hid hn
  clear h hl hn
  obtain ⟨i0, hi, iz0, iz1, iz2⟩ := info_parts info_n32
  go_enter Tryd.func91, Tryd.ntmps91
  go_upto_region 2 with (first
    | (go_at_call 111; refine Calls.mono HA.out ?_; rintro e w1 ⟨a, c, rfl, hrow, hfr, hp1⟩; have hrd := num_read hrow; rw [HN.out] at hrd; have HRD := Lib.hid hrd; have HP1 := Lib.hid hp1; clear hrow hfr hp1 hrd)
    | (at_builtin; refine wpList_append_read _ rfl _ _ 74 rfl 29 i0 _ 1 4 Tryd.underlying74 hi iz0 iz1 iz2 rfl (by decide) (.slice none 0 0) 0 [] rfl (World.ownsRow_nil _ _ _ _) _ (nums l) n rfl HRD.out (by rw [nums_length, HN.out]; omega) (by unfold maxLen; omega) (by omega) ?_; intro a7 c7 w5 hr7 hg7 hb7))
  have hp5 : Pure w1 w5 := Mod.of_grown hg7 (fun k e _ => by cases e)
  have hr := hr7
  rw [Nat.zero_add, List.nil_append] at hr
  have hal : Pure w5 (w5.alloc (.cells #[.slice a7 n c7] 74)) := (Mod.refl _ w5).alloc _
  have hbx := heap_new (w := w5) (o := .cells #[.slice a7 n c7] 74 (0, 0)) rfl
  have HE : Hid (lallPost w l (.returned (.func (.func 112) #[] #[.pointer (some ⟨w5.heap.size, 0, none⟩)])) (w5.alloc (.cells #[.slice a7 n c7] 74))) := Lib.hid
    ⟨w5.heap.size, a7, c7, rfl, ⟨by rw [HN.out]; exact hbx, by unfold NumRow; rw [HN.out]; exact owns_mod hr hal (fun _ _ h => h)⟩, (HP1.out.trans hp5).trans hal⟩
  clear hr hr7 hg7 hb7 hp5 hal hbx
  go_wp2
  go_ret
  exact HE.out
structure SqInv (w : World) (l : List Nat) (pre : List Nat) (W : World) : Prop where
  pu : Pure w W
  row : ∃ a c, W.heap[w.heap.size]? = some (.cells #[.slice a pre.length c] 74 (0, 0)) ∧ NumRow W a c pre ∧ ∀ g, (Value.slice a pre.length c).ownBlock = some g → w.heap.size < g
theorem SqInv.quiet {w A B : World} {l pre : List Nat} {N : Nat} (h : SqInv w l pre A) (hN : w.heap.size ≤ N) (hq : Quiet N A B) : SqInv w l pre B := by
  obtain ⟨a, c, h1, h2, h3⟩ := h.row
  exact ⟨hq.mod h.pu hN, a, c, hq.cells h1, hq.owns h2, h3⟩
def seqPost (w : World) (l : List Nat) (e : Ending) (w' : World) : Prop := ∃ a c, e = .returned (.slice a l.length c) ∧ NumRow w' a c l ∧ FreshV w (.slice a l.length c) ∧ Pure w w'
set_option maxHeartbeats 1000000 in
theorem AppendSeq_ok {w : World} {B : Nat} {a : Option Addr} {c : Nat} {l : List Nat} (h : NumIter w B a c l) (hl : l.length ≤ 4194304) :
    Calls Tryd.prog 110 #[.slice none 0 0, .func (.func 112) #[] #[.pointer (some ⟨B, 0, none⟩)]] w (seqPost w l) := by
  have hp1 : Pure w (w.alloc (.cells #[.slice none 0 0] 74)) := (Mod.refl _ w).alloc _
  have hit := h.keeps (KeepsIt.of_pure hp1)
  have HIT := Lib.hid hit
  have hItlt0 : ∀ k, numBlocks B a l.length c k → k < w.heap.size := by
    rintro k (rfl | h2)
    · exact lt_of_block h.box
    · exact owns_lt h.row h2
  have hI0 : SqInv w l [] (w.alloc (.cells #[.slice none 0 0] 74)) := ⟨hp1, none, 0, heap_new rfl, World.ownsRow_nil _ _ _ _, fun g hg => by cases hg⟩
  have hz1 : (w.alloc (.cells #[.slice none 0 0] 74)).heap.size = w.heap.size + 1 := by simp
  clear h hit hp1
  obtain ⟨i0, hi, iz0, iz1, iz2⟩ := info_parts info_n32
  have HLL := Lib.hid hl
  clear hl
  (refine (callsIn_wide (n := 0)).1 (callsIn_of_wp_marks Tryd.func110 rfl trivial (wpIn_wide.2 ?_) rfl); simp only [Tryd.ntmps110, List.size_toArray, List.length_cons, List.length_nil, Nat.reduceAdd, Nat.reduceSub, Array.replicate_succ, Array.replicate_zero, List.push_toArray, List.append_toArray, List.nil_append, List.cons_append])
  go_upto_region 1 with fail
  generalize w.alloc (.cells #[.slice none 0 0] 74) = W1 at *
  have HI0 := Lib.hid hI0; have HZ1 := Lib.hid hz1
  clear hI0 hz1
  have hItlt : ∀ k, numBlocks B a l.length c k → k < W1.heap.size := fun k hk => by have := hItlt0 k hk; have := HZ1.out; omega
  have HIL := Lib.hid hItlt0
  clear hItlt0
  generalize hItd : numBlocks B a l.length c = It at *
  go_wp2
  refine wpIn_wide.1 (wp_range2 (gf := 112) (lb := #[.pointer (some ⟨B, 0, none⟩)]) rfl (enters_of Tryd.func112 (by kernel_rfl) rfl) (It := It) (hItd ▸ Nums_iter HIT.out HLL.out) hItlt (fun _ => rfl)
    (fun pre W => SqInv w l pre W) (fun _ _ _ => False) ?hI ?hIx HI0.out ?round ?done ?stop)
  case hI => exact fun pre A B h hq => h.quiet (by have := HZ1.out; omega) hq
  case hIx => exact fun _ _ _ _ h _ => h
  case stop => exact fun _ _ _ _ _ h _ => h.elim
  case done =>
    rintro lb xs W hlb hS hI hK
    have hS' : xs = l := hS
    subst hS'
    obtain ⟨a2, c2, h1, h2, h3⟩ := hI.row
    have HI := Lib.hid hI; have H2 := Lib.hid h2; have H3 := Lib.hid h3
    have hq : Quiet W1.heap.size _ _ := Quiet.putObj (.deferred none) hlb hK rfl
    clear hI hS h2 h3 hItlt hItd
    obtain ⟨n, hn⟩ : ∃ n, xs.length = n := ⟨_, rfl⟩
    rw [hn] at h1
    have HN := Lib.hid hn
    clear hn
    have h1_0 := cell_of_row _ _ 0 _ _ _ h1; have h1_f := (fun j => frozen_of_row _ _ j _ _ h1); have h1_l := lt_of_block h1; simp at h1_0; have H_h1 := Lib.hid h1; clear h1
    go_wp2
    exact bodyPostM_drained (v := .slice a2 n c2) hK (by simp [results, Tryd.results110, go_sem]) ⟨a2, c2, by rw [HN.out], hq.owns H2.out, fun g hg => Nat.le_of_lt (H3.out g hg), hq.mod HI.out.pu (by have := HZ1.out; omega)⟩
  case round =>
    rintro lb pre x W K hI ⟨post, hpost⟩ hK
    dsimp only [encU]
    have hpl : pre.length < 4194304 := by have := HLL.out; rw [hpost] at this; simp at this; omega
    have HCI := Lib.hid hI; have HK := Lib.hid hK
    clear hI hK hItlt hpost hItd
    gi_wp2
    refine HK.out _ _ (Mod.refl _ _) (fun l' W2 hl2 hr2 hq2 => ?_)
    have hI2 := HCI.out.quiet (by have := HZ1.out; omega) hq2
    obtain ⟨a2, c2, h1, h2, h3⟩ := hI2.row
    have HI2 := Lib.hid hI2; have HR2 := Lib.hid h2; have HF2 := Lib.hid h3
    have HW2 : Hid (w.heap.size < W2.heap.size) := Lib.hid (lt_of_block h1)
    clear hI2 h2 h3 HK HCI
    obtain ⟨j, hj⟩ : ∃ j, pre.length = j := ⟨_, rfl⟩
    rw [hj] at h1 HF2 hpl
    have hrr : W2.ownsRow 0 29 1 (.slice a2 j c2) j (nums pre) := by rw [← hj]; exact HR2.out
    have HRR := Lib.hid hrr; have HJ := Lib.hid hj
    clear hrr hj
    obtain ⟨b2, hb2⟩ : ∃ b, w.heap.size = b := ⟨_, rfl⟩
    rw [hb2] at h1 HF2 HW2 HIL HZ1 ⊢
    have HB2 := Lib.hid hb2
    clear hb2
    have h1b := h1
    have H1 := Lib.hid h1b
    clear h1b
    have h1_0 := cell_of_row _ _ 0 _ _ _ h1; have h1_f := (fun j => frozen_of_row _ _ j _ _ h1); have h1_l := lt_of_block h1; simp at h1_0; have H_h1 := Lib.hid h1; clear h1
    gi_wp2_with (gi_at_builtin; refine wpListIn_append_read _ rfl _ _ 74 rfl 29 i0 (.int .u32 0) 1 4 Tryd.underlying74 hi iz0 iz1 iz2 rfl (by decide) (.slice a2 j c2) j _ rfl (owns_mod HRR.out ((Mod.refl (fun _ => False) W2).alloc _) (fun _ _ h => h)) _ [.int .u32 x] 1 rfl (ReadAt.of_block 1 1 1 (heap_new rfl) (by rfl) (by simp [Value.oneCell'])) rfl (by unfold maxLen; omega) (by omega) ?_; intro a7 c7 w5 hr7 hg7 hb7; have M7 := Lib.hid (Mod.heap (Mod.of_grown (S := fun k => (Value.slice a2 j c2).ownBlock = some k) hg7 (fun k e _ => e)) (fun e => by have := HF2.out _ e; omega) (heap_keep H1.out)); have m7 := cell_of_row w5 _ 0 _ _ _ M7.out; have fr7 := (fun j => frozen_of_row w5 _ j _ _ M7.out); have hlt5 := lt_of_block M7.out)
    have hM : Mod (fun k => (Value.slice a2 j c2).ownBlock = some k ∨ k = b2) W2 (w5.setCell ⟨b2, 0, none⟩ (.slice a7 (j + 1) c7)) :=
      (((Mod.refl _ W2).alloc (.cells #[.int .u32 x] 29)).then (Mod.of_grown (S := fun k => (Value.slice a2 j c2).ownBlock = some k) hg7 (fun k e _ => e)) (fun _ _ h => .inl h)).setCell (fun _ => .inr rfl) _
    have h7 : ∀ g, (Value.slice a7 (j + 1) c7).ownBlock = some g → b2 < g := fun g hg => by
      rcases hb7 with e | e
      · exact HF2.out g (e ▸ hg)
      · rw [e] at hg
        have hg2 : (W2.alloc (.cells #[.int .u32 x] 29)).heap.size = g := by injection hg
        have := HW2.out
        simp at hg2
        omega
    refine ⟨KeepsRec.of_mod hM (fun k _ h o ho => ?_), KeepsIt.of_mod hM (fun k hk h => ?_), ⟨HI2.out.pu.then hM (fun k hk h => ?_), a7, c7, ?_, ?_, ?_⟩⟩
    · rcases h with h | rfl
      · obtain ⟨cur, e⟩ := owns_type HRR.out h
        rw [e] at ho; cases ho; rfl
      · rw [H1.out] at ho; cases ho; rfl
    · have := HIL.out k hk
      rcases h with h | h
      · have := HF2.out k h; omega
      · omega
    · have := HB2.out
      rcases h with h | h
      · have := HF2.out k h; omega
      · omega
    · rw [HB2.out, List.length_append, HJ.out]
      simpa using heap_setCell_same w5 b2 0 _ _ (.slice a7 (j + 1) c7) M7.out
    · unfold NumRow
      rw [List.length_append, HJ.out, nums_append]
      exact owns_mod hr7 ((Mod.refl (fun k => k = b2) w5).setCell (fun _ => rfl) _) (fun g hg e => by have := h7 g hg; omega)
    · rw [HB2.out, List.length_append, HJ.out]
      exact h7
theorem Collect_ok {w : World} {B : Nat} {a : Option Addr} {c : Nat} {l : List Nat} (h : NumIter w B a c l) (hl : l.length ≤ 4194304) :
    Calls Tryd.prog 90 #[.func (.func 112) #[] #[.pointer (some ⟨B, 0, none⟩)]] w (seqPost w l) := by
  have HA := Lib.hid (AppendSeq_ok h hl)
  obtain ⟨n, hn⟩ : ∃ n, l.length = n := ⟨_, rfl⟩
  unfold seqPost at HA
  rw [hn] at HA
  have HN := Lib.hid hn
  clear h hl hn
  go_enter Tryd.func90, Tryd.ntmps90
  go_wp2_with (go_at_call 110; refine Calls.mono HA.out ?_; rintro e w1 ⟨a2, c2, rfl, h1, h2, h3⟩)
  go_ret
  exact ⟨a2, c2, by rw [HN.out]; rfl, h1, by rw [HN.out]; exact h2, h3⟩
end Go.Proofs.YtlalpenfgkfkpaaDoor

/- wheel: List, Take, Next from 0. Conditions: the level lies in memory, the table too. -/
namespace Go.Proofs.YtlalpenfgkfkpaaDoor
open Go.RowKit
set_option maxRecDepth 100000
theorem set_self {Ls : List (List Nat)} {b : Nat} {l : List Nat} (h : Ls[b]? = some l) : Ls.set b l = Ls := by
  refine List.ext_getElem? (fun j => ?_)
  by_cases e : b = j
  · subst e; rw [List.getElem?_set_self (List.getElem?_eq_some_iff.1 h).1, h]
  · rw [List.getElem?_set_ne e]
section
variable {w w' : World} {D : Nat → Prop} {p : Nat} {Ls : List (List Nat)}
theorem WhAt.small (h : WhAt w D p Ls) {b : Nat} {l : List Nat} (hl : Ls[b]? = some l) : l.length ≤ 4194304 ∧ (∀ s ∈ l, s < 4194304) ∧ b < 256 ∧ l.Nodup := by
  have hb : b < 256 := by have := (List.getElem?_eq_some_iff.1 hl).1; rw [h.len] at this; exact this
  obtain ⟨q, many, N, Dl, h1, ⟨gF, gL, cF, cL, F, m1, m2⟩, h3, h4⟩ := h
  have := m1.nm
  exact ⟨Nat.le_trans (m1.ok.short hl) this, fun s hs => by have := (m1.ok.own b l hl s hs).1; omega, hb, m1.ok.nodup b l hl⟩
theorem wlist_ok (h : WhAt w D p Ls) {b : Nat} {l : List Nat} (hl : Ls[b]? = some l) :
    Calls Tryd.prog 65 #[lkP p, .int .i64 b] w fun e w' => ∃ a c, e = .returned (.tuple #[.slice a l.length c, .int .i64 0]) ∧ NumRow w' a c l ∧ FreshV w (.slice a l.length c) ∧ Pure w w' := by
  obtain ⟨hll, _, hb, _⟩ := h.small hl
  have HCk := Lib.hid (wcheck_ok h (s := 0) (by omega) (b := (b : Int)) (by omega) (by omega))
  obtain ⟨q, many, N, Dl, h1, h2, h3, h4⟩ := h
  have HA := Lib.hid (lAll_ok h2 hl hll)
  have HC := Lib.hid (fun (W : World) B a c (hi : NumIter W B a c l) => Collect_ok hi hll)
  obtain ⟨n, hn⟩ : ∃ n, l.length = n := ⟨_, rfl⟩
  unfold seqPost at HC
  unfold lallPost at HA
  rw [hn] at HC
  obtain ⟨c0, _, _, _⟩ := wh_cells h1
  have HN := Lib.hid hn
  clear h1 h2 h3 h4 hl hn hll
  have b0 : (0 : Int) ≤ (b : Int) := by omega
  go_enter Tryd.func65, Tryd.ntmps65
  go_wp2_with (first
    | (go_at_call 88; refine Calls.mono HCk.out ?_; rintro e w' ⟨rfl, rfl⟩)
    | (go_at_call 91; refine Calls.mono HA.out ?_; rintro e w1 ⟨B, a, c, rfl, hi, hp1⟩; have HI1 := Lib.hid hi; have HP1 := Lib.hid hp1; clear hi hp1)
    | (go_at_call 90; refine Calls.mono (HC.out _ _ _ _ HI1.out) ?_; rintro e w2 ⟨a2, c2, rfl, q1, q2, q3⟩))
  go_ret2
  exact ⟨a2, c2, by rw [HN.out]; rfl, q1, fun g hg => by rw [HN.out] at hg; have := q2 g hg; have := HP1.out.size; omega, HP1.out.trans q3⟩
def nextE (f : Nat → Bool) : Value := match firstB f 256 with
  | some b => .tuple #[.int .i64 (b : Nat), .int .i64 0]
  | none => .tuple #[.int .i64 0, .int .i64 9]
theorem wnext_ok (h : WhAt w D p Ls) (hT : TabW w) : Calls Tryd.prog 64 #[lkP p, .int .i64 0] w fun e w' => e = .returned (nextE (neB Ls)) ∧ w = w' := by
  have HCk := Lib.hid (wcheck_ok h (s := 0) (by omega) (b := 0) (by omega) (by omega))
  obtain ⟨q, many, N, Dl, h1, h2, h3, h4⟩ := h
  have HNx := Lib.hid (mnext_ok h1 hT)
  clear h1 h2 h3 h4 hT
  unfold nextV at HNx
  unfold nextE
  cases hf : firstB (neB Ls) 256 with
  | none =>
    rw [hf] at HNx
    clear hf
    have HNx2 : Hid (Calls Tryd.prog 89 #[mkP p, .int .i64 0] w fun e w' => e = .returned (.tuple #[.int .i64 0, .bool false]) ∧ w = w') := HNx
    clear HNx
    go_enter Tryd.func64, Tryd.ntmps64
    go_wp2_with (first
      | (go_at_call 88; refine Calls.mono HCk.out ?_; rintro e w' ⟨rfl, rfl⟩)
      | (go_at_call 89; refine Calls.mono HNx2.out ?_; rintro e w' ⟨rfl, rfl⟩))
    go_ret2
    exact ⟨rfl, rfl⟩
  | some b =>
    rw [hf] at HNx
    clear hf
    have HNx2 : Hid (Calls Tryd.prog 89 #[mkP p, .int .i64 0] w fun e w' => e = .returned (.tuple #[.int .i64 (b : Nat), .bool true]) ∧ w = w') := HNx
    clear HNx
    go_enter Tryd.func64, Tryd.ntmps64
    go_wp2_with (first
      | (go_at_call 88; refine Calls.mono HCk.out ?_; rintro e w' ⟨rfl, rfl⟩)
      | (go_at_call 89; refine Calls.mono HNx2.out ?_; rintro e w' ⟨rfl, rfl⟩))
    go_ret2
    exact ⟨rfl, rfl⟩
set_option maxHeartbeats 1000000 in
/-- Take: the bucket is empty behind it. -/
theorem wtake_ok (h : WhAt w D p Ls) {b : Nat} {l : List Nat} (hl : Ls[b]? = some l) :
    Calls Tryd.prog 79 #[lkP p, .int .i64 b] w fun e w' => ∃ a c, e = .returned (.tuple #[.slice a l.length c, .int .i64 0]) ∧ NumRow w' a c l ∧ FreshV w (.slice a l.length c) ∧ WhAt w' D p (Ls.set b []) ∧ Mod D w w' := by
  obtain ⟨hll, hsm, hb, _⟩ := h.small hl
  have hbl : b < Ls.length := by rw [h.len]; exact hb
  have HLi := Lib.hid (wlist_ok h hl)
  have HW := Lib.hid h; have HSM := Lib.hid hsm; have HL := Lib.hid hl; have HBL := Lib.hid hbl
  obtain ⟨n, hn⟩ : ∃ n, l.length = n := ⟨_, rfl⟩
  rw [hn] at HLi hll
  have HN := Lib.hid hn
  clear h hl hsm hn hbl
  have b0 : (0 : Int) ≤ (b : Int) := by omega
  have wn : IntKind.i64.wrap (n : Int) = n := IntWalk.i64_in _ (by omega)
  go_enter Tryd.func79, Tryd.ntmps79
  go_upto_region 3 with (go_at_call 65; refine Calls.mono HLi.out ?_; rintro e w1 ⟨a, c, rfl, hr, hf, hp⟩)
  have HW1 := Lib.hid (HW.out.pure hp)
  have HND : Hid (∀ g, (Value.slice a n c).ownBlock = some g → ¬ D g) := Lib.hid (fun g hg e => by have := hf g hg; have := HW.out.lt e; omega)
  have HFr := Lib.hid hf; have HR := Lib.hid hr; have HP := Lib.hid hp
  clear hr hf hp
  go_loopw [18] (fun v wr => ∃ j, v = .int .i64 (j : Nat) ∧ j ≤ n ∧ WhAt wr D p (Ls.set b (l.drop j)) ∧ NumRow wr a c l ∧ Mod D w wr) (fun v _ => n - (intOf v).toNat)
  case atStart =>
    refine ⟨0, rfl, Nat.zero_le _, ?_, HR.out, Mod.of_pure HP.out⟩
    rw [List.drop_zero, set_self HL.out]
    exact HW1.out
  case round =>
    obtain ⟨j, rfl, hj, hw, hr, hm⟩ := hrel
    have HWr := Lib.hid hw; have HRr := Lib.hid hr; have HMr := Lib.hid hm
    by_cases hlt : j < n
    · have hlt' : (j : Int) < (n : Int) := by omega
      have j0 : (0 : Int) ≤ (j : Int) := by omega
      have wj : IntKind.i64.wrap ((j : Int) + 1) = (j : Int) + 1 := IntWalk.i64_in _ (by omega)
      obtain ⟨y, hy⟩ : ∃ y, l[j]? = some y := ⟨_, List.getElem?_eq_getElem (by rw [HN.out]; exact hlt)⟩
      have hdr : l.drop j = y :: l.drop (j + 1) := by
        have hjl : j < l.length := by rw [HN.out]; exact hlt
        rw [List.drop_eq_getElem_cons hjl]
        rw [List.getElem?_eq_getElem hjl] at hy
        injection hy with hy
        rw [hy]
      obtain ⟨ad, had, z0⟩ := read_num (num_read hr) hy
      have hRe := wrem_ok hw (s := y) (b := b) (l := l.drop j) (HSM.out y (List.mem_of_getElem? hy)) (List.getElem?_set_self HBL.out) (by rw [hdr]; exact List.mem_cons_self)
      rw [List.set_set, hdr, List.erase_cons_head] at hRe
      have HRe := Lib.hid hRe
      subst had
      clear hy hw hr hm hdr hRe
      go_wp2_with (go_at_call 62; refine Calls.mono HRe.out ?_; rintro e w5 ⟨rfl, q1, q2⟩)
      go_roundw
      case rel => exact ⟨j + 1, by go_num, hlt, q1, owns_mod HRr.out q2 (by rw [HN.out]; exact HND.out), HMr.out.trans q2⟩
      case measure => simp [intOf]; omega
    · have e : n = j := by omega
      subst e
      have HWe : Hid (WhAt wr D p (Ls.set b [])) := Lib.hid (by have := hw; rw [List.drop_of_length_le (by rw [HN.out]; exact Nat.le_refl _)] at this; exact this)
      clear hw hr hm hj hlt
      go_wp2
      go_ret2
      exact ⟨a, c, by rw [HN.out]; rfl, HRr.out, by rw [HN.out]; exact HFr.out, HWe.out, HMr.out⟩
end
end Go.Proofs.YtlalpenfgkfkpaaDoor

/- Maps of what is timed, and of births. No condition. -/
namespace Go.Proofs.YtlalpenfgkfkpaaDoor
open Go.RowKit Go.Maps
set_option maxRecDepth 100000
/-- What is timed: a slot, its deadline, its birth. -/
structure Td where
  slot : Nat
  dl : Nat
  birth : Nat
def tdV (x : Td) : Value := .agg #[.int .u32 x.slot, .int .u64 x.dl, .int .u64 x.birth]
def tdD (x : Td) : DataW Unit := .agg [.lit (.int .u32 x.slot), .lit (.int .u64 x.dl), .lit (.int .u64 x.birth)]
def tdElem (v : Value) : Option (DataW Unit × List MemPlace) := match v with
  | .agg cs => match cs.toList with
    | [.int .u32 a, .int .u64 b, .int .u64 c] => if 0 ≤ a ∧ 0 ≤ b ∧ 0 ≤ c then some (.agg [.lit (.int .u32 a), .lit (.int .u64 b), .lit (.int .u64 c)], []) else none
    | _ => none
  | _ => none
theorem tdElem_mk (x : Td) : tdElem (tdV x) = some (tdD x, []) := by
  unfold tdElem tdV tdD
  simp
theorem tdElem_inv {v : Value} {z : DataW Unit × List MemPlace} (h : tdElem v = some z) : ∃ x, v = tdV x ∧ z = (tdD x, []) := by
  unfold tdElem at h
  split at h
  · rename_i cs
    split at h
    · rename_i a b c e
      split at h
      · rename_i hp
        injection h with h
        refine ⟨⟨a.toNat, b.toNat, c.toNat⟩, ?_, ?_⟩
        · unfold tdV
          have : cs = #[.int .u32 a, .int .u64 b, .int .u64 c] := by apply Array.ext'; exact e
          rw [this]
          simp only [Int.toNat_of_nonneg hp.1, Int.toNat_of_nonneg hp.2.1, Int.toNat_of_nonneg hp.2.2]
        · rw [← h]
          unfold tdD
          simp only [Int.toNat_of_nonneg hp.1, Int.toNat_of_nonneg hp.2.1, Int.toNat_of_nonneg hp.2.2]
      · cases h
    · cases h
  · cases h
theorem tdD_inj {x y : Td} (h : tdD x = tdD y) : x = y := by
  unfold tdD at h
  injection h with h
  injection h with h1 h
  injection h with h2 h
  injection h with h3 h
  injection h1 with h1; injection h1 with _ h1
  injection h2 with h2; injection h2 with _ h2
  injection h3 with h3; injection h3 with _ h3
  cases x; cases y
  simp only at h1 h2 h3
  rw [Int.ofNat_inj.1 h1, Int.ofNat_inj.1 h2, Int.ofNat_inj.1 h3]
def kS (s : Nat) : Lit := .int .u32 s
def kB (s : Nat) : Lit := .int .u64 s
theorem kS_inj {a b : Nat} (h : kS a = kS b) : a = b := by unfold kS at h; injection h with _ h; exact Int.ofNat_inj.1 h
theorem kB_inj {a b : Nat} (h : kB a = kB b) : a = b := by unfold kB at h; injection h with _ h; exact Int.ofNat_inj.1 h
theorem kS_key (s : Nat) : WideAt.IsKeyLit (kS s) := trivial
theorem kB_key (s : Nat) : WideAt.IsKeyLit (kB s) := trivial
theorem kS_of {s : Nat} (h : s ≤ 4294967295) : keyOf Tryd.prog 29 (.int .u32 s) = some (kS s) := keyOf_int_mk Tryd.underlying29 (by simp [Lit.wf, IntKind.min, IntKind.max, IntKind.signed, IntKind.bits]; omega)
theorem kB_of {s : Nat} (h : s ≤ 18446744073709551615) : keyOf Tryd.prog 22 (.int .u64 s) = some (kB s) := keyOf_int_mk Tryd.underlying22 (by simp [Lit.wf, IntKind.min, IntKind.max, IntKind.signed, IntKind.bits]; omega)
theorem keyedS : Keyed Tryd.prog 29 := int_keyed Tryd.underlying29
theorem keyedB : Keyed Tryd.prog 22 := int_keyed Tryd.underlying22
theorem owns_tight {H : Type} {P : Program} {k : TypeId} {R : Value → Option (DataW H × List MemPlace)} {w : World} {b n : Nat} {D : DataW H} (h : w.ownsMap P k R b n D) : w.ownsMap P k R b (Maps.size D) D := by
  obtain ⟨es, clock, hb, F, _, rfl⟩ := h
  exact ⟨es, clock, hb, F, by simp [Maps.size, length_sorted], rfl⟩
theorem owns_mod_map {H : Type} {P : Program} {k : TypeId} {R : Value → Option (DataW H × List MemPlace)} {S : Nat → Prop} {w w' : World} {b n : Nat} {D : DataW H} (h : w.ownsMap P k R b n D) (hm : Mod S w w') (hb : ¬ S b) : w'.ownsMap P k R b n D := by
  obtain ⟨es, clock, h1, h2⟩ := h
  exact ⟨es, clock, hm.heap hb h1, h2⟩
/-- Block b maps the slots of M to what is timed. -/
structure TMap (w : World) (b : Nat) (M : List Td) (D : DataW Unit) : Prop where
  own : w.ownsMap Tryd.prog 29 tdElem b M.length D
  at_ : ∀ x ∈ M, ∀ zd, D.atKey (kS x.slot) zd = tdD x
  has : ∀ s, Maps.has D (kS s) = true → ∃ x ∈ M, x.slot = s
  size : Maps.size D = M.length
/-- Block b holds the births of M. -/
structure BMap (w : World) (b : Nat) (M : List Td) (D : DataW Unit) : Prop where
  own : w.ownsMap Tryd.prog 22 unitElem b M.length D
  has : ∀ s, Maps.has D (kB s) = true ↔ ∃ x ∈ M, x.birth = s
  size : Maps.size D = M.length
section
variable {w w' : World} {b : Nat} {M : List Td} {D : DataW Unit} {S : Nat → Prop}
theorem TMap.mod (h : TMap w b M D) (hm : Mod S w w') (hb : ¬ S b) : TMap w' b M D := ⟨owns_mod_map h.own hm hb, h.at_, h.has, h.size⟩
theorem BMap.mod (h : BMap w b M D) (hm : Mod S w w') (hb : ¬ S b) : BMap w' b M D := ⟨owns_mod_map h.own hm hb, h.has, h.size⟩
theorem TMap.new (w : World) : TMap (w.alloc (.map #[] 0)) w.heap.size [] (.map []) := ⟨World.ownsMap_made _ _ _ _, (fun _ h => by cases h), (fun s h => by cases h), rfl⟩
theorem BMap.new (w : World) : BMap (w.alloc (.map #[] 0)) w.heap.size [] (.map []) := ⟨World.ownsMap_made _ _ _ _, (fun s => ⟨(fun h => by cases h), (fun ⟨x, hx, _⟩ => by cases hx)⟩), rfl⟩
theorem TMap.has_mem (h : TMap w b M D) {x : Td} (hx : x ∈ M) : Maps.has D (kS x.slot) = true := Maps.has_true_of_atKey (h.at_ x hx)
theorem TMap.not_has (h : TMap w b M D) {s : Nat} (hs : ∀ x ∈ M, x.slot ≠ s) : Maps.has D (kS s) = false := by
  cases hh : Maps.has D (kS s) with
  | false => rfl
  | true => obtain ⟨x, hx, e⟩ := h.has s hh; exact absurd e (hs x hx)
theorem zeroTd (w : World) : (zeroValue 31).run Tryd.prog w = .ok (tdV ⟨0, 0, 0⟩) w := by kernel_rfl
/-- v, ok := what[s]. -/
theorem TMap.look (h : TMap w b M D) {x : Td} (hx : x ∈ M) (hs : x.slot ≤ 4294967295) : (Instr.lookup 54 (.map (some b)) (.int .u32 x.slot) true).run Tryd.prog w = .ok (.tuple #[tdV x, .bool true]) w := by
  obtain ⟨v, ps, hrun, hv⟩ := h.own.look_ok keyedS Tryd.underlying54 (zeroTd w) (tdElem_mk _) (kS_of hs)
  rw [h.at_ x hx] at hv
  obtain ⟨y, rfl, e⟩ := tdElem_inv hv
  have := tdD_inj (congrArg Prod.fst e)
  subst this
  rw [hrun, h.has_mem hx]
theorem TMap.look_no (h : TMap w b M D) {s : Nat} (hs : s ≤ 4294967295) (hn : ∀ x ∈ M, x.slot ≠ s) : (Instr.lookup 54 (.map (some b)) (.int .u32 s) true).run Tryd.prog w = .ok (.tuple #[tdV ⟨0, 0, 0⟩, .bool false]) w := by
  obtain ⟨v, ps, hrun, hv⟩ := h.own.look_ok keyedS Tryd.underlying54 (zeroTd w) (tdElem_mk _) (kS_of hs)
  have h0 := h.not_has hn
  rw [Maps.atKey_of_not_has h0] at hv
  obtain ⟨y, rfl, e⟩ := tdElem_inv hv
  have := tdD_inj (congrArg Prod.fst e)
  subst this
  rw [hrun, h0]
theorem TMap.look1 (h : TMap w b M D) {x : Td} (hx : x ∈ M) (hs : x.slot ≤ 4294967295) : (Instr.lookup 54 (.map (some b)) (.int .u32 x.slot) false).run Tryd.prog w = .ok (tdV x) w := by
  obtain ⟨v, ps, hrun, hv⟩ := h.own.lookup keyedS Tryd.underlying54 (zeroTd w) (tdElem_mk _) (kS_of hs)
  rw [h.at_ x hx] at hv
  obtain ⟨y, rfl, e⟩ := tdElem_inv hv
  have := tdD_inj (congrArg Prod.fst e)
  subst this
  exact hrun
theorem BMap.look (h : BMap w b M D) {s : Nat} (hs : s ≤ 18446744073709551615) : (Instr.lookup 55 (.map (some b)) (.int .u64 s) true).run Tryd.prog w = .ok (.tuple #[.agg #[], .bool (Maps.has D (kB s))]) w := by
  obtain ⟨v, ps, hrun, hv⟩ := h.own.look_ok keyedB Tryd.underlying55 (z := .agg #[]) (by kernel_rfl) (unitElem_mk) (kB_of hs)
  obtain ⟨rfl, _⟩ := unitElem_inv hv
  exact hrun
/-- what[x.slot] = x, where the slot is not there. -/
theorem TMap.put {x : Td} (h : TMap w b M D) (hn : ∀ y ∈ M, y.slot ≠ x.slot) (ho : w'.ownsMap Tryd.prog 29 tdElem b (M.length + 1) (D.put (kS x.slot) (tdD x))) : TMap w' b (x :: M) (D.put (kS x.slot) (tdD x)) := by
  have hm := h.own.isMap
  refine ⟨ho, fun y hy zd => ?_, fun s hs => ?_, ?_⟩
  · rcases List.mem_cons.1 hy with rfl | hy
    · exact atKey_put_same hm (kS_key _) _ _
    · rw [atKey_put_other (fun e => hn y hy (kS_inj e))]
      exact h.at_ y hy zd
  · by_cases e : s = x.slot
    · exact ⟨x, List.mem_cons_self, e.symm⟩
    · rw [has_put_other (fun c => e (kS_inj c))] at hs
      obtain ⟨y, hy, e2⟩ := h.has s hs
      exact ⟨y, List.mem_cons_of_mem _ hy, e2⟩
  · rw [Maps.size_put (h.own.tidy keyedS), h.not_has hn, h.size]; rfl
/-- .. where just that is there. -/
theorem TMap.again {x : Td} (h : TMap w b M D) (hx : x ∈ M) (hu : ∀ y ∈ M, y.slot = x.slot → y = x) (ho : w'.ownsMap Tryd.prog 29 tdElem b (M.length + 1) (D.put (kS x.slot) (tdD x))) : TMap w' b M (D.put (kS x.slot) (tdD x)) := by
  have hm := h.own.isMap
  have hsz : Maps.size (D.put (kS x.slot) (tdD x)) = M.length := by rw [Maps.size_put (h.own.tidy keyedS), h.has_mem hx, h.size]; rfl
  refine ⟨by have := owns_tight ho; rw [hsz] at this; exact this, fun y hy zd => ?_, fun s hs => ?_, hsz⟩
  · by_cases e : y.slot = x.slot
    · rw [hu y hy e, atKey_put_same hm (kS_key _)]
    · rw [atKey_put_other (fun c => e (kS_inj c))]
      exact h.at_ y hy zd
  · by_cases e : s = x.slot
    · exact ⟨x, hx, e.symm⟩
    · rw [has_put_other (fun c => e (kS_inj c))] at hs
      exact h.has s hs
/-- delete(what, x.slot). -/
theorem TMap.del {x : Td} {M' : List Td} (h : TMap w b M D) (hx : x ∈ M) (hM : ∀ y, y ∈ M' ↔ y ∈ M ∧ y.slot ≠ x.slot) (hl : M'.length + 1 = M.length) {n : Nat} (ho : w'.ownsMap Tryd.prog 29 tdElem b n (D.del (kS x.slot))) : TMap w' b M' (D.del (kS x.slot)) := by
  have hsz : Maps.size (D.del (kS x.slot)) = M'.length := by
    have := Maps.size_del (k := kS x.slot) (h.own.tidy keyedS)
    rw [h.has_mem hx, h.size] at this
    simp at this
    omega
  refine ⟨by have := owns_tight ho; rw [hsz] at this; exact this, fun y hy zd => ?_, fun s hs => ?_, hsz⟩
  · obtain ⟨h1, h2⟩ := (hM y).1 hy
    rw [atKey_del_other (fun c => h2 (kS_inj c))]
    exact h.at_ y h1 zd
  · by_cases e : s = x.slot
    · subst e
      rw [has_del_same] at hs
      cases hs
    · rw [has_del_other (fun c => e (kS_inj c))] at hs
      obtain ⟨y, hy, e2⟩ := h.has s hs
      exact ⟨y, (hM y).2 ⟨hy, fun c => e (by rw [← e2, c])⟩, e2⟩
theorem BMap.put {x : Td} (h : BMap w b M D) (hn : ∀ y ∈ M, y.birth ≠ x.birth) (ho : w'.ownsMap Tryd.prog 22 unitElem b (M.length + 1) (D.put (kB x.birth) (.agg []))) : BMap w' b (x :: M) (D.put (kB x.birth) (.agg [])) := by
  have hm := h.own.isMap
  have h0 : Maps.has D (kB x.birth) = false := by
    cases hh : Maps.has D (kB x.birth) with
    | false => rfl
    | true => obtain ⟨y, hy, e⟩ := (h.has _).1 hh; exact absurd e (hn y hy)
  refine ⟨ho, fun s => ?_, ?_⟩
  · by_cases e : s = x.birth
    · subst e
      exact ⟨fun _ => ⟨x, List.mem_cons_self, rfl⟩, fun _ => has_put_same hm (kB_key _) _⟩
    · rw [has_put_other (fun c => e (kB_inj c)), h.has]
      constructor
      · rintro ⟨y, hy, e2⟩; exact ⟨y, List.mem_cons_of_mem _ hy, e2⟩
      · rintro ⟨y, hy, e2⟩
        rcases List.mem_cons.1 hy with rfl | hy
        · exact absurd e2.symm e
        · exact ⟨y, hy, e2⟩
  · rw [Maps.size_put (h.own.tidy keyedB), h0, h.size]; rfl
theorem BMap.again {x : Td} (h : BMap w b M D) (hx : x ∈ M) (ho : w'.ownsMap Tryd.prog 22 unitElem b (M.length + 1) (D.put (kB x.birth) (.agg []))) : BMap w' b M (D.put (kB x.birth) (.agg [])) := by
  have hm := h.own.isMap
  have h0 : Maps.has D (kB x.birth) = true := (h.has _).2 ⟨x, hx, rfl⟩
  have hsz : Maps.size (D.put (kB x.birth) (.agg [])) = M.length := by rw [Maps.size_put (h.own.tidy keyedB), h0, h.size]; rfl
  refine ⟨by have := owns_tight ho; rw [hsz] at this; exact this, fun s => ?_, hsz⟩
  by_cases e : s = x.birth
  · subst e
    exact ⟨fun _ => ⟨x, hx, rfl⟩, fun _ => has_put_same hm (kB_key _) _⟩
  · rw [has_put_other (fun c => e (kB_inj c)), h.has]
theorem BMap.del {x : Td} {M' : List Td} (h : BMap w b M D) (hx : x ∈ M) (hM : ∀ y, y ∈ M' ↔ y ∈ M ∧ y.birth ≠ x.birth) (hl : M'.length + 1 = M.length) {n : Nat} (ho : w'.ownsMap Tryd.prog 22 unitElem b n (D.del (kB x.birth))) : BMap w' b M' (D.del (kB x.birth)) := by
  have h0 : Maps.has D (kB x.birth) = true := (h.has _).2 ⟨x, hx, rfl⟩
  have hsz : Maps.size (D.del (kB x.birth)) = M'.length := by
    have := Maps.size_del (k := kB x.birth) (h.own.tidy keyedB)
    rw [h0, h.size] at this
    simp at this
    omega
  refine ⟨by have := owns_tight ho; rw [hsz] at this; exact this, fun s => ?_, hsz⟩
  by_cases e : s = x.birth
  · subst e
    rw [has_del_same]
    exact ⟨fun c => (by cases c), fun ⟨y, hy, e2⟩ => absurd e2 ((hM y).1 hy).2⟩
  · rw [has_del_other (fun c => e (kB_inj c)), h.has]
    constructor
    · rintro ⟨y, hy, e2⟩; exact ⟨y, (hM y).2 ⟨hy, fun c => e (by rw [← e2, c])⟩, e2⟩
    · rintro ⟨y, hy, e2⟩; exact ⟨y, ((hM y).1 hy).1, e2⟩
end
end Go.Proofs.YtlalpenfgkfkpaaDoor
