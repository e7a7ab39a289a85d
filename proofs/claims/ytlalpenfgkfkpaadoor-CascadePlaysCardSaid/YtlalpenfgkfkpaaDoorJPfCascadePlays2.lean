/- Lemmas and contracts of functions, strung together out of 5 texts. No condition. -/
import Derived.Test.YtlalpenfgkfkpaaDoorJPfCascadePlays1
import Derived.RegionTactic
import Derived.Shelf.Spec.TrailingZeros
import Derived.Test.YtlalpenfgkfkpaaDoorRows
import Derived.Lib.LaidU8
import Derived.LaidHandle
import Derived.LaidMore
import Derived.Lay
import Derived.Stop.Joined
import Derived.Test.YtlalpenfgkfkpaaDoorProg
import Derived.ProofKit
import Derived.OpenShut
import Derived.Below
import Derived.ChangeSame
/- links: put. Conditions: the field lies in memory. -/
namespace Go.Proofs.YtlalpenfgkfkpaaDoor
open Go.RowKit
set_option maxRecDepth 100000
theorem fld_set {w : World} {gF : Nat} {F : List Nd} {T : TypeId} (h : w.heap[gF]? = some (.cells (fldC F).toArray T (0, 0))) {i j : Nat} {u : Value} {m : Nd} (hi : i < F.length) (hj : j < 3) (he : (ndC (nd F i)).set j u = ndC m) :
    (w.setCell ⟨gF, i * 3 + j, none⟩ u).heap[gF]? = some (.cells (fldC (F.set i m)).toArray T (0, 0)) := by
  rw [heap_setCell_same w gF _ _ T u h]
  congr 2
  rw [List.setIfInBounds_toArray, fldC_set hi hj he]
theorem nd_self {F : List Nd} {i : Nat} (hi : i < F.length) (m : Nd) : nd (F.set i m) i = m := by rw [nd_set hi, if_pos rfl]
/-- A whole node is stored. -/
theorem fld_put {w : World} {gF : Nat} {F : List Nd} {T : TypeId} (h : w.heap[gF]? = some (.cells (fldC F).toArray T (0, 0))) {i : Nat} (hi : i < F.length) (a b c : Nat) :
    (((w.setCell ⟨gF, i * 3, none⟩ (.int .u32 a)).setCell ⟨gF, i * 3 + 1, none⟩ (.int .u32 b)).setCell ⟨gF, i * 3 + 2, none⟩ (.int .u32 c)).heap[gF]? = some (.cells (fldC (F.set i ⟨a, b, c⟩)).toArray T (0, 0)) := by
  have h1 := fld_set h (j := 0) (u := .int .u32 a) (m := ⟨a, (nd F i).nx, (nd F i).ow⟩) hi (by decide) rfl
  have h2 := fld_set h1 (i := i) (j := 1) (u := .int .u32 b) (m := ⟨a, b, (nd F i).ow⟩) (by simpa using hi) (by decide) (by rw [nd_self hi]; rfl)
  have h3 := fld_set h2 (i := i) (j := 2) (u := .int .u32 c) (m := ⟨a, b, c⟩) (by simpa using hi) (by decide) (by rw [nd_self (by simpa using hi)]; rfl)
  simpa using h3
theorem cell_set {X : World} {b o b2 o2 : Nat} {u v : Value} (h : X.cell? ⟨b, o, none⟩ = some v) (hne : b2 ≠ b ∨ o2 ≠ o) : (X.setCell ⟨b2, o2, none⟩ u).cell? ⟨b, o, none⟩ = some v := by
  rw [World.cell?_setCell_other (h := fun e => by injection e with e1 e2; rcases hne with h | h <;> contradiction)]; exact h
theorem fldC_at {w : World} {gF : Nat} {F : List Nd} {T : TypeId} (h : w.heap[gF]? = some (.cells (fldC F).toArray T (0, 0))) {i : Nat} (hi : i < F.length) :
    w.cell? ⟨gF, i * 3, none⟩ = some (.int .u32 (nd F i).pv) ∧ w.cell? ⟨gF, i * 3 + 1, none⟩ = some (.int .u32 (nd F i).nx) ∧ w.cell? ⟨gF, i * 3 + 2, none⟩ = some (.int .u32 (nd F i).ow) := by
  have g := fun j => cell_of_row w gF j _ _ (0, 0) h
  refine ⟨?_, ?_, ?_⟩
  · rw [g, List.getElem?_toArray]; exact fldC_get hi (j := 0) rfl
  · rw [g, List.getElem?_toArray]; exact fldC_get hi (j := 1) rfl
  · rw [g, List.getElem?_toArray]; exact fldC_get hi (j := 2) rfl
/-- Both neighbours are turned to the node. -/
theorem fld_put2 {w : World} {gF : Nat} {F : List Nd} {T : TypeId} {n o b kk : Nat} (hb : (nd F o).pv = b) (hk : (nd F o).ow = kk) (h : w.heap[gF]? = some (.cells (fldC (F.set n ⟨b, o, kk⟩)).toArray T (0, 0))) (hbF : b < F.length) (hoF : o < F.length) :
    ((w.setCell ⟨gF, b * 3 + 1, none⟩ (.int .u32 n)).setCell ⟨gF, o * 3, none⟩ (.int .u32 n)).heap[gF]? = some (.cells (fldC (putF F n o)).toArray T (0, 0)) := by
  subst hb hk
  have h1 := fld_set h (i := (nd F o).pv) (j := 1) (u := .int .u32 n) (m := ⟨(nd (F.set n ⟨(nd F o).pv, o, (nd F o).ow⟩) (nd F o).pv).pv, n, (nd (F.set n ⟨(nd F o).pv, o, (nd F o).ow⟩) (nd F o).pv).ow⟩) (by simpa using hbF) (by decide) rfl
  exact fld_set h1 (i := o) (j := 0) (u := .int .u32 n) (by simpa using hoF) (by decide) rfl
section
variable {w w' : World} {p gF gL cF cL N : Nat} {Ls : List (List Nat)} {F : List Nd}
set_option maxHeartbeats 1000000 in
theorem lput_ok (h : LkMem w p gF gL cF cL N Ls F) {n o k : Nat} (hn : n < N) (ho : o < F.length) (how : (nd F o).ow = k + 1) (hb : (nd F o).pv < F.length) (hbn : (nd F o).pv ≠ n) (hon : o ≠ n) {l : List Nat} (hl : Ls[k]? = some l) :
    Calls Tryd.prog 123 #[lkP p, .int .u32 n, .int .u32 o] w fun e w' => e = .returned (.tuple #[]) ∧ w'.heap[gF]? = some (.cells (fldC (putF F n o)).toArray 156 (0, 0)) ∧ w'.heap[gL]? = some (.cells ((lensC Ls).set k (.int .i64 ((l.length + 1 : Nat) : Int))).toArray 3 (0, 0)) ∧ Mod (fun b => b = gF ∨ b = gL) w w' := by
  have hbx := h.box
  have hF : F.length ≤ 4198400 := by rw [h.ok.len]; have := h.nm; have := h.hm; omega
  have hnF : n < F.length := by rw [h.ok.len]; omega
  obtain ⟨c0, c1, c2⟩ := h.at_ ho
  rw [how] at c2
  obtain ⟨q0, q1, q2⟩ := h.at_ hnF
  obtain ⟨f1, f2, f3⟩ := h.free
  obtain ⟨ne1, ne2, ne3⟩ := h.ne
  have HFL := Lib.hid h.fld; have HLN := Lib.hid h.len
  have hk2 : k < Ls.length := (List.getElem?_eq_some_iff.1 hl).1
  have hkb : k < 4096 := by have := h.hm; omega
  have HNX := Lib.hid (fun (X : World) (hX : X.heap[gL]? = some (.cells (lensC Ls).toArray 3 (0, 0))) => (show X.cell? ⟨gL, k, none⟩ = some (.int .i64 (l.length : Nat)) by rw [cell_of_row X gL k _ _ (0, 0) hX, List.getElem?_toArray]; exact lensC_get hl))
  have hll : l.length ≤ N := h.ok.short hl
  have hN := h.nm
  obtain ⟨b, hbe⟩ : ∃ b, (nd F o).pv = b := ⟨_, rfl⟩
  rw [hbe] at c0 hb hbn
  obtain ⟨FL, hFL⟩ : ∃ FL, F.length = FL := ⟨_, rfl⟩
  rw [hFL] at hbx hF hnF hb ho
  have HBX := Lib.hid hbx
  clear h hbx
  have hbx := HBX.out
  have dn : decide (n < FL) = true := decide_eq_true hnF
  have do' : decide (o < FL) = true := decide_eq_true ho
  have db : decide (b < FL) = true := decide_eq_true hb
  have HBE := Lib.hid hbe; have HFLe := Lib.hid hFL; have HOW := Lib.hid how
  clear hbe hFL how
  have hbx_0 := cell_of_row _ _ 0 _ _ _ hbx; have hbx_1 := cell_of_row _ _ 1 _ _ _ hbx; have hbx_2 := cell_of_row _ _ 2 _ _ _ hbx; have hbx_f := (fun j => frozen_of_row _ _ j _ _ hbx); have hbx_l := lt_of_block hbx; simp at hbx_0 hbx_1 hbx_2; have H_hbx := Lib.hid hbx; clear hbx
  have g0 := f1 (n * 3); have g1 := f1 (n * 3 + 1); have g2 := f1 (n * 3 + 2)
  obtain ⟨kk, hkk⟩ : ∃ kk, k + 1 = kk := ⟨_, rfl⟩
  rw [hkk] at c2 HOW
  have wk : IntKind.u32.wrap ((kk : Int) - 1) = (k : Int) := by rw [← hkk, show ((k + 1 : Nat) : Int) - 1 = (k : Int) by omega]; exact u32_of k (by omega)
  clear hkk
  go_enter Tryd.func123, Tryd.ntmps123
  go_upto_region 1 with fail
  go_region_held3 (fun w' => w'.cell? ⟨p, 0, none⟩ = some (.slice (some ⟨gF, 0, none⟩) FL cF) ∧ w'.cell? ⟨gF, o * 3 + 2, none⟩ = some (.int .u32 kk))
    (first | exact ⟨hbx_0, c2⟩ | exact ⟨cell_set (cell_set (cell_set hbx_0 (.inl ne1.symm)) (.inl ne1.symm)) (.inl ne1.symm), cell_set (cell_set (cell_set c2 (.inr (by omega))) (.inr (by omega))) (.inr (by omega))⟩) (fail)
  have hm1 : Mod (fun b => b = gF) w (((w.setCell ⟨gF, n * 3, none⟩ (.int .u32 b)).setCell ⟨gF, n * 3 + 1, none⟩ (.int .u32 o)).setCell ⟨gF, n * 3 + 2, none⟩ (.int .u32 kk)).drew :=
    ((((Mod.refl (fun b => b = gF) w).setCell (p := ⟨gF, n * 3, none⟩) (fun _ => rfl) _).setCell (p := ⟨gF, n * 3 + 1, none⟩) (fun _ => rfl) _).setCell (p := ⟨gF, n * 3 + 2, none⟩) (fun _ => rfl) _).drew
  have hf1 : (((w.setCell ⟨gF, n * 3, none⟩ (.int .u32 b)).setCell ⟨gF, n * 3 + 1, none⟩ (.int .u32 o)).setCell ⟨gF, n * 3 + 2, none⟩ (.int .u32 kk)).drew.heap[gF]? = _ := fld_put HFL.out (i := n) (by rw [HFLe.out]; exact hnF) b o kk
  generalize (((w.setCell ⟨gF, n * 3, none⟩ (.int .u32 b)).setCell ⟨gF, n * 3 + 1, none⟩ (.int .u32 o)).setCell ⟨gF, n * 3 + 2, none⟩ (.int .u32 kk)).drew = X1 at hm1 hf1 ⊢
  have hbx1 := hm1.heap (fun e => ne1 e) HBX.out
  have hln1 := hm1.heap (fun e => ne3 e.symm) HLN.out
  clear hbx_0 hbx_1 hbx_2 hbx_f hbx_l
  clear H_hbx c0 c1 c2 q0 q1 q2 f1 f2 f3 g0 g1 g2
  have HF1 := Lib.hid hf1; have HL1 := Lib.hid hln1; have HM1 := Lib.hid hm1; have HB1 := Lib.hid hbx1
  obtain ⟨r0, r1, r2⟩ := fldC_at hf1 (i := b) (by simp; rw [HFLe.out]; exact hb)
  obtain ⟨s0, s1, s2⟩ := fldC_at hf1 (i := o) (by simp; rw [HFLe.out]; exact ho)
  have g0 := frozen_of_row X1 gF (b * 3 + 1) _ _ hf1
  have g1 := frozen_of_row X1 gF (o * 3) _ _ hf1
  have hX : gF < X1.heap.size := lt_of_block hf1
  clear hf1 hln1 hm1
  have hbx1_0 := cell_of_row _ _ 0 _ _ _ hbx1; have hbx1_1 := cell_of_row _ _ 1 _ _ _ hbx1; have hbx1_2 := cell_of_row _ _ 2 _ _ _ hbx1; have hbx1_f := (fun j => frozen_of_row _ _ j _ _ hbx1); have hbx1_l := lt_of_block hbx1; simp at hbx1_0 hbx1_1 hbx1_2; have H_hbx1 := Lib.hid hbx1; clear hbx1
  go_upto_region 2 with fail
  go_region_held3 (fun w' => w'.cell? ⟨p, 0, none⟩ = some (.slice (some ⟨gF, 0, none⟩) FL cF))
    (first | exact hbx1_0 | exact cell_set hbx1_0 (.inl ne1.symm) | exact cell_set (cell_set hbx1_0 (.inl ne1.symm)) (.inl ne1.symm)) (fail)
  have hm2 : Mod (fun b => b = gF) X1 ((X1.setCell ⟨gF, b * 3 + 1, none⟩ (.int .u32 n)).setCell ⟨gF, o * 3, none⟩ (.int .u32 n)).drew :=
    (((Mod.refl (fun b => b = gF) X1).setCell (p := ⟨gF, b * 3 + 1, none⟩) (fun _ => rfl) _).setCell (p := ⟨gF, o * 3, none⟩) (fun _ => rfl) _).drew
  have hf2 : ((X1.setCell ⟨gF, b * 3 + 1, none⟩ (.int .u32 n)).setCell ⟨gF, o * 3, none⟩ (.int .u32 n)).drew.heap[gF]? = _ := fld_put2 HBE.out HOW.out HF1.out (by rw [HFLe.out]; exact hb) (by rw [HFLe.out]; exact ho)
  generalize ((X1.setCell ⟨gF, b * 3 + 1, none⟩ (.int .u32 n)).setCell ⟨gF, o * 3, none⟩ (.int .u32 n)).drew = X2 at hm2 hf2 ⊢
  have hbx2 := hm2.heap (fun e => ne1 e) HB1.out
  have hln2 := hm2.heap (fun e => ne3 e.symm) HL1.out
  have hl9 := HNX.out _ hln2
  have hput := (putF_nd (F := F) (n := n) (o := o) (by rw [HFLe.out]; exact hnF) (by rw [HFLe.out]; exact ho) (by rw [HBE.out, HFLe.out]; exact hb) (by rw [HBE.out]; exact hbn) hon n).2.2
  rw [if_pos rfl, HOW.out] at hput
  obtain ⟨q0, q1, q2⟩ := fldC_at hf2 (i := n) (by rw [putF_length, HFLe.out]; exact hnF)
  rw [hput] at q2
  clear hbx1_0 hbx1_1 hbx1_2 hbx1_f hbx1_l
  clear H_hbx1 r0 r1 r2 s0 s1 s2 g0 g1 hput q0 q1 hX
  have g0 := frozen_of_row X2 gL k _ _ hln2
  have HM := Lib.hid ((HM1.out.trans hm2).mono (fun _ _ h => Or.inl h) : Mod (fun b => b = gF ∨ b = gL) w X2)
  have HF2 := Lib.hid hf2; have HL2 := Lib.hid hln2
  have hX2 : gL < X2.heap.size := lt_of_block hln2
  clear hm2 hf2 hln2
  have dk : decide (k < Ls.length) = true := decide_eq_true hk2
  have wl : IntKind.i64.wrap ((l.length : Int) + 1) = (l.length : Int) + 1 := IntWalk.i64_in _ (by omega)
  have hbx2_0 := cell_of_row _ _ 0 _ _ _ hbx2; have hbx2_1 := cell_of_row _ _ 1 _ _ _ hbx2; have hbx2_2 := cell_of_row _ _ 2 _ _ _ hbx2; have hbx2_f := (fun j => frozen_of_row _ _ j _ _ hbx2); have hbx2_l := lt_of_block hbx2; simp at hbx2_0 hbx2_1 hbx2_2; have H_hbx2 := Lib.hid hbx2; clear hbx2
  go_upto_region 3 with fail
  go_still_tail 17, (by kernel_rfl)
  go_wp2
  have e1 : (X2.setCell ⟨gL, k, none⟩ (.int .i64 ((l.length : Int) + 1))).heap[gF]? = _ := heap_set_other HF2.out ne3
  have e2 : (X2.setCell ⟨gL, k, none⟩ (.int .i64 ((l.length : Int) + 1))).heap[gL]? = _ := heap_setCell_same X2 gL k _ _ (.int .i64 ((l.length : Int) + 1)) HL2.out
  rw [List.setIfInBounds_toArray] at e2
  have e3 := HM.out.setCell (p := ⟨gL, k, none⟩) (fun _ => .inr rfl) (.int .i64 ((l.length : Int) + 1))
  go_end0
  exact ⟨rfl, e1, e2, e3.drew⟩
end
end Go.Proofs.YtlalpenfgkfkpaaDoor

/- wheel: marks.set, clear. Conditions: the words lie in memory. -/
namespace Go.Proofs.YtlalpenfgkfkpaaDoor
open Go.RowKit
set_option maxRecDepth 100000
abbrev mkP (p : Nat) : Value := .pointer (some ⟨p, 1, none⟩)
/-- What a wheel's box holds. -/
def whC (q : Nat) (f : Nat → Bool) (many : Int) : Array Value := #[.pointer (some ⟨q, 0, none⟩), .int .u64 (wd64 f 0 : Nat), .int .u64 (wd64 f 1 : Nat), .int .u64 (wd64 f 2 : Nat), .int .u64 (wd64 f 3 : Nat), .int .i64 many]
theorem whC_get {q : Nat} {f : Nat → Bool} {many : Int} {k : Nat} (hk : k < 4) : (whC q f many)[1 + k]? = some (.int .u64 (wd64 f k : Nat)) := by
  have arr : ∀ (a x0 x1 x2 x3 z : Value), (#[a, x0, x1, x2, x3, z] : Array Value)[1 + 0]? = some x0 ∧ (#[a, x0, x1, x2, x3, z] : Array Value)[1 + 1]? = some x1 ∧ (#[a, x0, x1, x2, x3, z] : Array Value)[1 + 2]? = some x2 ∧ (#[a, x0, x1, x2, x3, z] : Array Value)[1 + 3]? = some x3 := fun _ _ _ _ _ _ => ⟨rfl, rfl, rfl, rfl⟩
  have : k = 0 ∨ k = 1 ∨ k = 2 ∨ k = 3 := by omega
  unfold whC
  rcases this with rfl | rfl | rfl | rfl
  · exact (arr _ _ _ _ _ _).1
  · exact (arr _ _ _ _ _ _).2.1
  · exact (arr _ _ _ _ _ _).2.2.1
  · exact (arr _ _ _ _ _ _).2.2.2
theorem whC_set {q : Nat} {f : Nat → Bool} {many : Int} {b : Nat} {v : Bool} {x : Nat} (hb : b < 256) (hx : x = wd64 (setB f b v) (b / 64)) : (whC q f many).setIfInBounds (1 + b / 64) (.int .u64 (x : Nat)) = whC q (setB f b v) many := by
  rw [hx]
  clear hx
  have h := fun k (hk : k ≠ b / 64) => wd_other (f := f) (b := b) (v := v) hk
  have : b / 64 = 0 ∨ b / 64 = 1 ∨ b / 64 = 2 ∨ b / 64 = 3 := by omega
  have arr : ∀ (a x0 x1 x2 x3 y z : Value), (#[a, x0, x1, x2, x3, z] : Array Value).setIfInBounds (1 + 0) y = #[a, y, x1, x2, x3, z] ∧ (#[a, x0, x1, x2, x3, z] : Array Value).setIfInBounds (1 + 1) y = #[a, x0, y, x2, x3, z] ∧ (#[a, x0, x1, x2, x3, z] : Array Value).setIfInBounds (1 + 2) y = #[a, x0, x1, y, x3, z] ∧ (#[a, x0, x1, x2, x3, z] : Array Value).setIfInBounds (1 + 3) y = #[a, x0, x1, x2, y, z] := fun _ _ _ _ _ _ _ => ⟨rfl, rfl, rfl, rfl⟩
  rcases this with e | e | e | e <;> rw [e] at h ⊢ <;> unfold whC
  · rw [(arr _ _ _ _ _ _ _).1, h 1 (by decide), h 2 (by decide), h 3 (by decide)]
  · rw [(arr _ _ _ _ _ _ _).2.1, h 0 (by decide), h 2 (by decide), h 3 (by decide)]
  · rw [(arr _ _ _ _ _ _ _).2.2.1, h 0 (by decide), h 1 (by decide), h 3 (by decide)]
  · rw [(arr _ _ _ _ _ _ _).2.2.2, h 0 (by decide), h 1 (by decide), h 2 (by decide)]
section
variable {w w' : World} {p q : Nat} {f : Nat → Bool} {many : Int}
set_option maxHeartbeats 1000000 in
theorem mset_ok (h : w.heap[p]? = some (.cells (whC q f many) 132 (0, 0))) {b : Nat} (hb : b < 256) :
    Calls Tryd.prog 96 #[mkP p, .int .i64 b] w fun e w' => e = .returned (.tuple #[]) ∧ w'.heap[p]? = some (.cells (whC q (setB f b true) many) 132 (0, 0)) ∧ Mod (fun k => k = p) w w' := by
  have hk : b / 64 < 4 := by omega
  have hr : b % 64 < 64 := Nat.mod_lt _ (by decide)
  have c0 : w.cell? ⟨p, 1 + b / 64, none⟩ = some (.int .u64 (wd64 f (b / 64) : Nat)) := by rw [cell_of_row w p _ _ _ (0, 0) h]; exact whC_get hk
  have g0 := frozen_of_row w p (1 + b / 64) _ _ h
  have hlt : p < w.heap.size := lt_of_block h
  have wq : wrap64 ((b : Int) / 64) = ((b / 64 : Nat) : Int) := by rw [show (b : Int) / 64 = ((b / 64 : Nat) : Int) by omega]; exact w64_nat _ (by omega)
  have eq1 : (b : Int) / 64 = ((b / 64 : Nat) : Int) := by omega
  have eq2 : (b : Int) % 64 = ((b % 64 : Nat) : Int) := by omega
  have HS := Lib.hid (wd_set (f := f) (b := b))
  have hwl := wd64_lt f (b / 64)
  have hpl : 2 ^ (b % 64) < 18446744073709551616 := Nat.pow_lt_pow_right (a := 2) (by decide) (show b % 64 < 64 by omega)
  have hc2 : ((2 ^ (b % 64) : Nat) : Int) = (2 : Int) ^ (b % 64) := by simp
  have hw2 := u64_wrap (2 ^ (b % 64)) hpl
  rw [hc2] at hw2
  have hor := bits_or64 (wd64 f (b / 64)) (2 ^ (b % 64)) hwl hpl
  rw [hc2] at hor
  clear hc2
  have b0 : (0 : Int) ≤ (b : Int) := by omega
  have b1 : (b : Int) < 256 := by omega
  have HH := Lib.hid h; have HB := Lib.hid hb
  obtain ⟨k, hk'⟩ : ∃ k, b / 64 = k := ⟨_, rfl⟩
  have HK := Lib.hid hk'
  clear h hb hk
  rw [hk'] at c0 g0 wq eq1 HS hwl hor
  clear hk'
  generalize wd64 f k = x at *
  generalize b % 64 = r at *
  go_enter Tryd.func96, Tryd.ntmps96
  go_region
  have e1 := heap_setCell_same w p (1 + k) _ _ (.int .u64 ((x ||| 2 ^ r : Nat) : Int)) HH.out
  have e2 := ((Mod.refl (fun k => k = p) w).setCell (p := ⟨p, 1 + k, none⟩) (fun _ => rfl) (.int .u64 ((x ||| 2 ^ r : Nat) : Int))).drew
  have e3 : (whC q f many).setIfInBounds (1 + k) (.int .u64 ((x ||| 2 ^ r : Nat) : Int)) = whC q (setB f b true) many := by
    have := whC_set (q := q) (f := f) (many := many) (v := true) (x := x ||| 2 ^ r) HB.out (by rw [HK.out]; exact HS.out)
    rw [HK.out] at this
    exact this
  rw [e3] at e1
  go_end0
  exact ⟨rfl, e1, e2⟩
set_option maxHeartbeats 1000000 in
theorem mclear_ok (h : w.heap[p]? = some (.cells (whC q f many) 132 (0, 0))) {b : Nat} (hb : b < 256) :
    Calls Tryd.prog 87 #[mkP p, .int .i64 b] w fun e w' => e = .returned (.tuple #[]) ∧ w'.heap[p]? = some (.cells (whC q (setB f b false) many) 132 (0, 0)) ∧ Mod (fun k => k = p) w w' := by
  have hk : b / 64 < 4 := by omega
  have hr : b % 64 < 64 := Nat.mod_lt _ (by decide)
  have c0 : w.cell? ⟨p, 1 + b / 64, none⟩ = some (.int .u64 (wd64 f (b / 64) : Nat)) := by rw [cell_of_row w p _ _ _ (0, 0) h]; exact whC_get hk
  have g0 := frozen_of_row w p (1 + b / 64) _ _ h
  have hlt : p < w.heap.size := lt_of_block h
  have wq : wrap64 ((b : Int) / 64) = ((b / 64 : Nat) : Int) := by rw [show (b : Int) / 64 = ((b / 64 : Nat) : Int) by omega]; exact w64_nat _ (by omega)
  have eq1 : (b : Int) / 64 = ((b / 64 : Nat) : Int) := by omega
  have eq2 : (b : Int) % 64 = ((b % 64 : Nat) : Int) := by omega
  have HS := Lib.hid (wd_clear (f := f) (b := b))
  have hwl := wd64_lt f (b / 64)
  have hpl : 2 ^ (b % 64) < 18446744073709551616 := Nat.pow_lt_pow_right (a := 2) (by decide) (show b % 64 < 64 by omega)
  have hc2 : ((2 ^ (b % 64) : Nat) : Int) = (2 : Int) ^ (b % 64) := by simp
  have hw2 := u64_wrap (2 ^ (b % 64)) hpl
  rw [hc2] at hw2
  have hor := bits_andNot64 (wd64 f (b / 64)) (2 ^ (b % 64)) _ hwl hpl rfl
  rw [hc2] at hor
  clear hc2
  have b0 : (0 : Int) ≤ (b : Int) := by omega
  have b1 : (b : Int) < 256 := by omega
  have HH := Lib.hid h; have HB := Lib.hid hb
  obtain ⟨k, hk'⟩ : ∃ k, b / 64 = k := ⟨_, rfl⟩
  have HK := Lib.hid hk'
  clear h hb hk
  rw [hk'] at c0 g0 wq eq1 HS hwl hor
  clear hk'
  generalize wd64 f k = x at *
  generalize b % 64 = r at *
  go_enter Tryd.func87, Tryd.ntmps87
  go_region
  have e1 := heap_setCell_same w p (1 + k) _ _ (.int .u64 ((x &&& (18446744073709551615 - 2 ^ r) : Nat) : Int)) HH.out
  have e2 := ((Mod.refl (fun k => k = p) w).setCell (p := ⟨p, 1 + k, none⟩) (fun _ => rfl) (.int .u64 ((x &&& (18446744073709551615 - 2 ^ r) : Nat) : Int))).drew
  have e3 : (whC q f many).setIfInBounds (1 + k) (.int .u64 ((x &&& (18446744073709551615 - 2 ^ r) : Nat) : Int)) = whC q (setB f b false) many := by
    have := whC_set (q := q) (f := f) (many := many) (v := false) (x := x &&& (18446744073709551615 - 2 ^ r)) HB.out (by rw [HK.out]; exact HS.out)
    rw [HK.out] at this
    exact this
  rw [e3] at e1
  go_end0
  exact ⟨rfl, e1, e2⟩
end
end Go.Proofs.YtlalpenfgkfkpaaDoor

/- bits.TrailingZeros64; wheel: marks.next from 0. Conditions: the table and the words lie in memory. -/
namespace Go.Proofs.YtlalpenfgkfkpaaDoor
open Go.RowKit
set_option maxRecDepth 100000
/-- The table of math/bits lies in its variable. -/
def TabW (w : World) : Prop := TabAt 0 Lib.deBruijn64tab w
theorem TabW.mod {S : Nat → Prop} {w w' : World} (h : TabW w) (hm : Mod S w w') (h0 : ¬ S 0) : TabW w' := fun j hj => hm.cell h0 (h j hj)
theorem TabW.pure {w w' : World} (h : TabW w) (hm : Pure w w') : TabW w' := h.mod hm (fun h => h)
theorem TabW.lt {w : World} (h : TabW w) : 0 < w.heap.size := World.block_lt_of_cell? w _ (h 0 (by decide))
theorem tz_core (x k idx : Nat) (w : World) (hx0 : ((x : Int) == 0) = false)
    (key : IntKind.u64.wrap (bits BinOp.and IntKind.u64 (x : Int) (IntKind.u64.wrap (-(x : Int))) * 285870213051353865) / 288230376151711744 = (idx : Int))
    (hi : idx < 64) (hk : k < 64) (hcell : w.cell? ⟨0, idx, none⟩ = some (.int .u8 k)) : Calls Tryd.prog 109 #[.int .u64 x] w fun e w' => e = .returned (.int .i64 k) ∧ w = w' := by
  go_enter Tryd.func109, Tryd.ntmps109
  go_wp2_with (simp only [key])
  go_ret
  exact ⟨rfl, rfl⟩
theorem tz64_ok (x : Nat) (hx : x < 18446744073709551616) (h0 : x ≠ 0) (w : World) (hT : TabW w) : Calls Tryd.prog 109 #[.int .u64 x] w fun e w' => e = .returned (.int .i64 (Lib.ctz 64 x)) ∧ w = w' := by
  obtain ⟨hlow, hk⟩ := Lib.lowest_bit 64 x h0 hx
  obtain ⟨hi, htab⟩ := Lib.deBruijn64_at _ hk
  have hcell := hT _ hi
  rw [htab] at hcell
  exact tz_core x _ _ w (by simp; omega) (tz64_key x _ hx h0 hlow) hi hk hcell
theorem ctz_bit {x : Nat} (hx : x < 18446744073709551616) (h0 : x ≠ 0) : Lib.ctz 64 x < 64 ∧ x.testBit (Lib.ctz 64 x) = true ∧ ∀ j, j < Lib.ctz 64 x → x.testBit j = false := by
  obtain ⟨m, hm, hk⟩ := Lib.ctzFrom_spec 64 x (by omega) hx
  have e : Lib.ctz 64 x = Lib.ctzFrom 64 x := by unfold Lib.ctz; rw [if_neg h0]
  rw [e]
  generalize Lib.ctzFrom 64 x = c at *
  refine ⟨hk, ?_, fun j hj => ?_⟩
  · rw [hm, Nat.testBit_two_pow_mul]
    simp
  · rw [hm, Nat.testBit_two_pow_mul]
    simp; omega
def nextV (f : Nat → Bool) : Value := match firstB f 256 with
  | some b => .tuple #[.int .i64 (b : Nat), .bool true]
  | none => .tuple #[.int .i64 0, .bool false]
section
variable {w w' : World} {p q : Nat} {f : Nat → Bool} {many : Int}
set_option maxHeartbeats 1000000 in
theorem mnext_ok (h : w.heap[p]? = some (.cells (whC q f many) 132 (0, 0))) (hT : TabW w) :
    Calls Tryd.prog 89 #[mkP p, .int .i64 0] w fun e w' => e = .returned (nextV f) ∧ w = w' := by
  have HH := Lib.hid h; have HT := Lib.hid hT
  clear h hT
  go_enter Tryd.func89, Tryd.ntmps89
  go_upto_region 3 with fail
  go_loop [6, 7] (fun v6 v7 => ∃ k : Nat, v6 = .int .u64 18446744073709551615 ∧ v7 = .int .i64 k ∧ k ≤ 4 ∧ ∀ i, i < k → wd64 f i = 0) (fun _ v7 => 4 - (intOf v7).toNat)
  case atStart => exact ⟨0, rfl, rfl, by omega, fun i hi => by omega⟩
  case round =>
    obtain ⟨k, rfl, rfl, hk, hz⟩ := hrel
    have HZ := Lib.hid hz
    clear hz
    by_cases hlt : k < 4
    · have hlt' : (k : Int) < 4 := by omega
      have k0 : (0 : Int) ≤ (k : Int) := by omega
      have wi : IntKind.i64.wrap ((k : Int) + 1) = (k : Int) + 1 := IntWalk.i64_in _ (by omega)
      have dk : decide (k < 4) = true := decide_eq_true hlt
      have c0 : w.cell? ⟨p, 1 + k, none⟩ = some (.int .u64 (wd64 f k : Nat)) := by rw [cell_of_row w p _ _ _ (0, 0) HH.out]; exact whC_get hlt
      have hwl := wd64_lt f k
      have hand := bits_and64 (wd64 f k) 18446744073709551615 hwl (by decide)
      have hand2 : wd64 f k &&& 18446744073709551615 = wd64 f k := by
        have : (18446744073709551615 : Nat) = 2 ^ 64 - 1 := rfl
        rw [this, Nat.and_two_pow_sub_one_eq_mod]
        exact Nat.mod_eq_of_lt hwl
      rw [hand2] at hand
      obtain ⟨x, hx⟩ : ∃ x, wd64 f k = x := ⟨_, rfl⟩
      rw [hx] at c0 hwl hand
      have HX := Lib.hid hx
      rw [show ((18446744073709551615 : Nat) : Int) = 18446744073709551615 by decide] at hand
      clear hx hand2
      by_cases hx0 : x = 0
      · have HX0 := Lib.hid hx0
        have e0 : ((x : Int) == 0) = true := by simp; omega
        have e1 : ((x : Int) != 0) = false := by simp; omega
        clear hx0
        go_wp2
        go_round
        case rel => exact ⟨k + 1, rfl, by go_num, hlt, fun i hi => by
          by_cases e : i = k
          · subst e; exact HX.out.trans HX0.out
          · exact HZ.out i (by omega)⟩
        case measure => simp [intOf]; omega
      · have HZ4 := Lib.hid (tz64_ok x hwl hx0 w HT.out)
        obtain ⟨hc1, hc2, hc3⟩ := ctz_bit hwl hx0
        have hfb : firstB f 256 = some (64 * k + Lib.ctz 64 x) := by
          refine firstB_some (by omega) ?_ (fun j hj => ?_)
          · rw [← HX.out, wd64_bit] at hc2
            simp at hc2
            rw [← HX.out]
            exact hc2.2
          · by_cases c : j / 64 = k
            · have := hc3 (j % 64) (by omega)
              rw [← HX.out, wd64_bit] at this
              simp at this
              have h2 := this (Nat.mod_lt _ (by decide))
              rw [show 64 * k + j % 64 = j by omega] at h2
              exact h2
            · have := wd_zero.1 (HZ.out (j / 64) (by omega)) (j % 64) (Nat.mod_lt _ (by decide))
              rw [show 64 * (j / 64) + j % 64 = j by omega] at this
              exact this
        have HFB := Lib.hid hfb
        have e0 : ((x : Int) == 0) = false := by simp; omega
        have e1 : ((x : Int) != 0) = true := by simp; omega
        clear hfb hc2 hc3
        generalize Lib.ctz 64 x = t at *
        have w64 : IntKind.i64.wrap (64 * (k : Int)) = 64 * (k : Int) := IntWalk.i64_in _ (by omega)
        have w65 : IntKind.i64.wrap (64 * (k : Int) + (t : Int)) = 64 * (k : Int) + (t : Int) := IntWalk.i64_in _ (by omega)
        go_wp2_with (go_at_call 109; refine Calls.mono HZ4.out ?_; rintro e w' ⟨rfl, rfl⟩)
        go_ret2
        exact ⟨by unfold nextV; rw [HFB.out]; rfl, rfl⟩
    · have hk4 : k = 4 := by omega
      subst hk4
      have hfb : firstB f 256 = none := firstB_none (fun j hj => by
        have := wd_zero.1 (HZ.out (j / 64) (by omega)) (j % 64) (Nat.mod_lt _ (by decide))
        rw [show 64 * (j / 64) + j % 64 = j by omega] at this
        exact this)
      have HFB := Lib.hid hfb
      clear hfb
      go_wp2
      go_ret2
      exact ⟨by unfold nextV; rw [HFB.out]; rfl, rfl⟩
end
end Go.Proofs.YtlalpenfgkfkpaaDoor

/- What a row's condition on the listed table gives: the table of math/bits lies in block 0. -/
namespace Go.Proofs.YtlalpenfgkfkpaaDoor
open Go.ChangeShapes Go.WideShapes Go.ChangeAt Go.RowKit
set_option maxRecDepth 100000
abbrev tabLaid : List (String × DataW Unit) := Rows.cascadeNilRow.laid
theorem tab_data : (Rows.laid_math_bits_deBruijn64tab : DataW Unit) = Lib.tabData .u8 (Lib.deBruijn64tab.map fun n : Nat => (n : Int)) := by kernel_rfl
theorem tabW_of_laid {W : World} (h : laidMetH Tryd.prog tabLaid W) : TabW W := by
  rw [MakeChecks.laidMetH_plain _ _ _ (by kernel_rfl)] at h
  obtain ⟨ps, ⟨g, t, cs, fuel, p, q, hg, ht, hv, hd, _, _⟩, _, _⟩ := h
  have e0 : some g = some 0 := hg.symm.trans (by kernel_rfl)
  injection e0 with e0
  subst e0
  have hd' : DataW.trod (fun _ => ()) Tryd.prog W 0 (fun _ => true) false fuel t cs.toList = some (Lib.tabData .u8 (Lib.deBruijn64tab.map fun n : Nat => (n : Int)), p) := by rw [← tab_data]; exact hd
  have hc := Lib.cells_of_tab (n := 64) (e := 5) (by rw [← Option.some.inj ht]; kernel_rfl) Tryd.underlying5 (by kernel_rfl) (by rw [← Option.some.inj ht]; kernel_rfl) hd'
  intro j hj
  have hvc := World.var?_cell hg hv j
  rw [hvc]
  have : cs[j]? = cs.toList[j]? := by simp
  rw [this, hc]
  simp only [List.getElem?_map, List.map_map]
  rw [List.getElem?_eq_getElem hj]
  simp [List.getD, List.getElem?_eq_getElem hj]
end Go.Proofs.YtlalpenfgkfkpaaDoor

/- A row's last step behind a call that turned nothing that was there. -/
namespace Go.Proofs.YtlalpenfgkfkpaaDoor
open Go.ChangeShapes Go.WideShapes Go.ChangeAt Go.RowKit

/-- A row's last step behind a call that turned nothing that was there. -/
theorem post_of_pure {H : Type} {enc : TypeId × Value → H} {P : Program} {f : Func} {s : ChangeSpec} {apart fresh handsOn again : Bool} {W W' : World} {args : Array Value} {v : Value} {ds gs : List (DataW H)} {before pa pv : List MemPlace}
    (hW : DataW.Whole enc P f.params.toList s.vars apart W args.toList ds gs before)
    (hres : ∀ (b : Nat) (sp : Nat → Bool) (hd : Bool), DataW.TrodAll enc P W' b sp hd f.resultTypes.toList (v.resultList f.resultTypes.size) (s.fn H (ds ++ gs)).results [])
    (hargs : ∀ sp : Nat → Bool, (∀ p ∈ before, sp p.block = true) → DataW.TrodAll enc P W' 0 sp true f.params.toList args.toList (s.fn H (ds ++ gs)).args pa)
    (hvars : ∀ sp : Nat → Bool, (∀ p ∈ before, sp p.block = true) → DataW.TrodVars enc P W' sp s.vars (s.fn H (ds ++ gs)).vars pv)
    (hps : before = pa ++ pv) (hm : Pure W W')
    (hok : ∀ (j : Nat) (t : TypeId) (r : Value), f.resultTypes[j]? = some t → (v.resultList f.resultTypes.size)[j]? = some r → Value.okWide P W' .any 0 t r) :
    s.post enc P f apart fresh handsOn again W args v W' := by
  have hb : Below W.heap.size W W' := hm.below (fun _ _ h => h)
  subst hps
  have hlt : ∀ p ∈ pa ++ pv, p.block < W.heap.size := fun p hp => hW.lt p hp
  have hold : ∀ p ∈ pa ++ pv, (fun b => decide (b < W.heap.size)) p.block = true := fun p hp => decide_eq_true (hlt p hp)
  refine ⟨ds, gs, pa ++ pv, [], pa, pv, hW, hres _ _ _, hargs _ hold, hvars _ hold, World.keptBut_mono (fun p hp => ⟨hp, Or.inr (List.mem_append.1 hp)⟩) (hb.frame (· ∈ pa ++ pv)), fun _ => ?_⟩
  obtain ⟨_, _, _, _, _, hz, hn⟩ := hW
  refine ⟨hok, _, _, ([] ++ pa) ++ pv, ⟨[] ++ pa, pv, trodAll_append (hargs _ (fun _ _ => rfl)) (hres _ _ _), hvars _ (fun _ _ => rfl), rfl, fun b off hp => ?_, fun ha => by simpa using hn ha⟩, fun p hp _ => by simpa using hp⟩
  have hin : MemPlace.cell b off ∈ pa ++ pv := by simpa using hp
  rw [hb.frozen (hlt _ hin)]
  exact hz b off hin
theorem ownA : ownKnob Tryd.prog.godebug = none := by kernel_rfl
end Go.Proofs.YtlalpenfgkfkpaaDoor
