/- Lemmas and contracts of functions, strung together out of 3 texts. No condition. -/
import Derived.Test.YtapplindfijngaaGreatJPfCompactDicts12
import Derived.Test.YtapplindfijngaaGreatJPfCompactDicts9
/- The reference of layer 7: Remove, Replace. -/
namespace Go.Proofs.YtapplindfijngaaGreat
open Go.RowKit Go.Shelf
set_option maxRecDepth 100000

/-- The two rows of an index, whatever they hold. -/
structure Rows2 (W : World) (B1 B2 cC cS n : Nat) (xs ys : List Value) : Prop where
  C : W.ownsRow 0 5 1 (.slice (some ⟨B1, 0, none⟩) n cC) n xs
  S : W.ownsRow 0 43 1 (.slice (some ⟨B2, 0, none⟩) n cS) n ys
section
variable {W W' : World} {B1 B2 cC cS n : Nat} {xs ys : List Value}
theorem Rows2.ne (h : Rows2 W B1 B2 cC cS n xs ys) : B1 ≠ B2 := fun e => by
  obtain ⟨c1, e1⟩ := owns_type h.C (g := B1) rfl
  obtain ⟨c2, e2⟩ := owns_type h.S (g := B2) rfl
  rw [e, e2] at e1; cases e1
theorem Rows2.nb (h : Rows2 W B1 B2 cC cS n xs ys) {bb : Nat} {cs : Array Value} (hbb : W.heap[bb]? = some (.cells cs 36 (0, 0))) : bb ≠ B1 ∧ bb ≠ B2 := by
  constructor
  · intro e
    obtain ⟨cc, e2⟩ := owns_type h.C (g := B1) rfl
    rw [e, e2] at hbb; cases hbb
  · intro e
    obtain ⟨cc, e2⟩ := owns_type h.S (g := B2) rfl
    rw [e, e2] at hbb; cases hbb
theorem Rows2.putC (h : Rows2 W B1 B2 cC cS n xs ys) {k : Nat} {u : Value} (hk : k < n) : Rows2 (W.setCell ⟨B1, k, none⟩ u) B1 B2 cC cS n (xs.set k u) ys ∧ Mod (fun j => j = B1) W (W.setCell ⟨B1, k, none⟩ u) :=
  ⟨⟨owns_setCell h.C k u (by omega), owns_mod h.S (Mod.set1 B1 k u) (fun g hg e => h.ne (by
    have : B2 = g := by simpa [Value.ownBlock] using hg
    exact e.symm.trans this.symm))⟩, Mod.set1 _ _ _⟩
theorem Rows2.putS (h : Rows2 W B1 B2 cC cS n xs ys) {k : Nat} {u : Value} (hk : k < n) : Rows2 (W.setCell ⟨B2, k, none⟩ u) B1 B2 cC cS n xs (ys.set k u) ∧ Mod (fun j => j = B2) W (W.setCell ⟨B2, k, none⟩ u) :=
  ⟨⟨owns_mod h.C (Mod.set1 B2 k u) (fun g hg e => h.ne (by
    have : B1 = g := by simpa [Value.ownBlock] using hg
    exact this.trans e)), owns_setCell h.S k u (by omega)⟩, Mod.set1 _ _ _⟩
theorem Rows2.cell (h : Rows2 W B1 B2 cC cS n xs ys) {k : Nat} (hk : k < n) : (∃ u, W.cell? ⟨B1, k, none⟩ = some u) ∧ (∃ u, W.cell? ⟨B2, k, none⟩ = some u) ∧ (∀ j, W.frozen? ⟨B1, j, none⟩ = false) ∧ (∀ j, W.frozen? ⟨B2, j, none⟩ = false) ∧ n ≤ cC ∧ n ≤ cS := by
  obtain ⟨B1', c1, e1, l1, _, h1, f1, _⟩ := owns_at h.C (by omega)
  obtain ⟨B2', c2, e2, l2, _, h2, f2, _⟩ := owns_at h.S (by omega)
  cases e1; cases e2
  have hl1 := h.C.1; have hl2 := h.S.1
  exact ⟨⟨_, h1 k _ (List.getElem?_eq_getElem (by omega))⟩, ⟨_, h2 k _ (List.getElem?_eq_getElem (by omega))⟩, f1, f2, l1, l2⟩
theorem Rows2.pure (h : Rows2 W B1 B2 cC cS n xs ys) (hp : Pure W W') : Rows2 W' B1 B2 cC cS n xs ys := ⟨owns_mod h.C hp (fun _ _ h => h), owns_mod h.S hp (fun _ _ h => h)⟩
theorem RefI.rows {Gs : List Grp} (h : RefI W (some ⟨B1, 0, none⟩) cC (some ⟨B2, 0, none⟩) cS Gs) (hn : 8 * Gs.length = n) : Rows2 W B1 B2 cC cS n (u8s (laneC Gs)) (u32v (laneS Gs)) := by
  subst hn; exact ⟨h.C, h.S⟩
theorem Rows2.refI {Gs : List Grp} {i j t s : Nat} (h : Rows2 W B1 B2 cC cS n ((u8s (laneC Gs)).set (8 * i + j) (.int .u8 (t : Nat))) ((u32v (laneS Gs)).set (8 * i + j) (.int .u32 (s : Nat)))) (hn : 8 * Gs.length = n) (hok : IxOk Gs) (hi : i < Gs.length) (hj : j < 8) (ht : t < 128 ∨ t = 128 ∨ t = 254) (hs : s ≤ 4294967295) :
    RefI W (some ⟨B1, 0, none⟩) cC (some ⟨B2, 0, none⟩) cS (setG Gs i j t s) := by
  have hok' := hok.put (i := i) (j := j) ht hs
  subst hn
  refine ⟨?_, ?_, hok'⟩
  · rw [setG_length, laneC_set hok hok' hi hj]
    have := h.C
    unfold u8s at this ⊢
    rw [List.map_set]
    exact this
  · rw [setG_length, laneS_set hok hok' hi hj]
    have := h.S
    unfold u32v at this ⊢
    rw [List.map_set]
    exact this
end
/-- The same lane again. -/
theorem u32v_same {Gs : List Grp} (h : IxOk Gs) {i j : Nat} (hi : i < Gs.length) (hj : j < 8) : (u32v (laneS Gs)).set (8 * i + j) (.int .u32 (slotAt Gs (i, j) : Nat)) = u32v (laneS Gs) := by
  have h1 : (u32v (laneS Gs))[8 * i + j]? = some (.int .u32 (slotAt Gs (i, j) : Nat)) := by
    unfold u32v
    rw [List.getElem?_map]
    have := slot_some h (x := (i, j)) hi hj
    unfold lane at this
    rw [this]
    rfl
  obtain ⟨hl, he⟩ := List.getElem?_eq_some_iff.1 h1
  have := List.set_getElem_self hl
  rwa [he] at this
theorem u8s_same {Gs : List Grp} (h : IxOk Gs) {i j t : Nat} (hi : i < Gs.length) (hj : j < 8) (ht : (grpAt Gs i).1[j]? = some t) : (u8s (laneC Gs)).set (8 * i + j) (.int .u8 (t : Nat)) = u8s (laneC Gs) := by
  have h1 : (u8s (laneC Gs))[8 * i + j]? = some (.int .u8 (t : Nat)) := by
    unfold u8s
    rw [List.getElem?_map, laneC_at h hi hj, ht]
    rfl
  obtain ⟨hl, he⟩ := List.getElem?_eq_some_iff.1 h1
  have := List.set_getElem_self hl
  rwa [he] at this
/-- What is known while a copy is changed: the copy's rows, the boxes, the index that was copied. -/
structure RS (w : World) (b b11 : Nat) (aC : Option Addr) (cC : Nat) (aS : Option Addr) (cS : Nat) (Gs : List Grp) (B5 B6 cC5 cS5 n : Nat) (xs ys : List Value) (W : World) : Prop where
  pu : Pure w W
  rows : Rows2 W B5 B6 cC5 cS5 n xs ys
  h11 : W.heap[b11]? = some (.cells #[.slice (some ⟨B5, 0, none⟩) n cC5, .slice (some ⟨B6, 0, none⟩) n cS5] 36 (0, 0))
  h6 : W.heap[b + 1]? = some (.cells #[.slice none 0 0, .slice none 0 0] 36 (0, 0))
  hb : W.heap[b]? = some (.cells #[.slice aC n cC, .slice aS n cS] 36 (0, 0))
  ro : RefI W aC cC aS cS Gs
  ne : ∀ g, ((Value.slice aC (8 * Gs.length) cC).ownBlock = some g ∨ (Value.slice aS (8 * Gs.length) cS).ownBlock = some g) → g ≠ B5 ∧ g ≠ B6
  f5 : w.heap.size ≤ B5
  f6 : w.heap.size ≤ B6
section
variable {w : World} {b b11 : Nat} {aC : Option Addr} {cC : Nat} {aS : Option Addr} {cS : Nat} {Gs : List Grp} {B5 B6 cC5 cS5 n : Nat} {xs ys : List Value} {W W' : World}
theorem RS.pure (h : RS w b b11 aC cC aS cS Gs B5 B6 cC5 cS5 n xs ys W) (hp : Pure W W') : RS w b b11 aC cC aS cS Gs B5 B6 cC5 cS5 n xs ys W' :=
  ⟨h.pu.trans hp, h.rows.pure hp, hp.heap (fun h => h) h.h11, hp.heap (fun h => h) h.h6, hp.heap (fun h => h) h.hb, h.ro.pure hp, h.ne, h.f5, h.f6⟩
theorem RS.putC (h : RS w b b11 aC cC aS cS Gs B5 B6 cC5 cS5 n xs ys W) {k : Nat} {u : Value} (hk : k < n) (hW : W.setCell ⟨B5, k, none⟩ u = W') : RS w b b11 aC cC aS cS Gs B5 B6 cC5 cS5 n (xs.set k u) ys W' := by
  obtain ⟨h1, h2⟩ := h.rows.putC (u := u) hk
  rw [hW] at h1 h2
  exact ⟨h.pu.then h2 (fun i hi e => by have := h.f5; omega), h1, h2.heap (h.rows.nb h.h11).1 h.h11, h2.heap (h.rows.nb h.h6).1 h.h6, h2.heap (h.rows.nb h.hb).1 h.hb, ⟨owns_mod h.ro.C h2 (fun g hg e => (h.ne g (.inl hg)).1 e), owns_mod h.ro.S h2 (fun g hg e => (h.ne g (.inr hg)).1 e), h.ro.ok⟩, h.ne, h.f5, h.f6⟩
theorem RS.putS (h : RS w b b11 aC cC aS cS Gs B5 B6 cC5 cS5 n xs ys W) {k : Nat} {u : Value} (hk : k < n) (hW : W.setCell ⟨B6, k, none⟩ u = W') : RS w b b11 aC cC aS cS Gs B5 B6 cC5 cS5 n xs (ys.set k u) W' := by
  obtain ⟨h1, h2⟩ := h.rows.putS (u := u) hk
  rw [hW] at h1 h2
  exact ⟨h.pu.then h2 (fun i hi e => by have := h.f6; omega), h1, h2.heap (h.rows.nb h.h11).2 h.h11, h2.heap (h.rows.nb h.h6).2 h.h6, h2.heap (h.rows.nb h.hb).2 h.hb, ⟨owns_mod h.ro.C h2 (fun g hg e => (h.ne g (.inl hg)).2 e), owns_mod h.ro.S h2 (fun g hg e => (h.ne g (.inr hg)).2 e), h.ro.ok⟩, h.ne, h.f5, h.f6⟩
/-- The end: the copy is the result. -/
theorem RS.fin (h : RS w b b11 aC cC aS cS Gs B5 B6 cC5 cS5 n xs ys W) (hb : w.heap.size ≤ b) (hW : (W.setCell ⟨b + 1, 0, none⟩ (.slice (some ⟨B5, 0, none⟩) n cC5)).setCell ⟨b + 1, 1, none⟩ (.slice (some ⟨B6, 0, none⟩) n cS5) = W') :
    Pure w W' ∧ Rows2 W' B5 B6 cC5 cS5 n xs ys ∧ W'.cell? ⟨b + 1, 0, none⟩ = some (.slice (some ⟨B5, 0, none⟩) n cC5) ∧ W'.cell? ⟨b + 1, 1, none⟩ = some (.slice (some ⟨B6, 0, none⟩) n cS5) := by
  have m2 := heap_set12 (v0 := .slice (some ⟨B5, 0, none⟩) n cC5) (v1 := .slice (some ⟨B6, 0, none⟩) n cS5) h.h6
  have hm : Mod (fun i => i = b + 1) W ((W.setCell ⟨b + 1, 0, none⟩ (.slice (some ⟨B5, 0, none⟩) n cC5)).setCell ⟨b + 1, 1, none⟩ (.slice (some ⟨B6, 0, none⟩) n cS5)) := Mod.set2 (b + 1) 0 1 _ _
  rw [hW] at m2 hm
  have x0 := cell_of_row _ (b + 1) 0 _ _ _ m2; have x1 := cell_of_row _ (b + 1) 1 _ _ _ m2
  have hn := h.rows.nb h.h6
  exact ⟨h.pu.then hm (fun i hi e => by omega), ⟨owns_mod h.rows.C hm (fun g hg e => hn.1 (by
    have : B5 = g := by simpa [Value.ownBlock] using hg
    exact e.symm.trans this.symm)), owns_mod h.rows.S hm (fun g hg e => hn.2 (by
    have : B6 = g := by simpa [Value.ownBlock] using hg
    exact e.symm.trans this.symm))⟩, x0, x1⟩
theorem RS.new {w2 w5 : World} {aC5 aS5 : Option Addr} (hR : RBox w b aC cC aS cS Gs w2) (h6 : w2.heap[b + 1]? = some (.cells #[.slice none 0 0, .slice none 0 0] 36 (0, 0))) (hn : 8 * Gs.length = n) (hR5 : RefI w5 aC5 cC5 aS5 cS5 Gs) (hp5 : Pure w2 w5)
    (f1 : ∀ k, (Value.slice aC5 n cC5).ownBlock = some k → w2.heap.size ≤ k) (f2 : ∀ k, (Value.slice aS5 n cS5).ownBlock = some k → w2.heap.size ≤ k) (hb11 : w5.heap.size = b11) (hW : w5.alloc (.cells #[.slice aC5 n cC5, .slice aS5 n cS5] 36) = W) :
    ∃ B5 B6, aC5 = some ⟨B5, 0, none⟩ ∧ aS5 = some ⟨B6, 0, none⟩ ∧ RS w b b11 aC cC aS cS Gs B5 B6 cC5 cS5 n (u8s (laneC Gs)) (u32v (laneS Gs)) W := by
  have hal : Pure w5 W := by rw [← hW]; exact (Mod.refl _ w5).alloc _
  have h11 : W.heap[b11]? = some (.cells #[.slice aC5 n cC5, .slice aS5 n cS5] 36 (0, 0)) := by rw [← hW]; exact heap_new hb11.symm
  obtain ⟨B5, B6, e1, e2, _, _, _, _⟩ := hR5.cells
  subst e1 e2
  refine ⟨B5, B6, rfl, rfl, (hR.pu.trans hp5).trans hal, (hR5.pure hal).rows hn, h11, (hp5.trans hal).heap (fun h => h) h6, ?_, hR.rf.pure (hp5.trans hal), fun g hg => ?_, Nat.le_trans hR.pu.size (f1 B5 rfl), Nat.le_trans hR.pu.size (f2 B6 rfl)⟩
  · have := (hp5.trans hal).heap (fun h => h) hR.bx
    rw [hn] at this
    exact this
  · have hl : g < w2.heap.size := by
      rcases hg with e | e
      · exact owns_lt hR.rf.C e
      · exact owns_lt hR.rf.S e
    have := f1 B5 rfl; have := f2 B6 rfl
    constructor <;> omega
end
def rRemPost (w : World) (aC : Option Addr) (cC : Nat) (aS : Option Addr) (cS : Nat) (Gs : List Grp) (sum slot : Nat) (e : Ending) (w' : World) : Prop :=
  Pure w w' ∧ match findM Gs sum (fun x => x == slot) with
  | some x => ∃ aC' cC' aS' cS', e = .returned (.tuple #[refI aC' cC' aS' cS' Gs.length, .int .i64 0]) ∧ RefI w' aC' cC' aS' cS' (delG Gs x.1 x.2)
  | none => e = .returned (.tuple #[refI aC cC aS cS Gs.length, .int .i64 9]) ∧ RefI w' aC cC aS cS Gs
set_option maxHeartbeats 4000000 in
theorem rRemove_ok {w : World} {aC : Option Addr} {cC : Nat} {aS : Option Addr} {cS : Nat} {Gs : List Grp} (h : RefI w aC cC aS cS Gs) (sum slot : Nat) (hsum : sum < 18446744073709551616) (hsl : slot ≤ 4294967295) : Calls Tryz.prog 65 #[refI aC cC aS cS Gs.length, .int .u64 sum, .int .u32 slot] w (rRemPost w aC cC aS cS Gs sum slot) := by
  have hg1 := h.ok.pow.le
  have HOK := Lib.hid h.ok
  have hR0 := RBox.new h
  have hal : Pure (w.alloc (.cells #[.slice aC (8 * Gs.length) cC, .slice aS (8 * Gs.length) cS] 36)) ((w.alloc (.cells #[.slice aC (8 * Gs.length) cC, .slice aS (8 * Gs.length) cS] 36)).alloc (.cells #[.slice none 0 0, .slice none 0 0] 36)) := (Mod.refl _ _).alloc _
  have hR := hR0.pure hal
  have h6 := heap_new (w := w.alloc (.cells #[.slice aC (8 * Gs.length) cC, .slice aS (8 * Gs.length) cS] 36)) (o := .cells #[.slice none 0 0, .slice none 0 0] 36 (0, 0)) (n := w.heap.size + 1) (by simp)
  clear h hR0 hal
  unfold refI
  go_enter Tryz.func65, Tryz.ntmps65
  go_upto_region 1 with fail
  generalize (w.alloc (.cells #[.slice aC (8 * Gs.length) cC, .slice aS (8 * Gs.length) cS] 36)).alloc (.cells #[.slice none 0 0, .slice none 0 0] 36) = W at *
  obtain ⟨b, hb⟩ : ∃ b, w.heap.size = b := ⟨_, rfl⟩
  rw [hb] at hR h6 ⊢
  have HR := Lib.hid hR
  have H6 := Lib.hid h6
  have hbx := hR.bx
  have HB := Lib.hid hb
  have hAt := rAt_ok hR.rf sum slot hsum hsl
  have hCp := fun (W2 : World) (hW : RefI W2 aC cC aS cS Gs) => rCopy_ok hW
  have hHs := fun (W2 : World) (hW : RefI W2 aC cC aS cS Gs) (i : Nat) (hi : i < Gs.length) => rHas_ok hW i hi
  obtain ⟨n, hn⟩ : ∃ n, 8 * Gs.length = n := ⟨_, rfl⟩
  unfold refI at hAt hCp hHs
  rw [hn] at hAt hCp hHs hbx ⊢
  have HAt := Lib.hid hAt; have HCp := Lib.hid hCp; have HHs := Lib.hid hHs; have HN := Lib.hid hn
  clear hR hb h6 hAt hCp hHs hn
  have hbx_0 := cell_of_row _ _ 0 _ _ _ hbx; have hbx_1 := cell_of_row _ _ 1 _ _ _ hbx; have hbx_f := (fun j => frozen_of_row _ _ j _ _ hbx); have hbx_l := lt_of_block hbx; simp at hbx_0 hbx_1; have H_hbx := Lib.hid hbx; clear hbx
  rcases hfm : findM Gs sum (fun x => x == slot) with _ | ⟨i, j⟩
  · have HFM := Lib.hid hfm
    rw [hfm] at HAt
    clear hfm
    go_upto_region 3 with (go_at_call 119; refine Calls.mono HAt.out ?_; unfold atPost; rintro e w2 ⟨rfl, hp2⟩)
    have HP2 := Lib.hid hp2
    have k6 := hp2.heap (fun h => h) H6.out
    have kb := hp2.heap (fun h => h) H_hbx.out
    clear hbx_0 hbx_1 hbx_f hbx_l
    clear H_hbx hp2
    have k6_0 := cell_of_row _ _ 0 _ _ _ k6; have k6_1 := cell_of_row _ _ 1 _ _ _ k6; have k6_f := (fun j => frozen_of_row _ _ j _ _ k6); have k6_l := lt_of_block k6; simp at k6_0 k6_1; have H_k6 := Lib.hid k6; clear k6
    have kb_0 := cell_of_row _ _ 0 _ _ _ kb; have kb_1 := cell_of_row _ _ 1 _ _ _ kb; have kb_f := (fun j => frozen_of_row _ _ j _ _ kb); have kb_l := lt_of_block kb; simp at kb_0 kb_1; have H_kb := Lib.hid kb; clear kb
    go_wp2
    have m2 := heap_set12 (v0 := .slice aC n cC) (v1 := .slice aS n cS) H_k6.out
    have hm : Mod (fun i => i = b + 1) w2 ((w2.setCell ⟨b + 1, 0, none⟩ (.slice aC n cC)).setCell ⟨b + 1, 1, none⟩ (.slice aS n cS)) := Mod.set2 (b + 1) 0 1 _ _
    have x0 := cell_of_row _ (b + 1) 0 _ _ _ m2; have x1 := cell_of_row _ (b + 1) 1 _ _ _ m2
    simp at x0 x1
    have hne : ∀ i, i = b + 1 → i < w2.heap.size → ∃ cs T' fz, w2.heap[i]? = some (.cells cs T' fz) ∧ T' ≠ 5 ∧ T' ≠ 43 := fun i e _ => ⟨_, _, _, e ▸ H_k6.out, by decide, by decide⟩
    refine bodyPost_ret (v := .tuple #[refI aC cC aS cS Gs.length, .int .i64 9]) (by unfold refI; rw [HN.out]; simp [results, Tryz.results65, go_sem, x0, x1]) rfl ⟨(HR.out.pu.trans HP2.out).then hm (fun i hi e => by have := HB.out; omega), ?_⟩
    rw [HFM.out]
    exact ⟨rfl, (HR.out.rf.pure HP2.out).modT hm hne⟩
  · have hf := seen_full HOK.out (List.mem_of_find?_eq_some hfm)
    have hi := hf.hi; have hj := hf.hj
    have hsle : slotAt Gs (i, j) = slot := by have := List.find?_some hfm; simpa using this
    have HFM := Lib.hid hfm; have HF := Lib.hid hf; have HSL := Lib.hid hsle
    rw [hfm] at HAt
    clear hfm hf hsle
    have hat : atPost (some (i, j)) = ((8 * i + j : Nat) : Int) := rfl
    rw [hat] at HAt
    have hdiv : (8 * i + j) / 8 = i := by omega
    have hkn : 8 * i + j < n := by have := HN.out; omega
    obtain ⟨k, hk⟩ : ∃ k, 8 * i + j = k := ⟨_, rfl⟩
    rw [hk] at HAt hdiv hkn
    have HK := Lib.hid hk
    clear hk hat
    have hn8 : n ≤ 8388608 := by have := HN.out; omega
    have e1 : (k : Int).tdiv 8 = (i : Int) := by rw [Int.tdiv_eq_ediv_of_nonneg (by omega)]; omega
    have e2 : (k : Int) / 8 = (i : Int) := by omega
    have wi : IntKind.i64.wrap (i : Int) = i := IntWalk.i64_in _ (by omega)
    have hk0 : (0 : Int) ≤ k := by omega
    clear hdiv
    go_upto_region 4 with (go_at_call 119; refine Calls.mono HAt.out ?_; rintro e w2 ⟨rfl, hp2⟩)
    have HB2 := Lib.hid (HR.out.pure hp2)
    have H62 := Lib.hid (hp2.heap (fun h => h) H6.out)
    have kb := hp2.heap (fun h => h) H_hbx.out
    clear hbx_0 hbx_1 hbx_f hbx_l
    clear H_hbx hp2 HR H6 HAt
    have kb_0 := cell_of_row _ _ 0 _ _ _ kb; have kb_1 := cell_of_row _ _ 1 _ _ _ kb; have kb_f := (fun j => frozen_of_row _ _ j _ _ kb); have kb_l := lt_of_block kb; simp at kb_0 kb_1; have H_kb := Lib.hid kb; clear kb
    go_upto_region 5 with (go_at_call 120; refine Calls.mono (HCp.out _ HB2.out.rf) ?_; rintro e w5 ⟨aC5, cC5, aS5, cS5, rfl, hR5, hp5, hf51, hf52⟩)
    obtain ⟨W5, hW5⟩ : ∃ W5, w5.alloc (.cells #[.slice aC5 n cC5, .slice aS5 n cS5] 36) = W5 := ⟨_, rfl⟩
    obtain ⟨b11, hb11⟩ : ∃ b11, w5.heap.size = b11 := ⟨_, rfl⟩
    have hnew := RS.new HB2.out H62.out HN.out hR5 hp5 hf51 hf52 hb11 hW5
    rw [hW5, hb11]
    obtain ⟨B5, B6, e5, e6, hrs⟩ := hnew
    subst e5 e6
    have HS := Lib.hid hrs
    clear kb_0 kb_1 kb_f kb_l
    clear H_kb hR5 hp5 hf51 hf52 hb11 hW5 hrs H62 HCp
    have z11 := HS.out.h11
    obtain ⟨⟨u5, c5⟩, ⟨u6, c6⟩, fz5, fz6, l5, l6⟩ := HS.out.rows.cell hkn
    have hkn' : (k : Int) < (n : Int) := by omega
    have z11_0 := cell_of_row _ _ 0 _ _ _ z11; have z11_1 := cell_of_row _ _ 1 _ _ _ z11; have z11_f := (fun j => frozen_of_row _ _ j _ _ z11); have z11_l := lt_of_block z11; simp at z11_0 z11_1; have H_z11 := Lib.hid z11; clear z11
    go_upto_region 6 with fail
    have HS6 := Lib.hid (HS.out.putS (k := k) (u := .int .u32 0) hkn rfl)
    clear z11_0 z11_1 z11_f z11_l
    clear H_z11 HS c5 c6 fz5 fz6
    generalize W5.setCell ⟨B6, k, none⟩ (.int .u32 0) = W6 at *
    have z11 := HS6.out.h11
    obtain ⟨⟨u5, c5⟩, ⟨u6, c6⟩, fz5, fz6, _, _⟩ := HS6.out.rows.cell hkn
    have z11_0 := cell_of_row _ _ 0 _ _ _ z11; have z11_1 := cell_of_row _ _ 1 _ _ _ z11; have z11_f := (fun j => frozen_of_row _ _ j _ _ z11); have z11_l := lt_of_block z11; simp at z11_0 z11_1; have H_z11 := Lib.hid z11; clear z11
    go_upto_region 7 with fail
    have HS7 := Lib.hid (HS6.out.putC (k := k) (u := .int .u8 254) hkn rfl)
    clear z11_0 z11_1 z11_f z11_l
    clear H_z11 HS6 c5 c6 fz5 fz6
    generalize W6.setCell ⟨B5, k, none⟩ (.int .u8 254) = W7 at *
    have zb := HS7.out.hb
    have zb_0 := cell_of_row _ _ 0 _ _ _ zb; have zb_1 := cell_of_row _ _ 1 _ _ _ zb; have zb_f := (fun j => frozen_of_row _ _ j _ _ zb); have zb_l := lt_of_block zb; simp at zb_0 zb_1; have H_zb := Lib.hid zb; clear zb
    have HHas := Lib.hid (HHs.out _ HS7.out.ro i hi)
    go_upto_if 30 with (go_at_call 121; refine Calls.mono HHas.out ?_; rintro e w8 ⟨rfl, hp8⟩)
    have HS8 := Lib.hid (HS7.out.pure hp8)
    clear zb_0 zb_1 zb_f zb_l
    clear H_zb HS7 hp8 HHas
    have z11 := HS8.out.h11
    have z6 := HS8.out.h6
    obtain ⟨⟨u5, c5⟩, ⟨u6, c6⟩, fz5, fz6, _, _⟩ := HS8.out.rows.cell hkn
    have z11_0 := cell_of_row _ _ 0 _ _ _ z11; have z11_1 := cell_of_row _ _ 1 _ _ _ z11; have z11_f := (fun j => frozen_of_row _ _ j _ _ z11); have z11_l := lt_of_block z11; simp at z11_0 z11_1; have H_z11 := Lib.hid z11; clear z11
    cases hbl : blanks (grpAt Gs i) with
    | true =>
      have her : erased (grpAt Gs i).1 = 128 := by unfold erased; rw [if_pos (by unfold blanks at hbl; exact hbl)]
      have HER := Lib.hid her
      clear hbl her
      go_upto_region 9 with fail
      have HS9 := Lib.hid (HS8.out.putC (k := k) (u := .int .u8 128) hkn rfl)
      clear z11_0 z11_1 z11_f z11_l
      clear H_z11 HS8 c5 c6 fz5 fz6 z6
      generalize w8.setCell ⟨B5, k, none⟩ (.int .u8 128) = W9 at *
      have z11 := HS9.out.h11
      have z6 := HS9.out.h6
      have z11_0 := cell_of_row _ _ 0 _ _ _ z11; have z11_1 := cell_of_row _ _ 1 _ _ _ z11; have z11_f := (fun j => frozen_of_row _ _ j _ _ z11); have z11_l := lt_of_block z11; simp at z11_0 z11_1; have H_z11 := Lib.hid z11; clear z11
      have z6_0 := cell_of_row _ _ 0 _ _ _ z6; have z6_1 := cell_of_row _ _ 1 _ _ _ z6; have z6_f := (fun j => frozen_of_row _ _ j _ _ z6); have z6_l := lt_of_block z6; simp at z6_0 z6_1; have H_z6 := Lib.hid z6; clear z6
      go_wp2
      obtain ⟨p1, p2, x0, x1⟩ := HS9.out.fin (by have := HB.out; omega) rfl
      refine bodyPost_ret (v := .tuple #[refI (some ⟨B5, 0, none⟩) cC5 (some ⟨B6, 0, none⟩) cS5 Gs.length, .int .i64 0]) (by unfold refI; rw [HN.out]; simp [results, Tryz.results65, go_sem, x0, x1]) rfl ⟨p1, ?_⟩
      rw [HFM.out]
      rw [List.set_set, ← HK.out] at p2
      refine ⟨_, _, _, _, rfl, ?_⟩
      show RefI _ _ _ _ _ (setG Gs i j (erased (grpAt Gs i).1) 0)
      rw [HER.out]
      exact Rows2.refI (t := 128) (s := 0) p2 HN.out HOK.out hi hj (.inr (.inl rfl)) (by decide)
    | false =>
      have her : erased (grpAt Gs i).1 = 254 := by unfold erased; rw [if_neg (by unfold blanks at hbl; simp [hbl])]
      have HER := Lib.hid her
      clear hbl her
      have z6_0 := cell_of_row _ _ 0 _ _ _ z6; have z6_1 := cell_of_row _ _ 1 _ _ _ z6; have z6_f := (fun j => frozen_of_row _ _ j _ _ z6); have z6_l := lt_of_block z6; simp at z6_0 z6_1; have H_z6 := Lib.hid z6; clear z6
      go_wp2
      obtain ⟨p1, p2, x0, x1⟩ := HS8.out.fin (by have := HB.out; omega) rfl
      refine bodyPost_ret (v := .tuple #[refI (some ⟨B5, 0, none⟩) cC5 (some ⟨B6, 0, none⟩) cS5 Gs.length, .int .i64 0]) (by unfold refI; rw [HN.out]; simp [results, Tryz.results65, go_sem, x0, x1]) rfl ⟨p1, ?_⟩
      rw [HFM.out]
      rw [← HK.out] at p2
      refine ⟨_, _, _, _, rfl, ?_⟩
      show RefI _ _ _ _ _ (setG Gs i j (erased (grpAt Gs i).1) 0)
      rw [HER.out]
      exact Rows2.refI (t := 254) (s := 0) p2 HN.out HOK.out hi hj (.inr (.inr rfl)) (by decide)

def rRepPost (w : World) (aC : Option Addr) (cC : Nat) (aS : Option Addr) (cS : Nat) (Gs : List Grp) (sum old slot : Nat) (e : Ending) (w' : World) : Prop :=
  Pure w w' ∧ match findM Gs sum (fun x => x == old) with
  | some x => ∃ aC' cC' aS' cS', e = .returned (.tuple #[refI aC' cC' aS' cS' Gs.length, .int .i64 0]) ∧ RefI w' aC' cC' aS' cS' (setG Gs x.1 x.2 (sum % 128) slot)
  | none => e = .returned (.tuple #[refI aC cC aS cS Gs.length, .int .i64 9]) ∧ RefI w' aC cC aS cS Gs
end Go.Proofs.YtapplindfijngaaGreat

/- The reference of layer 4: ValidKey, Check, Copy, Equal. Conditions: the bytes are read as cells (ReadAt), the lengths are small. -/
namespace Go.Proofs.YtapplindfijngaaGreat
open Go.RowKit
set_option maxRecDepth 100000

theorem ref_ValidKey (s : ByteArray) (w : World) (h0 : 0 < s.size) (h1 : s.size ≤ 250) : Calls Tryz.prog 108 #[.string s] w fun e w' => e = .returned (.bool true) ∧ w = w' := by
  have h2 : (1 : Int) ≤ s.size := by omega
  have h3 : (s.size : Int) ≤ 250 := by omega
  go_enter Tryz.func108, Tryz.ntmps108
  go_wp2
  go_ret
  exact ⟨by simp <;> omega, rfl⟩
theorem ref_Check_ok (s : ByteArray) (a : Option Addr) (n c : Nat) (b : Int) (w : World) (h0 : 0 < s.size) (h1 : s.size ≤ 250) (hn : n ≤ 65536) (hb : (b == 0) = false) :
    Calls Tryz.prog 53 #[.string s, .slice a n c, .int .u64 b] w fun e w' => e = .returned (.int .i64 0) ∧ w = w' := by
  have hn' : (n : Int) ≤ 65536 := by omega
  go_enter Tryz.func53, Tryz.ntmps53
  go_wp2_with (go_at_call 108; refine Calls.mono (ref_ValidKey s _ h0 h1) ?_; rintro e w1 ⟨rfl, rfl⟩)
  go_ret
  exact ⟨by simp, rfl⟩

set_option maxHeartbeats 1000000 in
theorem ref_Copy (k : ByteArray) (a : Option Addr) (n c : Nat) (d b : Int) (xs : List Value) (w : World) (hx : ReadAt w (.slice a n c) 1 xs) (hn : n ≤ 65536) :
    Calls Tryz.prog 72 #[.agg #[.string k, .slice a n c, .int .u64 d, .int .u64 b]] w (copyPost k xs d b w) := by
  obtain ⟨i0, hi, iz0, iz1, iz2⟩ := info_parts info_u8
  have hl := read_length hx
  have HX := Lib.hid hx
  clear hx
  go_enter Tryz.func72, Tryz.ntmps72
  go_wp2
  have hP : Pure w ((w.alloc (.cells #[.string k, .slice a n c, .int .u64 d, .int .u64 b] 42)).alloc (.cells #[.string ⟨#[]⟩, .slice none 0 0, .int .u64 0, .int .u64 0] 42)) := ((Mod.refl _ w).alloc _).alloc _
  have H := Lib.hid (HX.out.frame hP (fun _ _ h => h))
  have hA := heap_keep (o := .cells #[.string ⟨#[]⟩, .slice none 0 0, .int .u64 0, .int .u64 0] 42 (0, 0)) (heap_new (w := w) (o := .cells #[.string k, .slice a n c, .int .u64 d, .int .u64 b] 42 (0, 0)) rfl)
  have hB := heap_new (w := w.alloc (.cells #[.string k, .slice a n c, .int .u64 d, .int .u64 b] 42)) (o := .cells #[.string ⟨#[]⟩, .slice none 0 0, .int .u64 0, .int .u64 0] 42 (0, 0)) (n := w.heap.size + 1) (by simp)
  generalize (w.alloc (.cells #[.string k, .slice a n c, .int .u64 d, .int .u64 b] 42)).alloc (.cells #[.string ⟨#[]⟩, .slice none 0 0, .int .u64 0, .int .u64 0] 42) = W at hP H hA hB ⊢
  have hlB := lt_of_block hB
  have r0 := cell_of_row W _ 0 _ _ _ hA; have r1 := cell_of_row W _ 1 _ _ _ hA; have r2 := cell_of_row W _ 2 _ _ _ hA; have r3 := cell_of_row W _ 3 _ _ _ hA
  simp at r0 r1 r2 r3
  have d0 : W.drew.cell? ⟨w.heap.size, 0, none⟩ = some (.string k) := r0; have d1 : W.drew.cell? ⟨w.heap.size, 1, none⟩ = some (.slice a n c) := r1; have d2 : W.drew.cell? ⟨w.heap.size, 2, none⟩ = some (.int .u64 d) := r2; have d3 : W.drew.cell? ⟨w.heap.size, 3, none⟩ = some (.int .u64 b) := r3
  have HB := Lib.hid hB
  have HP := Lib.hid hP
  clear hA hB hP HX
  go_region_held3 (fun w' => w'.cell? ⟨w.heap.size, 0, none⟩ = some (.string k) ∧ w'.cell? ⟨w.heap.size, 1, none⟩ = some (.slice a n c) ∧ w'.cell? ⟨w.heap.size, 2, none⟩ = some (.int .u64 d) ∧ w'.cell? ⟨w.heap.size, 3, none⟩ = some (.int .u64 b))
    (first | exact ⟨by with_reducible assumption, by with_reducible assumption, by with_reducible assumption, by with_reducible assumption⟩ | exact ⟨by simpa [go_sem] using hp2.cell (fun h => h) r0, by simpa [go_sem] using hp2.cell (fun h => h) r1, by simpa [go_sem] using hp2.cell (fun h => h) r2, by simpa [go_sem] using hp2.cell (fun h => h) r3⟩)
    (first | (refine step_append_read _ (by rfl) _ _ 33 (by rfl) 5 i0 _ 1 1 Tryz.underlying33 hi iz0 iz1 iz2 rfl (by decide) (.slice none 0 0) 0 [] (by rfl) (World.ownsRow_nil _ _ _ _) _ xs n (by rfl) H.out hl (by unfold maxLen; omega) (by omega) ?_; intro a2 c2 w2 hown2 hgrow2 hat2; have hp2 : Pure W w2 := Mod.of_drew (Mod.of_grown (S := fun _ => False) hgrow2 (fun k e _ => (by cases e))); obtain ⟨g5, f5⟩ := hp2.box HB.out (fun h => h); have g50 := g5 0; have g51 := g5 1; have g52 := g5 2; have g53 := g5 3; simp at g50 g51 g52 g53; clear g5; have q0 := hp2.cell (fun h => h) r0; have q1 := hp2.cell (fun h => h) r1; have q2 := hp2.cell (fun h => h) r2; have q3 := hp2.cell (fun h => h) r3))
  simp only [List.nil_append, Nat.zero_add] at hown2 hat2
  have hm : Mod (fun k => k = w.heap.size + 1) w2 ((((w2.setCell ⟨w.heap.size + 1, 0, none⟩ (.string k)).setCell ⟨w.heap.size + 1, 1, none⟩ (.slice a2 n c2)).setCell ⟨w.heap.size + 1, 2, none⟩ (.int .u64 d)).setCell ⟨w.heap.size + 1, 3, none⟩ (.int .u64 b)) :=
    ((((Mod.refl (fun k => k = w.heap.size + 1) w2).setCell (p := ⟨w.heap.size + 1, 0, none⟩) (fun _ => rfl) _).setCell (p := ⟨w.heap.size + 1, 1, none⟩) (fun _ => rfl) _).setCell (p := ⟨w.heap.size + 1, 2, none⟩) (fun _ => rfl) _).setCell (p := ⟨w.heap.size + 1, 3, none⟩) (fun _ => rfl) _
  have hb2 : ∀ g, (Value.slice a2 n c2).ownBlock = some g → w.heap.size + 1 < g := by
    intro g hg
    rcases hat2 with e | e <;> rw [e] at hg
    · cases hg
    · simp at hg; omega
  have z := heap_setCell_same _ _ 3 _ _ (.int .u64 b) (heap_setCell_same _ _ 2 _ _ (.int .u64 d) (heap_setCell_same _ _ 1 _ _ (.slice a2 n c2) (heap_setCell_same w2 _ 0 _ _ (.string k) (hp2.heap (fun h => h) HB.out))))
  have z0 := cell_of_row _ _ 0 _ _ _ z; have z1 := cell_of_row _ _ 1 _ _ _ z; have z2 := cell_of_row _ _ 2 _ _ _ z; have z3 := cell_of_row _ _ 3 _ _ _ z
  simp at z0 z1 z2 z3
  clear z
  go_wp2
  refine bodyPost_ret (v := .agg #[.string k, .slice a2 n c2, .int .u64 d, .int .u64 b]) (by simp [results, Tryz.results72, go_sem, z0, z1, z2, z3]) rfl ⟨a2, n, c2, rfl, owns_mod hown2 hm (fun g hg h => by have := hb2 g hg; omega), fun g hg => by have := hb2 g hg; omega, ?_⟩
  exact (HP.out.trans hp2).then hm (fun i hi h => by omega)
end Go.Proofs.YtapplindfijngaaGreat

/- compact.Log: the log of the entries and their old slot numbers. Condition: the log is made (LogRow). -/
namespace Go.Proofs.YtapplindfijngaaGreat
open Go.RowKit Go.Shelf
set_option maxRecDepth 100000
attribute [local go_sem] Oper.semAt_some


/-! ### compact.Log -/
def compactPost (w : World) (L : List (Option Ent)) (e : Ending) (w' : World) : Prop :=
  ∃ q a c D sv M', e = .returned (.tuple #[.pointer (some ⟨q, 0, none⟩), .agg #[.slice a (live L).length c, .int .i64 L.length], .int .i64 0]) ∧ LogRow w' D q sv M' ∧
    M'.map Prod.fst = (live L).map (fun g => some g.2) ∧ w'.ownsRow 0 43 1 (.slice a (live L).length c) (live L).length ((live L).map fun g => .int .u32 g.1) ∧
    Pure w w' ∧ (∀ k, D k → w.heap.size ≤ k) ∧ Fresh w (.slice a (live L).length c)

/-- Above the results' boxes, and no box of ours nor block of the iterator. -/
def farC (w : World) (b5 b6 : Nat) (It : Nat → Prop) (k : Nat) : Prop := w.heap.size + 1 + 1 < k ∧ k ≠ b5 ∧ k ≠ b6 ∧ ¬ It k
/-- Between two rounds of the loop over All. -/
structure CInv (w : World) (b5 b6 q : Nat) (len : Int) (It : Nat → Prop) (D : Nat → Prop) (pre : List Given) (W : World) : Prop where
  r0 : W.heap[w.heap.size]? = some (.cells #[.pointer none] 58 (0, 0))
  r1 : W.heap[w.heap.size + 1]? = some (.cells #[.slice none 0 0, .int .i64 0] 81 (0, 0))
  r2 : W.heap[w.heap.size + 1 + 1]? = some (.cells #[.int .i64 0] 44 (0, 0))
  o5 : W.heap[b5]? = some (.cells #[.pointer (some ⟨q, 0, none⟩)] 58 (0, 0))
  o6 : ∃ a c, W.heap[b6]? = some (.cells #[.slice a pre.length c, .int .i64 len] 81 (0, 0)) ∧ W.ownsRow 0 43 1 (.slice a pre.length c) pre.length (pre.map fun g => .int .u32 g.1) ∧ ∀ k, (Value.slice a pre.length c).ownBlock = some k → farC w b5 b6 It k ∧ ¬ D k
  lg : ∃ sv M', LogRow W D q sv M' ∧ M'.map Prod.fst = pre.map (fun g => some g.2.1)
  dd : ∀ k, D k → farC w b5 b6 It k
  pu : Pure w W
theorem CInv.quiet {w : World} {b5 b6 q : Nat} {len : Int} {It D : Nat → Prop} {pre : List Given} {A B : World} (h : CInv w b5 b6 q len It D pre A) {N : Nat} (hN : w.heap.size ≤ N) (hq : Quiet N A B) : CInv w b5 b6 q len It D pre B := by
  obtain ⟨a, c, h1, h2, h3⟩ := h.o6
  obtain ⟨sv, M', h4, h5⟩ := h.lg
  exact ⟨hq.cells h.r0, hq.cells h.r1, hq.cells h.r2, hq.cells h.o5, ⟨a, c, hq.cells h1, hq.owns h2, h3⟩, ⟨sv, M', h4.quiet hq, h5⟩, h.dd, hq.mod h.pu hN⟩

/-- Behind the round's assignments. -/
def CAx (w : World) (p q q2 : Nat) (len : Int) (B : Nat) (It : Nat → Prop) (L : List (Option Ent)) (N : Nat) (pre : List Given) (x : Given) (a' : Act) (W : World) : Prop :=
  ∃ D b8 va vn vc, x.2.2 = .slice va vn vc ∧ CInv w (q + 1) (q + 1 + 1) q len It D pre W ∧ promise N L pre x W ∧ W.heap[b8]? = some (.cells #[.string x.2.1.key, x.2.2, .int .u64 x.2.1.dl, .int .u64 x.2.1.birth] 42 (0, 0)) ∧ ¬ D b8 ∧ ¬ It b8 ∧ N ≤ b8 ∧ N ≤ W.heap.size ∧
    a' = { tmps := #[.pointer (some ⟨p, 0, none⟩), undef, .pointer (some ⟨w.heap.size, 0, none⟩), .pointer (some ⟨w.heap.size + 1, 0, none⟩), .pointer (some ⟨w.heap.size + 1 + 1, 0, none⟩), .pointer (some ⟨q + 1, 0, none⟩), .pointer (some ⟨q + 1 + 1, 0, none⟩),
      .int .u32 x.1, .pointer (some ⟨b8, 0, none⟩), undef, undef, .pointer (some ⟨p, 0, none⟩), .pointer (some ⟨q2, 0, none⟩), .bool false, undef, .pointer (some ⟨q, 0, none⟩), .pointer (some ⟨p, 0, none⟩), .int .i64 len, .agg #[.slice none 0 0, .int .i64 len],
      .pointer (some ⟨p, 0, none⟩), .func (.func 127) #[] #[.pointer (some ⟨B, 0, none⟩)], .int .u32 x.1, .agg #[.string x.2.1.key, x.2.2, .int .u64 x.2.1.dl, .int .u64 x.2.1.birth],
      undef, undef, undef, undef, undef, undef, undef, undef, undef, undef, undef, undef, undef, undef, undef, undef, undef, undef], defers := [] }
theorem CAx.quiet {w : World} {p q q2 : Nat} {len : Int} {B : Nat} {It : Nat → Prop} {L : List (Option Ent)} {N : Nat} {pre : List Given} {x : Given} {a' : Act} {A W : World} (h : CAx w p q q2 len B It L N pre x a' A) (hN : w.heap.size ≤ N) (hq : Quiet N A W) : CAx w p q q2 len B It L N pre x a' W := by
  obtain ⟨D, b8, va, vn, vc, h1, h2, h3, h4, h5, h6, h7, h8, h9⟩ := h
  exact ⟨D, b8, va, vn, vc, h1, h2.quiet hN hq, h3.quiet hq, hq.cells h4, h5, h6, h7, Nat.le_trans h8 (Mod.size hq), h9⟩

set_option maxHeartbeats 1000000 in
theorem compact_Log {w : World} {D : Nat → Prop} {p : Nat} {sv : Value} {M : List (Option Ent × Value)} (h : LogRow w D p sv M) :
    Calls Tryz.prog 87 #[.pointer (some ⟨p, 0, none⟩)] w (compactPost w (M.map Prod.fst)) := by
  have HL := Lib.hid h
  have hlp : p < w.heap.size := lt_of_block h.box
  clear h
  refine (callsIn_wide (n := 0)).1 (callsIn_of_wp_marks Tryz.func87 rfl trivial ?_ rfl)
  simp only [Tryz.ntmps87, List.size_toArray, List.length_cons, List.length_nil, Nat.reduceAdd, Nat.reduceSub, Array.replicate_succ, Array.replicate_zero, List.push_toArray, List.append_toArray, List.nil_append, List.cons_append]
  gi_wp2_with (first
    | (gi_at_call 75; refine (callsIn_wide.2 (Copy_any (HL.out.pure (by (repeat' (first | (with_reducible exact Mod.refl _ _) | (with_reducible refine Mod.alloc ?_ _) | (with_reducible refine Mod.drew ?_) | (with_reducible refine Mod.drewN ?_ _) | (with_reducible refine Mod.setCell ?_ ?_ _) | (refine Mod.then ?_ (by with_reducible assumption) ?_))) <;> (all_goals (intros; first | (exfalso; assumption) | omega | (simp at *; done) | (simp at *; omega))))))).mono ?_; rintro e w1 ⟨q2, sv', D', rfl, _, hp, _⟩)
    | (gi_at_call 21; refine (callsIn_wide.2 (entrylog_New _)).mono ?_; rintro e w2 ⟨rfl, rfl⟩)
    | (gi_at_call 28; refine (callsIn_wide.2 (Len_any (HL.out.pure (by (repeat' (first | (with_reducible exact Mod.refl _ _) | (with_reducible refine Mod.alloc ?_ _) | (with_reducible refine Mod.drew ?_) | (with_reducible refine Mod.drewN ?_ _) | (with_reducible refine Mod.setCell ?_ ?_ _) | (refine Mod.then ?_ (by with_reducible assumption) ?_))) <;> (all_goals (intros; first | (exfalso; assumption) | omega | (simp at *; done) | (simp at *; omega))))))).mono ?_; rintro e w2 ⟨rfl, rfl⟩)
    | (gi_at_call 76; refine (callsIn_wide.2 (All_any (HL.out.pure (by (repeat' (first | (with_reducible exact Mod.refl _ _) | (with_reducible refine Mod.alloc ?_ _) | (with_reducible refine Mod.drew ?_) | (with_reducible refine Mod.drewN ?_ _) | (with_reducible refine Mod.setCell ?_ ?_ _) | (refine Mod.then ?_ (by with_reducible assumption) ?_))) <;> (all_goals (intros; first | (exfalso; assumption) | omega | (simp at *; done) | (simp at *; omega))))))).mono ?_; rintro e w3 ⟨B, a, c, rfl, hit, hp3, hB, hfr⟩))
  have hz : w.heap.size + 1 + 1 < w1.heap.size := by have := hp.size; simp at this; omega
  have hcl : ∀ W, Pure ((((w1.alloc (.cells #[.bool true, .slice none 0 0, .int .i64 0] 131)).alloc (.cells #[.pointer (some ⟨w1.heap.size, 0, none⟩)] 58)).alloc (.cells #[.slice none 0 0, .int .i64 M.length] 81))) W →
      CInv w (w1.heap.size + 1) (w1.heap.size + 1 + 1) w1.heap.size M.length (iterBlocks B (.slice a M.length c) M) (fun k => k = w1.heap.size) [] W := by
    intro W hW
    have hlow : ∀ k, k < w1.heap.size → ∀ o, w1.heap[k]? = some o → W.heap[k]? = some o := fun k hk o ho => hW.heap (fun h => h) (heap_keep (heap_keep (heap_keep ho)))
    refine ⟨hlow _ (by omega) _ (hp.heap (fun h => h) (heap_keep (heap_keep (heap_new rfl)))), hlow _ (by omega) _ (hp.heap (fun h => h) (heap_keep (heap_new (by simp)))), hlow _ (by omega) _ (hp.heap (fun h => h) (heap_new (by simp))),
      hW.heap (fun h => h) (heap_keep (heap_new (by simp))), ⟨none, 0, hW.heap (fun h => h) (heap_new (by simp)), World.ownsRow_nil _ _ _ _, (fun k e => by cases e)⟩, ⟨_, [], logNew_row (hW.heap (fun h => h) (heap_keep (heap_keep (heap_new rfl)))), rfl⟩, ?_, ?_⟩
    · rintro k rfl
      refine ⟨by omega, by omega, by omega, ?_⟩
      simp at hB
      rintro (h | h | ⟨e, v, hm, h⟩)
      · omega
      · have := hfr _ h; simp at this; omega
      · have := owns_lt (HL.out.vals e v hm) h; omega
    · (repeat' (first | (with_reducible exact Mod.refl _ _) | (with_reducible refine Mod.alloc ?_ _) | (with_reducible refine Mod.drew ?_) | (with_reducible refine Mod.drewN ?_ _) | (with_reducible refine Mod.setCell ?_ ?_ _) | (refine Mod.then ?_ (by with_reducible assumption) ?_)))
      (all_goals (intros; first | (exfalso; assumption) | omega | (simp at *; done) | (simp at *; omega)))
  have hlive : (live (M.map Prod.fst)).length ≤ 4194304 := Nat.le_trans (live_length _) HL.out.ok.len
  have hIq : ∀ k, w.heap.size ≤ k → k ≤ w1.heap.size + 1 + 1 → ¬ iterBlocks B (.slice a M.length c) M k := by
    simp at hB
    rintro k h1 h2 (h | h | ⟨e, v, hm, h⟩)
    · omega
    · have := hfr _ h; simp at this; omega
    · have := owns_lt (HL.out.vals e v hm) h; omega
  have HC := Lib.hid hcl
  have HI := Lib.hid hit
  have hlv := HL.out.vals
  have hItlt : ∀ k, iterBlocks B (.slice a M.length c) M k → k < w3.heap.size := by
    rintro k (rfl | h | ⟨e, v, hm, h⟩)
    · exact lt_of_block hit.box
    · exact owns_lt hit.row h
    · exact owns_lt (hit.vals e v hm) h
  have hw3 : w1.heap.size + 1 + 1 < w3.heap.size := by have := hp3.size; simp at this; omega
  have hI0 : CInv w (w1.heap.size + 1) (w1.heap.size + 1 + 1) w1.heap.size M.length (iterBlocks B (.slice a M.length c) M) (fun k => k = w1.heap.size) [] w3 := hcl w3 hp3
  have hlw : w.heap.size ≤ w3.heap.size := by omega
  clear hcl hit hlv hp hp3 hB hfr
  have HIQ := Lib.hid hIq
  clear hIq
  generalize hIt : iterBlocks B (.slice a M.length c) M = It at *
  generalize w1.heap.size = q at *
  refine wp_range (gf := 127) (lb := #[.pointer (some ⟨B, 0, none⟩)]) rfl (enters_of Tryz.func127 (by kernel_rfl) rfl) (It := It) (hIt ▸ All_iter HI.out w3.heap.size (Nat.le_refl _)) hItlt (fun _ => rfl)
    (fun pre W => (∃ D, CInv w (q + 1) (q + 1 + 1) q M.length It D pre W) ∧ w3.heap.size ≤ W.heap.size) (fun _ _ _ => False) ?hI ?hIx ⟨⟨_, hI0⟩, Nat.le_refl _⟩ (CAx w p q q2 M.length B It (M.map Prod.fst) w3.heap.size) ?hAx ?assign ?body ?done ?stop
  case hI => exact fun pre A B ⟨⟨D, h⟩, hz⟩ hq => ⟨⟨D, h.quiet hlw hq⟩, Nat.le_trans hz (Mod.size hq)⟩
  case hIx => exact fun _ _ _ _ h _ => h
  case hAx => exact fun _ _ _ _ _ h hq => h.quiet hlw hq
  case assign =>
    rintro l pre ⟨i, x, v⟩ W K ⟨⟨D, hI⟩, hWs⟩ hG hK
    obtain ⟨va, vc, hv, _⟩ := owns_form hG.2.1
    dsimp only at hv
    subst hv
    dsimp only [encG]
    have HCI := Lib.hid hI
    have HG := Lib.hid hG
    have HK := Lib.hid hK
    have HIT := Lib.hid hItlt
    clear hI hG hK HC hI0 HI hItlt
    gi_wp2
    have hP : Pure W (W.alloc (.cells #[.string x.key, .slice va (bytesOf x.val).length vc, .int .u64 x.dl, .int .u64 x.birth] 42)) := (Mod.refl _ W).alloc _
    refine HK.out _ _ hP ⟨D, W.heap.size, va, _, vc, rfl, HCI.out.quiet hlw (Quiet.of_pure hP), HG.out.quiet (Quiet.of_pure (N := 0) hP), heap_new rfl, fun h => ?_, fun h => ?_, hWs, Nat.le_trans hWs hP.size, rfl⟩
    · obtain ⟨_, _, h1, _⟩ := HCI.out.lg
      exact absurd (h1.lt h) (Nat.lt_irrefl _)
    · have := HIT.out _ h; omega
  case body =>
    rintro l pre ⟨i, x, v⟩ a' W hl hlr ⟨D, b8, va, vn, vc, rfl, hI, hG, hb8, hD8, hI8, hN8, hWs, rfl⟩
    obtain ⟨⟨post, hpost⟩, hv, hvf⟩ := hG
    dsimp only at hpost hv hvf
    have hmem := live_mem (g := (i, x)) (by rw [hpost]; simp [keyG])
    have hxok : x.Ok := HL.out.ok.ent x (List.mem_of_getElem? hmem)
    have hxi : i < M.length := by simpa using (List.getElem?_eq_some_iff.1 hmem).1
    have hpl : pre.length < 4194304 := by have := hlive; rw [hpost] at this; simp at this; omega
    obtain ⟨sv1, M1, hlg, hM1⟩ := hI.lg
    have hM1l : M1.length = pre.length := by rw [← List.length_map (f := Prod.fst), hM1, List.length_map]
    have h5 := hI.o5
    obtain ⟨a6, c6, h6, hr6, hf6⟩ := hI.o6
    have hx1 := hv.read (bytesOf_one _)
    obtain ⟨va', vn', vc', hve, hvl, _⟩ := id hx1
    cases hve
    have e5 := cell_of_row W _ 0 _ _ _ h5; have e6 := cell_of_row W _ 0 _ _ _ h6; have e61 := cell_of_row W _ 1 _ _ _ h6
    have e8 := cell_of_row W _ 0 _ _ _ hb8; have e81 := cell_of_row W _ 1 _ _ _ hb8; have e82 := cell_of_row W _ 2 _ _ _ hb8; have e83 := cell_of_row W _ 3 _ _ _ hb8
    simp at e5 e6 e61 e8 e81 e82 e83
    have HCI := Lib.hid hI
    have HM1 := Lib.hid hM1
    have HPOST := Lib.hid hpost
    have HR6 := Lib.hid hr6
    have HF6 := Lib.hid hf6
    have HLG := Lib.hid hlg
    have HX1 := Lib.hid hx1
    have HML : Hid (M1.length < 4194304) := by rw [hM1l]; exact hpl
    clear hI hM1 hpost hr6 hf6 hlg hx1 hv hvf hmem hvl HC hI0 HI hlive
    obtain ⟨i0, hi, iz0, iz1, iz2⟩ := info_parts info_u32
    have hlW : q + 1 + 1 < W.heap.size := by omega
    have nD : ∀ k, (k ≤ w.heap.size + 1 + 1 ∨ k = q + 1 ∨ k = q + 1 + 1) → ¬ D k := fun k hk hd => by obtain ⟨f1, f2, f3, _⟩ := HCI.out.dd k hd; omega
    have nd5 := nD (q + 1) (by omega); have nd6 := nD (q + 1 + 1) (by omega)
    have ND := Lib.hid nD
    clear nD
    gi_wp2_with (first
      | (gi_at_call 22; refine CallsIn.mono (CallsIn.inRound l (callsIn_wide.2 (Append_ok HLG.out HML.out x hxok va vn vc HX1.out))) ?_; rintro e w4 ⟨rfl, D', sv2, v2, hlg2, hmd, hgr⟩; have M6 := Lib.hid (Mod.heap hmd nd6 h6); have m6 := cell_of_row w4 _ 0 _ _ _ M6.out; have hz4 : q + 1 + 1 < w4.heap.size := Nat.lt_of_lt_of_le hlW hmd.size)
      | (gi_at_builtin; refine wpListIn_append_read _ rfl _ _ 34 rfl 43 i0 (.int .u32 0) 1 4 Tryz.underlying34 hi iz0 iz1 iz2 rfl (by decide) (.slice a6 pre.length c6) pre.length _ rfl (owns_mod (owns_mod HR6.out hmd (fun g hg => (HF6.out g hg).2)) ((Mod.refl (fun _ => False) _).alloc _) (fun _ _ h => h)) _ [.int .u32 i] 1 rfl (ReadAt.of_block 1 1 1 (heap_new rfl) (by rfl) (by simp [Value.oneCell'])) rfl (by unfold maxLen; omega) (by omega) ?_; intro a7 c7 w5 hr7 hg7 hb7; have M7 := Lib.hid (Mod.heap (Mod.of_grown (S := fun k => (Value.slice a6 pre.length c6).ownBlock = some k) hg7 (fun k e _ => e)) (fun e => (HF6.out _ e).1.2.2.1 rfl) (heap_keep M6.out)); have m7 := cell_of_row w5 _ 0 _ _ _ M7.out; have fr7 := (fun j => frozen_of_row w5 _ j _ _ M7.out)))
    have hlt5 : q + 1 + 1 < w5.heap.size := lt_of_block M7.out
    have hsz5 : w4.heap.size < w5.heap.size := by have := hg7.size; simp at this; omega
    have o6 : ∀ k, (Value.slice a6 pre.length c6).ownBlock = some k → k < W.heap.size := fun k e => owns_lt HR6.out e
    have hA : Mod D W (w4.alloc (.cells #[.int .u32 i] 43)) := hmd.alloc _
    have hB5 : Mod (fun k => (Value.slice a6 pre.length c6).ownBlock = some k ∨ k = q + 1 + 1) w4 (w5.setCell ⟨q + 1 + 1, 0, none⟩ (.slice a7 (pre.length + 1) c7)) :=
      (((Mod.refl _ _).alloc (.cells #[.int .u32 i] 43)).then (Mod.of_grown (S := fun k => (Value.slice a6 pre.length c6).ownBlock = some k) hg7 (fun k e _ => e)) (fun _ _ h => .inl h)).setCell (fun _ => .inr rfl) _
    have hM6 : Mod (fun k => D k ∨ (Value.slice a6 pre.length c6).ownBlock = some k ∨ k = q + 1 + 1) W (w5.setCell ⟨q + 1 + 1, 0, none⟩ (.slice a7 (pre.length + 1) c7)) :=
      (hmd.mono (fun _ _ h => .inl h)).then hB5 (fun _ _ h => .inr h)
    have hfar : ∀ k, (Value.slice a7 (pre.length + 1) c7).ownBlock = some k → farC w (q + 1) (q + 1 + 1) It k ∧ ¬ D' k := by
      intro k hk
      rcases hb7 with e | e <;> rw [e] at hk
      · refine ⟨(HF6.out k hk).1, fun hd => ?_⟩
        rcases hgr k hd with h | h
        · exact (HF6.out k hk).2 h
        · have := o6 k hk; omega
      · have hk2 : w4.heap.size + 1 = k := by simpa using hk
        exact ⟨⟨by omega, by omega, by omega, fun h => by have := hItlt k h; have := hmd.size; omega⟩, fun hd => by have := hlg2.lt hd; omega⟩
    have hTf : ∀ k, (D k ∨ (Value.slice a6 pre.length c6).ownBlock = some k ∨ k = q + 1 + 1) → w.heap.size + 1 + 1 < k ∧ k ≠ q + 1 ∧ ¬ It k := by
      rintro k (h | h | rfl)
      · obtain ⟨f1, f2, _, f3⟩ := HCI.out.dd k h; exact ⟨f1, f2, f3⟩
      · obtain ⟨f1, f2, _, f3⟩ := (HF6.out k h).1; exact ⟨f1, f2, f3⟩
      · exact ⟨by omega, by omega, HIQ.out _ (by omega) (by omega)⟩
    have kp : ∀ k o, (k ≤ w.heap.size + 1 + 1 ∨ k = q + 1) → W.heap[k]? = some o → (w5.setCell ⟨q + 1 + 1, 0, none⟩ (.slice a7 (pre.length + 1) c7)).heap[k]? = some o := fun k o hk ho => hM6.heap (fun h => by obtain ⟨f1, f2, _⟩ := hTf k h; omega) ho
    have hns6 : ∀ k, (Value.slice a7 (pre.length + 1) c7).ownBlock = some k → ¬ k = q + 1 + 1 := fun k hk => (hfar k hk).1.2.2.1
    refine ⟨KeepsRec.of_mod hM6 ?_, KeepsIt.of_mod hM6 (fun k hk h => (hTf k h).2.2 hk), ⟨D', kp _ _ (by omega) HCI.out.r0, kp _ _ (by omega) HCI.out.r1, kp _ _ (by omega) HCI.out.r2, kp _ _ (by omega) HCI.out.o5, ⟨a7, c7, ?_, ?_, ?_⟩, ⟨sv2, _, hlg2.frame hB5 ?_ ?_, ?_⟩, ?_, ?_⟩, ?_⟩
    · intro k _ h o ho
      rcases h with h | h | rfl
      · rcases (HLG.out.dd k).1 h with rfl | e
        · rw [HLG.out.box] at ho; cases ho; rfl
        · obtain ⟨c, e⟩ := owns_type HLG.out.row e; rw [e] at ho; cases ho; rfl
      · obtain ⟨c, e⟩ := owns_type HR6.out h; rw [e] at ho; cases ho; rfl
      · rw [h6] at ho; cases ho; rfl
    · rw [List.length_append]
      simpa using heap_setCell_same w5 _ 0 _ _ (.slice a7 (pre.length + 1) c7) M7.out
    · rw [List.length_append, List.map_append]
      exact owns_mod hr7 ((Mod.refl (fun k => k = q + 1 + 1) w5).setCell (fun _ => rfl) _) hns6
    · rw [List.length_append]; exact hfar
    · rintro k hd (h | rfl)
      · rcases hgr k hd with h' | h'
        · exact (HF6.out k h).2 h'
        · have := o6 k h; omega
      · rcases hgr _ hd with h' | h'
        · exact ND.out _ (by omega) h'
        · omega
    · rintro k hk (h | rfl) cs fz e
      · obtain ⟨c, e'⟩ := owns_type (owns_mod HR6.out hmd (fun g hg => (HF6.out g hg).2)) h
        rw [e'] at e; cases e
      · rw [M6.out] at e; cases e
    · rw [List.map_append, HM1.out, List.map_append]; rfl
    · intro k hd
      rcases hgr k hd with h | h
      · exact HCI.out.dd k h
      · exact ⟨by omega, by omega, by omega, fun h' => by have := hItlt k h'; omega⟩
    · exact HCI.out.pu.then hM6 (fun k hk h => by have := (hTf k h).1; omega)
    · exact Nat.le_trans hWs hM6.size
  case done =>
    rintro l xs W hl hS ⟨⟨D, hI⟩, hWs⟩ hK
    have h0 := hI.r0
    have h1 := hI.r1
    have h2 := hI.r2
    have h5 := hI.o5
    obtain ⟨a6, c6, h6, hr6, hf6⟩ := hI.o6
    have HCI := Lib.hid hI
    have HS := Lib.hid hS
    have HK := Lib.hid hK
    have HR6 := Lib.hid hr6
    have HF6 := Lib.hid hf6
    have e0 := cell_of_row W _ 0 _ _ _ h0; have e1 := cell_of_row W _ 0 _ _ _ h1; have e11 := cell_of_row W _ 1 _ _ _ h1; have e2 := cell_of_row W _ 0 _ _ _ h2
    have e5 := cell_of_row W _ 0 _ _ _ h5; have e6 := cell_of_row W _ 0 _ _ _ h6; have e61 := cell_of_row W _ 1 _ _ _ h6
    simp at e0 e1 e11 e2 e5 e6 e61
    have hlt := lt_of_block h0; have hlt1 := lt_of_block h1; have hlt2 := lt_of_block h2
    clear hI hS hK hr6 hf6 HC hI0 HI hItlt
    have fr0 := fun j => frozen_of_row W _ j _ _ h0; have fr1 := fun j => frozen_of_row W _ j _ _ h1; have fr2 := fun j => frozen_of_row W _ j _ _ h2
    gi_wp2
    gi_region
    gi_wp2
    obtain ⟨Wf, hWf⟩ : ∃ Wf, ((((W.setCell ⟨w.heap.size, 0, none⟩ (.pointer (some ⟨q, 0, none⟩))).setCell ⟨w.heap.size + 1, 0, none⟩ (.slice a6 xs.length c6)).setCell ⟨w.heap.size + 1, 1, none⟩ (.int .i64 M.length)).setCell ⟨w.heap.size + 1 + 1, 0, none⟩ (.int .i64 0)).drew = Wf := ⟨_, rfl⟩
    have k0 : Wf.heap[w.heap.size]? = some (.cells #[.pointer (some ⟨q, 0, none⟩)] 58 (0, 0)) := by
      rw [← hWf]
      exact heap_set_other (heap_set_other (heap_set_other (heap_setCell_same W _ 0 _ _ (.pointer (some ⟨q, 0, none⟩)) h0) (by simp)) (by simp)) (by dsimp only; omega)
    have k1 : Wf.heap[w.heap.size + 1]? = some (.cells #[.slice a6 xs.length c6, .int .i64 M.length] 81 (0, 0)) := by
      rw [← hWf]
      exact heap_set_other (heap_setCell_same _ _ 1 _ _ (.int .i64 M.length) (heap_setCell_same _ _ 0 _ _ (.slice a6 xs.length c6) (heap_set_other h1 (by simp)))) (by simp)
    have k2 : Wf.heap[w.heap.size + 1 + 1]? = some (.cells #[.int .i64 0] 44 (0, 0)) := by
      rw [← hWf]
      exact heap_setCell_same _ _ 0 _ _ (.int .i64 0) (heap_set_other (heap_set_other (heap_set_other h2 (by dsimp only; omega)) (by simp)) (by simp))
    have hMf : Mod (fun k => w.heap.size ≤ k ∧ k ≤ w.heap.size + 1 + 1) W Wf := by
      rw [← hWf]
      exact (((((Mod.refl _ W).setCell (fun _ => ⟨by dsimp only; omega, by dsimp only; omega⟩) _).setCell (fun _ => ⟨by dsimp only; omega, by dsimp only; omega⟩) _).setCell (fun _ => ⟨by dsimp only; omega, by dsimp only; omega⟩) _).setCell (fun _ => ⟨by dsimp only; omega, by dsimp only; omega⟩) _).drew
    rw [hWf]
    have hKf : Wf.heap[l]? = some (.deferred (some [])) := hMf.heap (by omega) HK.out
    clear hWf h0 h1 h2 h5 h6 e0 e1 e11 e2 e5 e6 e61 fr0 fr1 fr2
    have hq : Quiet w3.heap.size Wf (Wf.putObj l (.deferred none)) := Quiet.putObj _ hl hKf rfl
    have z0 := cell_of_row _ _ 0 _ _ _ (hq.cells k0)
    have z1 := cell_of_row _ _ 0 _ _ _ (hq.cells k1)
    have z11 := cell_of_row _ _ 1 _ _ _ (hq.cells k1)
    have z2 := cell_of_row _ _ 0 _ _ _ (hq.cells k2)
    simp at z0 z1 z11 z2
    have hxs : (live (M.map Prod.fst)).length = xs.length := by rw [← HS.out, List.length_map]
    have hnot : ∀ k, w.heap.size + 1 + 1 < k → ¬ (w.heap.size ≤ k ∧ k ≤ w.heap.size + 1 + 1) := fun k h1 h2 => by omega
    refine bodyPostM_drained (v := .tuple #[.pointer (some ⟨q, 0, none⟩), .agg #[.slice a6 xs.length c6, .int .i64 M.length], .int .i64 0]) hKf (by simp [results, Tryz.results87, go_sem, z0, z1, z11, z2]) ?_
    obtain ⟨sv1, M1, hlg, hM1⟩ := HCI.out.lg
    refine ⟨q, a6, c6, D, sv1, M1, by rw [hxs, List.length_map], (hlg.frame hMf (fun k hk => hnot k (HCI.out.dd k hk).1) (fun k _ hk cs fz e => ?_)).quiet hq, ?_, ?_, ?_, fun k hk => by have := (HCI.out.dd k hk).1; omega, ?_⟩
    · have : k = w.heap.size ∨ k = w.heap.size + 1 ∨ k = w.heap.size + 1 + 1 := by omega
      rcases this with rfl | rfl | rfl
      · rw [HCI.out.r0] at e; cases e
      · rw [HCI.out.r1] at e; cases e
      · rw [HCI.out.r2] at e; cases e
    · rw [hM1, ← HS.out, List.map_map]; rfl
    · rw [hxs, ← HS.out, List.map_map]
      exact hq.owns (owns_mod HR6.out hMf (fun g hg => hnot g (HF6.out g hg).1.1))
    · exact hq.mod (HCI.out.pu.then hMf (fun k hk h => by omega)) hlw
    · rw [hxs]
      exact fun k hk => by have := (HF6.out k hk).1.1; omega
  case stop => exact fun _ _ _ _ _ h _ => h.elim
end Go.Proofs.YtapplindfijngaaGreat
