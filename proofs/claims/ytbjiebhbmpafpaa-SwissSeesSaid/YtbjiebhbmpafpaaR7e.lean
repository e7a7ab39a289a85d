/- The reference of layer 7: Remove, Replace. -/
import Derived.Test.YtbjiebhbmpafpaaR7d
namespace Go.Proofs.Ytbjiebhbmpafpaa
open Go.RowKit Go.Shelf
set_option maxRecDepth 100000

/-- The two rows of an index, whatever they hold. -/
structure Rows2 (W : World) (B1 B2 cC cS n : Nat) (xs ys : List Value) : Prop where
  C : W.ownsRow 0 5 1 (.slice (some ⟨B1, 0, none⟩) n cC) n xs
  S : W.ownsRow 0 43 1 (.slice (some ⟨B2, 0, none⟩) n cS) n ys
section
variable {W W' : World} {B1 B2 cC cS n : Nat} {xs ys : List Value}
theorem Rows2.ne (h : Rows2 W B1 B2 cC cS n xs ys) : B1 ≠ B2 := fun e => by
  obtain ⟨c1, e1⟩ := owns_type h.C (g := B1) rfl
  obtain ⟨c2, e2⟩ := owns_type h.S (g := B2) rfl
  rw [e, e2] at e1; cases e1
theorem Rows2.nb (h : Rows2 W B1 B2 cC cS n xs ys) {bb : Nat} {cs : Array Value} (hbb : W.heap[bb]? = some (.cells cs 82 (0, 0))) : bb ≠ B1 ∧ bb ≠ B2 := by
  constructor
  · intro e
    obtain ⟨cc, e2⟩ := owns_type h.C (g := B1) rfl
    rw [e, e2] at hbb; cases hbb
  · intro e
    obtain ⟨cc, e2⟩ := owns_type h.S (g := B2) rfl
    rw [e, e2] at hbb; cases hbb
theorem Rows2.putC (h : Rows2 W B1 B2 cC cS n xs ys) {k : Nat} {u : Value} (hk : k < n) : Rows2 (W.setCell ⟨B1, k, none⟩ u) B1 B2 cC cS n (xs.set k u) ys ∧ Mod (fun j => j = B1) W (W.setCell ⟨B1, k, none⟩ u) :=
  ⟨⟨owns_setCell h.C k u (by omega), owns_mod h.S (Mod.set1 B1 k u) (fun g hg e => h.ne (by
    have : B2 = g := by simpa [Value.ownBlock] using hg
    exact e.symm.trans this.symm))⟩, Mod.set1 _ _ _⟩
theorem Rows2.putS (h : Rows2 W B1 B2 cC cS n xs ys) {k : Nat} {u : Value} (hk : k < n) : Rows2 (W.setCell ⟨B2, k, none⟩ u) B1 B2 cC cS n xs (ys.set k u) ∧ Mod (fun j => j = B2) W (W.setCell ⟨B2, k, none⟩ u) :=
  ⟨⟨owns_mod h.C (Mod.set1 B2 k u) (fun g hg e => h.ne (by
    have : B1 = g := by simpa [Value.ownBlock] using hg
    exact this.trans e)), owns_setCell h.S k u (by omega)⟩, Mod.set1 _ _ _⟩
theorem Rows2.cell (h : Rows2 W B1 B2 cC cS n xs ys) {k : Nat} (hk : k < n) : (∃ u, W.cell? ⟨B1, k, none⟩ = some u) ∧ (∃ u, W.cell? ⟨B2, k, none⟩ = some u) ∧ (∀ j, W.frozen? ⟨B1, j, none⟩ = false) ∧ (∀ j, W.frozen? ⟨B2, j, none⟩ = false) ∧ n ≤ cC ∧ n ≤ cS := by
  obtain ⟨B1', c1, e1, l1, _, h1, f1, _⟩ := owns_at h.C (by omega)
  obtain ⟨B2', c2, e2, l2, _, h2, f2, _⟩ := owns_at h.S (by omega)
  cases e1; cases e2
  have hl1 := h.C.1; have hl2 := h.S.1
  exact ⟨⟨_, h1 k _ (List.getElem?_eq_getElem (by omega))⟩, ⟨_, h2 k _ (List.getElem?_eq_getElem (by omega))⟩, f1, f2, l1, l2⟩
theorem Rows2.pure (h : Rows2 W B1 B2 cC cS n xs ys) (hp : Pure W W') : Rows2 W' B1 B2 cC cS n xs ys := ⟨owns_mod h.C hp (fun _ _ h => h), owns_mod h.S hp (fun _ _ h => h)⟩
theorem RefI.rows {Gs : List Grp} (h : RefI W (some ⟨B1, 0, none⟩) cC (some ⟨B2, 0, none⟩) cS Gs) (hn : 8 * Gs.length = n) : Rows2 W B1 B2 cC cS n (u8s (laneC Gs)) (u32v (laneS Gs)) := by
  subst hn; exact ⟨h.C, h.S⟩
theorem Rows2.refI {Gs : List Grp} {i j t s : Nat} (h : Rows2 W B1 B2 cC cS n ((u8s (laneC Gs)).set (8 * i + j) (.int .u8 (t : Nat))) ((u32v (laneS Gs)).set (8 * i + j) (.int .u32 (s : Nat)))) (hn : 8 * Gs.length = n) (hok : IxOk Gs) (hi : i < Gs.length) (hj : j < 8) (ht : t < 128 ∨ t = 128 ∨ t = 254) (hs : s ≤ 4294967295) :
    RefI W (some ⟨B1, 0, none⟩) cC (some ⟨B2, 0, none⟩) cS (setG Gs i j t s) := by
  have hok' := hok.put (i := i) (j := j) ht hs
  subst hn
  refine ⟨?_, ?_, hok'⟩
  · rw [setG_length, laneC_set hok hok' hi hj]
    have := h.C
    unfold u8s at this ⊢
    rw [List.map_set]
    exact this
  · rw [setG_length, laneS_set hok hok' hi hj]
    have := h.S
    unfold u32v at this ⊢
    rw [List.map_set]
    exact this
end
/-- The same lane again. -/
theorem u32v_same {Gs : List Grp} (h : IxOk Gs) {i j : Nat} (hi : i < Gs.length) (hj : j < 8) : (u32v (laneS Gs)).set (8 * i + j) (.int .u32 (slotAt Gs (i, j) : Nat)) = u32v (laneS Gs) := by
  have h1 : (u32v (laneS Gs))[8 * i + j]? = some (.int .u32 (slotAt Gs (i, j) : Nat)) := by
    unfold u32v
    rw [List.getElem?_map]
    have := slot_some h (x := (i, j)) hi hj
    unfold lane at this
    rw [this]
    rfl
  obtain ⟨hl, he⟩ := List.getElem?_eq_some_iff.1 h1
  have := List.set_getElem_self hl
  rwa [he] at this
theorem u8s_same {Gs : List Grp} (h : IxOk Gs) {i j t : Nat} (hi : i < Gs.length) (hj : j < 8) (ht : (grpAt Gs i).1[j]? = some t) : (u8s (laneC Gs)).set (8 * i + j) (.int .u8 (t : Nat)) = u8s (laneC Gs) := by
  have h1 : (u8s (laneC Gs))[8 * i + j]? = some (.int .u8 (t : Nat)) := by
    unfold u8s
    rw [List.getElem?_map, laneC_at h hi hj, ht]
    rfl
  obtain ⟨hl, he⟩ := List.getElem?_eq_some_iff.1 h1
  have := List.set_getElem_self hl
  rwa [he] at this
/-- What is known while a copy is changed: the copy's rows, the boxes, the index that was copied. -/
structure RS (w : World) (b b11 : Nat) (aC : Option Addr) (cC : Nat) (aS : Option Addr) (cS : Nat) (Gs : List Grp) (B5 B6 cC5 cS5 n : Nat) (xs ys : List Value) (W : World) : Prop where
  pu : Pure w W
  rows : Rows2 W B5 B6 cC5 cS5 n xs ys
  h11 : W.heap[b11]? = some (.cells #[.slice (some ⟨B5, 0, none⟩) n cC5, .slice (some ⟨B6, 0, none⟩) n cS5] 82 (0, 0))
  h6 : W.heap[b + 1]? = some (.cells #[.slice none 0 0, .slice none 0 0] 82 (0, 0))
  hb : W.heap[b]? = some (.cells #[.slice aC n cC, .slice aS n cS] 82 (0, 0))
  ro : RefI W aC cC aS cS Gs
  ne : ∀ g, ((Value.slice aC (8 * Gs.length) cC).ownBlock = some g ∨ (Value.slice aS (8 * Gs.length) cS).ownBlock = some g) → g ≠ B5 ∧ g ≠ B6
  f5 : w.heap.size ≤ B5
  f6 : w.heap.size ≤ B6
section
variable {w : World} {b b11 : Nat} {aC : Option Addr} {cC : Nat} {aS : Option Addr} {cS : Nat} {Gs : List Grp} {B5 B6 cC5 cS5 n : Nat} {xs ys : List Value} {W W' : World}
theorem RS.pure (h : RS w b b11 aC cC aS cS Gs B5 B6 cC5 cS5 n xs ys W) (hp : Pure W W') : RS w b b11 aC cC aS cS Gs B5 B6 cC5 cS5 n xs ys W' :=
  ⟨h.pu.trans hp, h.rows.pure hp, hp.heap (fun h => h) h.h11, hp.heap (fun h => h) h.h6, hp.heap (fun h => h) h.hb, h.ro.pure hp, h.ne, h.f5, h.f6⟩
theorem RS.putC (h : RS w b b11 aC cC aS cS Gs B5 B6 cC5 cS5 n xs ys W) {k : Nat} {u : Value} (hk : k < n) (hW : W.setCell ⟨B5, k, none⟩ u = W') : RS w b b11 aC cC aS cS Gs B5 B6 cC5 cS5 n (xs.set k u) ys W' := by
  obtain ⟨h1, h2⟩ := h.rows.putC (u := u) hk
  rw [hW] at h1 h2
  exact ⟨h.pu.then h2 (fun i hi e => by have := h.f5; omega), h1, h2.heap (h.rows.nb h.h11).1 h.h11, h2.heap (h.rows.nb h.h6).1 h.h6, h2.heap (h.rows.nb h.hb).1 h.hb, ⟨owns_mod h.ro.C h2 (fun g hg e => (h.ne g (.inl hg)).1 e), owns_mod h.ro.S h2 (fun g hg e => (h.ne g (.inr hg)).1 e), h.ro.ok⟩, h.ne, h.f5, h.f6⟩
theorem RS.putS (h : RS w b b11 aC cC aS cS Gs B5 B6 cC5 cS5 n xs ys W) {k : Nat} {u : Value} (hk : k < n) (hW : W.setCell ⟨B6, k, none⟩ u = W') : RS w b b11 aC cC aS cS Gs B5 B6 cC5 cS5 n xs (ys.set k u) W' := by
  obtain ⟨h1, h2⟩ := h.rows.putS (u := u) hk
  rw [hW] at h1 h2
  exact ⟨h.pu.then h2 (fun i hi e => by have := h.f6; omega), h1, h2.heap (h.rows.nb h.h11).2 h.h11, h2.heap (h.rows.nb h.h6).2 h.h6, h2.heap (h.rows.nb h.hb).2 h.hb, ⟨owns_mod h.ro.C h2 (fun g hg e => (h.ne g (.inl hg)).2 e), owns_mod h.ro.S h2 (fun g hg e => (h.ne g (.inr hg)).2 e), h.ro.ok⟩, h.ne, h.f5, h.f6⟩
/-- The end: the copy is the result. -/
theorem RS.fin (h : RS w b b11 aC cC aS cS Gs B5 B6 cC5 cS5 n xs ys W) (hb : w.heap.size ≤ b) (hW : (W.setCell ⟨b + 1, 0, none⟩ (.slice (some ⟨B5, 0, none⟩) n cC5)).setCell ⟨b + 1, 1, none⟩ (.slice (some ⟨B6, 0, none⟩) n cS5) = W') :
    Pure w W' ∧ Rows2 W' B5 B6 cC5 cS5 n xs ys ∧ W'.cell? ⟨b + 1, 0, none⟩ = some (.slice (some ⟨B5, 0, none⟩) n cC5) ∧ W'.cell? ⟨b + 1, 1, none⟩ = some (.slice (some ⟨B6, 0, none⟩) n cS5) := by
  have m2 := heap_set12 (v0 := .slice (some ⟨B5, 0, none⟩) n cC5) (v1 := .slice (some ⟨B6, 0, none⟩) n cS5) h.h6
  have hm : Mod (fun i => i = b + 1) W ((W.setCell ⟨b + 1, 0, none⟩ (.slice (some ⟨B5, 0, none⟩) n cC5)).setCell ⟨b + 1, 1, none⟩ (.slice (some ⟨B6, 0, none⟩) n cS5)) := Mod.set2 (b + 1) 0 1 _ _
  rw [hW] at m2 hm
  have x0 := cell_of_row _ (b + 1) 0 _ _ _ m2; have x1 := cell_of_row _ (b + 1) 1 _ _ _ m2
  have hn := h.rows.nb h.h6
  exact ⟨h.pu.then hm (fun i hi e => by omega), ⟨owns_mod h.rows.C hm (fun g hg e => hn.1 (by
    have : B5 = g := by simpa [Value.ownBlock] using hg
    exact e.symm.trans this.symm)), owns_mod h.rows.S hm (fun g hg e => hn.2 (by
    have : B6 = g := by simpa [Value.ownBlock] using hg
    exact e.symm.trans this.symm))⟩, x0, x1⟩
theorem RS.new {w2 w5 : World} {aC5 aS5 : Option Addr} (hR : RBox w b aC cC aS cS Gs w2) (h6 : w2.heap[b + 1]? = some (.cells #[.slice none 0 0, .slice none 0 0] 82 (0, 0))) (hn : 8 * Gs.length = n) (hR5 : RefI w5 aC5 cC5 aS5 cS5 Gs) (hp5 : Pure w2 w5)
    (f1 : ∀ k, (Value.slice aC5 n cC5).ownBlock = some k → w2.heap.size ≤ k) (f2 : ∀ k, (Value.slice aS5 n cS5).ownBlock = some k → w2.heap.size ≤ k) (hb11 : w5.heap.size = b11) (hW : w5.alloc (.cells #[.slice aC5 n cC5, .slice aS5 n cS5] 82) = W) :
    ∃ B5 B6, aC5 = some ⟨B5, 0, none⟩ ∧ aS5 = some ⟨B6, 0, none⟩ ∧ RS w b b11 aC cC aS cS Gs B5 B6 cC5 cS5 n (u8s (laneC Gs)) (u32v (laneS Gs)) W := by
  have hal : Pure w5 W := by rw [← hW]; exact (Mod.refl _ w5).alloc _
  have h11 : W.heap[b11]? = some (.cells #[.slice aC5 n cC5, .slice aS5 n cS5] 82 (0, 0)) := by rw [← hW]; exact heap_new hb11.symm
  obtain ⟨B5, B6, e1, e2, _, _, _, _⟩ := hR5.cells
  subst e1 e2
  refine ⟨B5, B6, rfl, rfl, (hR.pu.trans hp5).trans hal, (hR5.pure hal).rows hn, h11, (hp5.trans hal).heap (fun h => h) h6, ?_, hR.rf.pure (hp5.trans hal), fun g hg => ?_, Nat.le_trans hR.pu.size (f1 B5 rfl), Nat.le_trans hR.pu.size (f2 B6 rfl)⟩
  · have := (hp5.trans hal).heap (fun h => h) hR.bx
    rw [hn] at this
    exact this
  · have hl : g < w2.heap.size := by
      rcases hg with e | e
      · exact owns_lt hR.rf.C e
      · exact owns_lt hR.rf.S e
    have := f1 B5 rfl; have := f2 B6 rfl
    constructor <;> omega
end
def rRemPost (w : World) (aC : Option Addr) (cC : Nat) (aS : Option Addr) (cS : Nat) (Gs : List Grp) (sum slot : Nat) (e : Ending) (w' : World) : Prop :=
  Pure w w' ∧ match findM Gs sum (fun x => x == slot) with
  | some x => ∃ aC' cC' aS' cS', e = .returned (.tuple #[refI aC' cC' aS' cS' Gs.length, .int .i64 0]) ∧ RefI w' aC' cC' aS' cS' (delG Gs x.1 x.2)
  | none => e = .returned (.tuple #[refI aC cC aS cS Gs.length, .int .i64 9]) ∧ RefI w' aC cC aS cS Gs
set_option maxHeartbeats 4000000 in
theorem rRemove_ok {w : World} {aC : Option Addr} {cC : Nat} {aS : Option Addr} {cS : Nat} {Gs : List Grp} (h : RefI w aC cC aS cS Gs) (sum slot : Nat) (hsum : sum < 18446744073709551616) (hsl : slot ≤ 4294967295) : Calls Try.prog 95 #[refI aC cC aS cS Gs.length, .int .u64 sum, .int .u32 slot] w (rRemPost w aC cC aS cS Gs sum slot) := by
  have hg1 := h.ok.pow.le
  have HOK := Lib.hid h.ok
  have hR0 := RBox.new h
  have hal : Pure (w.alloc (.cells #[.slice aC (8 * Gs.length) cC, .slice aS (8 * Gs.length) cS] 82)) ((w.alloc (.cells #[.slice aC (8 * Gs.length) cC, .slice aS (8 * Gs.length) cS] 82)).alloc (.cells #[.slice none 0 0, .slice none 0 0] 82)) := (Mod.refl _ _).alloc _
  have hR := hR0.pure hal
  have h6 := heap_new (w := w.alloc (.cells #[.slice aC (8 * Gs.length) cC, .slice aS (8 * Gs.length) cS] 82)) (o := .cells #[.slice none 0 0, .slice none 0 0] 82 (0, 0)) (n := w.heap.size + 1) (by simp)
  clear h hR0 hal
  unfold refI
  go_enter Try.func95, Try.ntmps95
  go_upto_region 1 with fail
  generalize (w.alloc (.cells #[.slice aC (8 * Gs.length) cC, .slice aS (8 * Gs.length) cS] 82)).alloc (.cells #[.slice none 0 0, .slice none 0 0] 82) = W at *
  obtain ⟨b, hb⟩ : ∃ b, w.heap.size = b := ⟨_, rfl⟩
  rw [hb] at hR h6 ⊢
  have HR := Lib.hid hR
  have H6 := Lib.hid h6
  have hbx := hR.bx
  have HB := Lib.hid hb
  have hAt := rAt_ok hR.rf sum slot hsum hsl
  have hCp := fun (W2 : World) (hW : RefI W2 aC cC aS cS Gs) => rCopy_ok hW
  have hHs := fun (W2 : World) (hW : RefI W2 aC cC aS cS Gs) (i : Nat) (hi : i < Gs.length) => rHas_ok hW i hi
  obtain ⟨n, hn⟩ : ∃ n, 8 * Gs.length = n := ⟨_, rfl⟩
  unfold refI at hAt hCp hHs
  rw [hn] at hAt hCp hHs hbx ⊢
  have HAt := Lib.hid hAt; have HCp := Lib.hid hCp; have HHs := Lib.hid hHs; have HN := Lib.hid hn
  clear hR hb h6 hAt hCp hHs hn
  have hbx_0 := cell_of_row _ _ 0 _ _ _ hbx; have hbx_1 := cell_of_row _ _ 1 _ _ _ hbx; have hbx_f := (fun j => frozen_of_row _ _ j _ _ hbx); have hbx_l := lt_of_block hbx; simp at hbx_0 hbx_1; have H_hbx := Lib.hid hbx; clear hbx
  rcases hfm : findM Gs sum (fun x => x == slot) with _ | ⟨i, j⟩
  · have HFM := Lib.hid hfm
    rw [hfm] at HAt
    clear hfm
    go_upto_region 3 with (go_at_call 127; refine Calls.mono HAt.out ?_; unfold atPost; rintro e w2 ⟨rfl, hp2⟩)
    have HP2 := Lib.hid hp2
    have k6 := hp2.heap (fun h => h) H6.out
    have kb := hp2.heap (fun h => h) H_hbx.out
    clear hbx_0 hbx_1 hbx_f hbx_l
    clear H_hbx hp2
    have k6_0 := cell_of_row _ _ 0 _ _ _ k6; have k6_1 := cell_of_row _ _ 1 _ _ _ k6; have k6_f := (fun j => frozen_of_row _ _ j _ _ k6); have k6_l := lt_of_block k6; simp at k6_0 k6_1; have H_k6 := Lib.hid k6; clear k6
    have kb_0 := cell_of_row _ _ 0 _ _ _ kb; have kb_1 := cell_of_row _ _ 1 _ _ _ kb; have kb_f := (fun j => frozen_of_row _ _ j _ _ kb); have kb_l := lt_of_block kb; simp at kb_0 kb_1; have H_kb := Lib.hid kb; clear kb
    go_wp2
    have m2 := heap_set12 (v0 := .slice aC n cC) (v1 := .slice aS n cS) H_k6.out
    have hm : Mod (fun i => i = b + 1) w2 ((w2.setCell ⟨b + 1, 0, none⟩ (.slice aC n cC)).setCell ⟨b + 1, 1, none⟩ (.slice aS n cS)) := Mod.set2 (b + 1) 0 1 _ _
    have x0 := cell_of_row _ (b + 1) 0 _ _ _ m2; have x1 := cell_of_row _ (b + 1) 1 _ _ _ m2
    simp at x0 x1
    have hne : ∀ i, i = b + 1 → i < w2.heap.size → ∃ cs T' fz, w2.heap[i]? = some (.cells cs T' fz) ∧ T' ≠ 5 ∧ T' ≠ 43 := fun i e _ => ⟨_, _, _, e ▸ H_k6.out, by decide, by decide⟩
    refine bodyPost_ret (v := .tuple #[refI aC cC aS cS Gs.length, .int .i64 9]) (by unfold refI; rw [HN.out]; simp [results, Try.results95, go_sem, x0, x1]) rfl ⟨(HR.out.pu.trans HP2.out).then hm (fun i hi e => by have := HB.out; omega), ?_⟩
    rw [HFM.out]
    exact ⟨rfl, (HR.out.rf.pure HP2.out).modT hm hne⟩
  · have hf := seen_full HOK.out (List.mem_of_find?_eq_some hfm)
    have hi := hf.hi; have hj := hf.hj
    have hsle : slotAt Gs (i, j) = slot := by have := List.find?_some hfm; simpa using this
    have HFM := Lib.hid hfm; have HF := Lib.hid hf; have HSL := Lib.hid hsle
    rw [hfm] at HAt
    clear hfm hf hsle
    have hat : atPost (some (i, j)) = ((8 * i + j : Nat) : Int) := rfl
    rw [hat] at HAt
    have hdiv : (8 * i + j) / 8 = i := by omega
    have hkn : 8 * i + j < n := by have := HN.out; omega
    obtain ⟨k, hk⟩ : ∃ k, 8 * i + j = k := ⟨_, rfl⟩
    rw [hk] at HAt hdiv hkn
    have HK := Lib.hid hk
    clear hk hat
    have hn8 : n ≤ 8388608 := by have := HN.out; omega
    have e1 : (k : Int).tdiv 8 = (i : Int) := by rw [Int.tdiv_eq_ediv_of_nonneg (by omega)]; omega
    have e2 : (k : Int) / 8 = (i : Int) := by omega
    have wi : IntKind.i64.wrap (i : Int) = i := IntWalk.i64_in _ (by omega)
    have hk0 : (0 : Int) ≤ k := by omega
    clear hdiv
    go_upto_region 4 with (go_at_call 127; refine Calls.mono HAt.out ?_; rintro e w2 ⟨rfl, hp2⟩)
    have HB2 := Lib.hid (HR.out.pure hp2)
    have H62 := Lib.hid (hp2.heap (fun h => h) H6.out)
    have kb := hp2.heap (fun h => h) H_hbx.out
    clear hbx_0 hbx_1 hbx_f hbx_l
    clear H_hbx hp2 HR H6 HAt
    have kb_0 := cell_of_row _ _ 0 _ _ _ kb; have kb_1 := cell_of_row _ _ 1 _ _ _ kb; have kb_f := (fun j => frozen_of_row _ _ j _ _ kb); have kb_l := lt_of_block kb; simp at kb_0 kb_1; have H_kb := Lib.hid kb; clear kb
    go_upto_region 5 with (go_at_call 126; refine Calls.mono (HCp.out _ HB2.out.rf) ?_; rintro e w5 ⟨aC5, cC5, aS5, cS5, rfl, hR5, hp5, hf51, hf52⟩)
    obtain ⟨W5, hW5⟩ : ∃ W5, w5.alloc (.cells #[.slice aC5 n cC5, .slice aS5 n cS5] 82) = W5 := ⟨_, rfl⟩
    obtain ⟨b11, hb11⟩ : ∃ b11, w5.heap.size = b11 := ⟨_, rfl⟩
    have hnew := RS.new HB2.out H62.out HN.out hR5 hp5 hf51 hf52 hb11 hW5
    rw [hW5, hb11]
    obtain ⟨B5, B6, e5, e6, hrs⟩ := hnew
    subst e5 e6
    have HS := Lib.hid hrs
    clear kb_0 kb_1 kb_f kb_l
    clear H_kb hR5 hp5 hf51 hf52 hb11 hW5 hrs H62 HCp
    have z11 := HS.out.h11
    obtain ⟨⟨u5, c5⟩, ⟨u6, c6⟩, fz5, fz6, l5, l6⟩ := HS.out.rows.cell hkn
    have hkn' : (k : Int) < (n : Int) := by omega
    have z11_0 := cell_of_row _ _ 0 _ _ _ z11; have z11_1 := cell_of_row _ _ 1 _ _ _ z11; have z11_f := (fun j => frozen_of_row _ _ j _ _ z11); have z11_l := lt_of_block z11; simp at z11_0 z11_1; have H_z11 := Lib.hid z11; clear z11
    go_upto_region 6 with fail
    have HS6 := Lib.hid (HS.out.putS (k := k) (u := .int .u32 0) hkn rfl)
    clear z11_0 z11_1 z11_f z11_l
    clear H_z11 HS c5 c6 fz5 fz6
    generalize W5.setCell ⟨B6, k, none⟩ (.int .u32 0) = W6 at *
    have z11 := HS6.out.h11
    obtain ⟨⟨u5, c5⟩, ⟨u6, c6⟩, fz5, fz6, _, _⟩ := HS6.out.rows.cell hkn
    have z11_0 := cell_of_row _ _ 0 _ _ _ z11; have z11_1 := cell_of_row _ _ 1 _ _ _ z11; have z11_f := (fun j => frozen_of_row _ _ j _ _ z11); have z11_l := lt_of_block z11; simp at z11_0 z11_1; have H_z11 := Lib.hid z11; clear z11
    go_upto_region 7 with fail
    have HS7 := Lib.hid (HS6.out.putC (k := k) (u := .int .u8 254) hkn rfl)
    clear z11_0 z11_1 z11_f z11_l
    clear H_z11 HS6 c5 c6 fz5 fz6
    generalize W6.setCell ⟨B5, k, none⟩ (.int .u8 254) = W7 at *
    have zb := HS7.out.hb
    have zb_0 := cell_of_row _ _ 0 _ _ _ zb; have zb_1 := cell_of_row _ _ 1 _ _ _ zb; have zb_f := (fun j => frozen_of_row _ _ j _ _ zb); have zb_l := lt_of_block zb; simp at zb_0 zb_1; have H_zb := Lib.hid zb; clear zb
    have HHas := Lib.hid (HHs.out _ HS7.out.ro i hi)
    go_upto_if 30 with (go_at_call 103; refine Calls.mono HHas.out ?_; rintro e w8 ⟨rfl, hp8⟩)
    have HS8 := Lib.hid (HS7.out.pure hp8)
    clear zb_0 zb_1 zb_f zb_l
    clear H_zb HS7 hp8 HHas
    have z11 := HS8.out.h11
    have z6 := HS8.out.h6
    obtain ⟨⟨u5, c5⟩, ⟨u6, c6⟩, fz5, fz6, _, _⟩ := HS8.out.rows.cell hkn
    have z11_0 := cell_of_row _ _ 0 _ _ _ z11; have z11_1 := cell_of_row _ _ 1 _ _ _ z11; have z11_f := (fun j => frozen_of_row _ _ j _ _ z11); have z11_l := lt_of_block z11; simp at z11_0 z11_1; have H_z11 := Lib.hid z11; clear z11
    cases hbl : blanks (grpAt Gs i) with
    | true =>
      have her : erased (grpAt Gs i).1 = 128 := by unfold erased; rw [if_pos (by unfold blanks at hbl; exact hbl)]
      have HER := Lib.hid her
      clear hbl her
      go_upto_region 9 with fail
      have HS9 := Lib.hid (HS8.out.putC (k := k) (u := .int .u8 128) hkn rfl)
      clear z11_0 z11_1 z11_f z11_l
      clear H_z11 HS8 c5 c6 fz5 fz6 z6
      generalize w8.setCell ⟨B5, k, none⟩ (.int .u8 128) = W9 at *
      have z11 := HS9.out.h11
      have z6 := HS9.out.h6
      have z11_0 := cell_of_row _ _ 0 _ _ _ z11; have z11_1 := cell_of_row _ _ 1 _ _ _ z11; have z11_f := (fun j => frozen_of_row _ _ j _ _ z11); have z11_l := lt_of_block z11; simp at z11_0 z11_1; have H_z11 := Lib.hid z11; clear z11
      have z6_0 := cell_of_row _ _ 0 _ _ _ z6; have z6_1 := cell_of_row _ _ 1 _ _ _ z6; have z6_f := (fun j => frozen_of_row _ _ j _ _ z6); have z6_l := lt_of_block z6; simp at z6_0 z6_1; have H_z6 := Lib.hid z6; clear z6
      go_wp2
      obtain ⟨p1, p2, x0, x1⟩ := HS9.out.fin (by have := HB.out; omega) rfl
      refine bodyPost_ret (v := .tuple #[refI (some ⟨B5, 0, none⟩) cC5 (some ⟨B6, 0, none⟩) cS5 Gs.length, .int .i64 0]) (by unfold refI; rw [HN.out]; simp [results, Try.results95, go_sem, x0, x1]) rfl ⟨p1, ?_⟩
      rw [HFM.out]
      rw [List.set_set, ← HK.out] at p2
      refine ⟨_, _, _, _, rfl, ?_⟩
      show RefI _ _ _ _ _ (setG Gs i j (erased (grpAt Gs i).1) 0)
      rw [HER.out]
      exact Rows2.refI (t := 128) (s := 0) p2 HN.out HOK.out hi hj (.inr (.inl rfl)) (by decide)
    | false =>
      have her : erased (grpAt Gs i).1 = 254 := by unfold erased; rw [if_neg (by unfold blanks at hbl; simp [hbl])]
      have HER := Lib.hid her
      clear hbl her
      have z6_0 := cell_of_row _ _ 0 _ _ _ z6; have z6_1 := cell_of_row _ _ 1 _ _ _ z6; have z6_f := (fun j => frozen_of_row _ _ j _ _ z6); have z6_l := lt_of_block z6; simp at z6_0 z6_1; have H_z6 := Lib.hid z6; clear z6
      go_wp2
      obtain ⟨p1, p2, x0, x1⟩ := HS8.out.fin (by have := HB.out; omega) rfl
      refine bodyPost_ret (v := .tuple #[refI (some ⟨B5, 0, none⟩) cC5 (some ⟨B6, 0, none⟩) cS5 Gs.length, .int .i64 0]) (by unfold refI; rw [HN.out]; simp [results, Try.results95, go_sem, x0, x1]) rfl ⟨p1, ?_⟩
      rw [HFM.out]
      rw [← HK.out] at p2
      refine ⟨_, _, _, _, rfl, ?_⟩
      show RefI _ _ _ _ _ (setG Gs i j (erased (grpAt Gs i).1) 0)
      rw [HER.out]
      exact Rows2.refI (t := 254) (s := 0) p2 HN.out HOK.out hi hj (.inr (.inr rfl)) (by decide)

def rRepPost (w : World) (aC : Option Addr) (cC : Nat) (aS : Option Addr) (cS : Nat) (Gs : List Grp) (sum old slot : Nat) (e : Ending) (w' : World) : Prop :=
  Pure w w' ∧ match findM Gs sum (fun x => x == old) with
  | some x => ∃ aC' cC' aS' cS', e = .returned (.tuple #[refI aC' cC' aS' cS' Gs.length, .int .i64 0]) ∧ RefI w' aC' cC' aS' cS' (setG Gs x.1 x.2 (sum % 128) slot)
  | none => e = .returned (.tuple #[refI aC cC aS cS Gs.length, .int .i64 9]) ∧ RefI w' aC cC aS cS Gs
set_option maxHeartbeats 4000000 in
theorem rReplace_ok {w : World} {aC : Option Addr} {cC : Nat} {aS : Option Addr} {cS : Nat} {Gs : List Grp} (h : RefI w aC cC aS cS Gs) (sum old slot : Nat) (hsum : sum < 18446744073709551616) (hold : old ≤ 4294967295) (hslt : slot ≤ 4294967295) : Calls Try.prog 96 #[refI aC cC aS cS Gs.length, .int .u64 sum, .int .u32 old, .int .u32 slot] w (rRepPost w aC cC aS cS Gs sum old slot) := by
  have hg1 := h.ok.pow.le
  have HOK := Lib.hid h.ok
  have hR0 := RBox.new h
  have hal : Pure (w.alloc (.cells #[.slice aC (8 * Gs.length) cC, .slice aS (8 * Gs.length) cS] 82)) ((w.alloc (.cells #[.slice aC (8 * Gs.length) cC, .slice aS (8 * Gs.length) cS] 82)).alloc (.cells #[.slice none 0 0, .slice none 0 0] 82)) := (Mod.refl _ _).alloc _
  have hR := hR0.pure hal
  have h6 := heap_new (w := w.alloc (.cells #[.slice aC (8 * Gs.length) cC, .slice aS (8 * Gs.length) cS] 82)) (o := .cells #[.slice none 0 0, .slice none 0 0] 82 (0, 0)) (n := w.heap.size + 1) (by simp)
  clear h hR0 hal
  unfold refI
  go_enter Try.func96, Try.ntmps96
  go_upto_region 1 with fail
  generalize (w.alloc (.cells #[.slice aC (8 * Gs.length) cC, .slice aS (8 * Gs.length) cS] 82)).alloc (.cells #[.slice none 0 0, .slice none 0 0] 82) = W at *
  obtain ⟨b, hb⟩ : ∃ b, w.heap.size = b := ⟨_, rfl⟩
  rw [hb] at hR h6 ⊢
  have HR := Lib.hid hR
  have H6 := Lib.hid h6
  have hbx := hR.bx
  have HB := Lib.hid hb
  have hAt := rAt_ok hR.rf sum old hsum hold
  have hCp := fun (W2 : World) (hW : RefI W2 aC cC aS cS Gs) => rCopy_ok hW
  obtain ⟨n, hn⟩ : ∃ n, 8 * Gs.length = n := ⟨_, rfl⟩
  unfold refI at hAt hCp
  rw [hn] at hAt hCp hbx ⊢
  have HAt := Lib.hid hAt; have HCp := Lib.hid hCp; have HN := Lib.hid hn
  clear hR hb h6 hAt hCp hn
  have hbx_0 := cell_of_row _ _ 0 _ _ _ hbx; have hbx_1 := cell_of_row _ _ 1 _ _ _ hbx; have hbx_f := (fun j => frozen_of_row _ _ j _ _ hbx); have hbx_l := lt_of_block hbx; simp at hbx_0 hbx_1; have H_hbx := Lib.hid hbx; clear hbx
  rcases hfm : findM Gs sum (fun x => x == old) with _ | ⟨i, j⟩
  · have HFM := Lib.hid hfm
    rw [hfm] at HAt
    clear hfm
    go_upto_region 3 with (go_at_call 127; refine Calls.mono HAt.out ?_; unfold atPost; rintro e w2 ⟨rfl, hp2⟩)
    have HP2 := Lib.hid hp2
    have k6 := hp2.heap (fun h => h) H6.out
    have kb := hp2.heap (fun h => h) H_hbx.out
    clear hbx_0 hbx_1 hbx_f hbx_l
    clear H_hbx hp2
    have k6_0 := cell_of_row _ _ 0 _ _ _ k6; have k6_1 := cell_of_row _ _ 1 _ _ _ k6; have k6_f := (fun j => frozen_of_row _ _ j _ _ k6); have k6_l := lt_of_block k6; simp at k6_0 k6_1; have H_k6 := Lib.hid k6; clear k6
    have kb_0 := cell_of_row _ _ 0 _ _ _ kb; have kb_1 := cell_of_row _ _ 1 _ _ _ kb; have kb_f := (fun j => frozen_of_row _ _ j _ _ kb); have kb_l := lt_of_block kb; simp at kb_0 kb_1; have H_kb := Lib.hid kb; clear kb
    go_wp2
    have m2 := heap_set12 (v0 := .slice aC n cC) (v1 := .slice aS n cS) H_k6.out
    have hm : Mod (fun i => i = b + 1) w2 ((w2.setCell ⟨b + 1, 0, none⟩ (.slice aC n cC)).setCell ⟨b + 1, 1, none⟩ (.slice aS n cS)) := Mod.set2 (b + 1) 0 1 _ _
    have x0 := cell_of_row _ (b + 1) 0 _ _ _ m2; have x1 := cell_of_row _ (b + 1) 1 _ _ _ m2
    simp at x0 x1
    have hne : ∀ i, i = b + 1 → i < w2.heap.size → ∃ cs T' fz, w2.heap[i]? = some (.cells cs T' fz) ∧ T' ≠ 5 ∧ T' ≠ 43 := fun i e _ => ⟨_, _, _, e ▸ H_k6.out, by decide, by decide⟩
    refine bodyPost_ret (v := .tuple #[refI aC cC aS cS Gs.length, .int .i64 9]) (by unfold refI; rw [HN.out]; simp [results, Try.results96, go_sem, x0, x1]) rfl ⟨(HR.out.pu.trans HP2.out).then hm (fun i hi e => by have := HB.out; omega), ?_⟩
    rw [HFM.out]
    exact ⟨rfl, (HR.out.rf.pure HP2.out).modT hm hne⟩
  · have hf := seen_full HOK.out (List.mem_of_find?_eq_some hfm)
    have hi := hf.hi; have hj := hf.hj
    have HFM := Lib.hid hfm; have HF := Lib.hid hf
    rw [hfm] at HAt
    clear hfm hf
    have hat : atPost (some (i, j)) = ((8 * i + j : Nat) : Int) := rfl
    rw [hat] at HAt
    have hkn : 8 * i + j < n := by have := HN.out; omega
    obtain ⟨k, hk⟩ : ∃ k, 8 * i + j = k := ⟨_, rfl⟩
    rw [hk] at HAt hkn
    have HK := Lib.hid hk
    clear hk hat
    have hn8 : n ≤ 8388608 := by have := HN.out; omega
    have hk0 : (0 : Int) ≤ k := by omega
    go_upto_region 4 with (go_at_call 127; refine Calls.mono HAt.out ?_; rintro e w2 ⟨rfl, hp2⟩)
    have HB2 := Lib.hid (HR.out.pure hp2)
    have H62 := Lib.hid (hp2.heap (fun h => h) H6.out)
    have kb := hp2.heap (fun h => h) H_hbx.out
    clear hbx_0 hbx_1 hbx_f hbx_l
    clear H_hbx hp2 HR H6 HAt
    have kb_0 := cell_of_row _ _ 0 _ _ _ kb; have kb_1 := cell_of_row _ _ 1 _ _ _ kb; have kb_f := (fun j => frozen_of_row _ _ j _ _ kb); have kb_l := lt_of_block kb; simp at kb_0 kb_1; have H_kb := Lib.hid kb; clear kb
    go_upto_region 5 with (go_at_call 126; refine Calls.mono (HCp.out _ HB2.out.rf) ?_; rintro e w5 ⟨aC5, cC5, aS5, cS5, rfl, hR5, hp5, hf51, hf52⟩)
    obtain ⟨W5, hW5⟩ : ∃ W5, w5.alloc (.cells #[.slice aC5 n cC5, .slice aS5 n cS5] 82) = W5 := ⟨_, rfl⟩
    obtain ⟨b11, hb11⟩ : ∃ b11, w5.heap.size = b11 := ⟨_, rfl⟩
    have hnew := RS.new HB2.out H62.out HN.out hR5 hp5 hf51 hf52 hb11 hW5
    rw [hW5, hb11]
    obtain ⟨B5, B6, e5, e6, hrs⟩ := hnew
    subst e5 e6
    have HS := Lib.hid hrs
    clear kb_0 kb_1 kb_f kb_l
    clear H_kb hR5 hp5 hf51 hf52 hb11 hW5 hrs H62 HCp
    have z11 := HS.out.h11
    obtain ⟨⟨u5, c5⟩, ⟨u6, c6⟩, fz5, fz6, l5, l6⟩ := HS.out.rows.cell hkn
    have hkn' : (k : Int) < (n : Int) := by omega
    have z11_0 := cell_of_row _ _ 0 _ _ _ z11; have z11_1 := cell_of_row _ _ 1 _ _ _ z11; have z11_f := (fun j => frozen_of_row _ _ j _ _ z11); have z11_l := lt_of_block z11; simp at z11_0 z11_1; have H_z11 := Lib.hid z11; clear z11
    go_upto_region 6 with fail
    have HS6 := Lib.hid (HS.out.putS (k := k) (u := .int .u32 (slot : Nat)) hkn rfl)
    clear z11_0 z11_1 z11_f z11_l
    clear H_z11 HS c5 c6 fz5 fz6
    generalize W5.setCell ⟨B6, k, none⟩ (.int .u32 (slot : Nat)) = W6 at *
    have z11 := HS6.out.h11
    have z6 := HS6.out.h6
    have z11_0 := cell_of_row _ _ 0 _ _ _ z11; have z11_1 := cell_of_row _ _ 1 _ _ _ z11; have z11_f := (fun j => frozen_of_row _ _ j _ _ z11); have z11_l := lt_of_block z11; simp at z11_0 z11_1; have H_z11 := Lib.hid z11; clear z11
    have z6_0 := cell_of_row _ _ 0 _ _ _ z6; have z6_1 := cell_of_row _ _ 1 _ _ _ z6; have z6_f := (fun j => frozen_of_row _ _ j _ _ z6); have z6_l := lt_of_block z6; simp at z6_0 z6_1; have H_z6 := Lib.hid z6; clear z6
    go_wp2
    obtain ⟨p1, p2, x0, x1⟩ := HS6.out.fin (by have := HB.out; omega) rfl
    refine bodyPost_ret (v := .tuple #[refI (some ⟨B5, 0, none⟩) cC5 (some ⟨B6, 0, none⟩) cS5 Gs.length, .int .i64 0]) (by unfold refI; rw [HN.out]; simp [results, Try.results96, go_sem, x0, x1]) rfl ⟨p1, ?_⟩
    rw [HFM.out]
    rw [← u8s_same HOK.out hi hj HF.out.tag, ← HK.out] at p2
    exact ⟨_, _, _, _, rfl, Rows2.refI (t := sum % 128) (s := slot) p2 HN.out HOK.out hi hj (.inl HF.out.full) hslt⟩
end Go.Proofs.Ytbjiebhbmpafpaa
