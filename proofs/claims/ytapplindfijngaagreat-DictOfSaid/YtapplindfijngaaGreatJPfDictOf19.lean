/- Lemmas and contracts of functions, strung together out of 3 texts. No condition. -/
import Derived.Test.YtapplindfijngaaGreatJPfDictOf18
import Derived.Test.YtapplindfijngaaGreatJPfDictOf10
import Derived.Test.YtapplindfijngaaGreatJPfDictOf16
import Derived.Test.YtapplindfijngaaGreatJPfDictOf7
/- The reference of layer 7: Remove, Replace. -/
namespace Go.Proofs.YtapplindfijngaaGreat
open Go.RowKit Go.Shelf
set_option maxRecDepth 100000

/-- The two rows of an index, whatever they hold. -/
structure Rows2 (W : World) (B1 B2 cC cS n : Nat) (xs ys : List Value) : Prop where
  C : W.ownsRow 0 5 1 (.slice (some ⟨B1, 0, none⟩) n cC) n xs
  S : W.ownsRow 0 43 1 (.slice (some ⟨B2, 0, none⟩) n cS) n ys
section
variable {W W' : World} {B1 B2 cC cS n : Nat} {xs ys : List Value}
theorem Rows2.ne (h : Rows2 W B1 B2 cC cS n xs ys) : B1 ≠ B2 := fun e => by
  obtain ⟨c1, e1⟩ := owns_type h.C (g := B1) rfl
  obtain ⟨c2, e2⟩ := owns_type h.S (g := B2) rfl
  rw [e, e2] at e1; cases e1
theorem Rows2.nb (h : Rows2 W B1 B2 cC cS n xs ys) {bb : Nat} {cs : Array Value} (hbb : W.heap[bb]? = some (.cells cs 36 (0, 0))) : bb ≠ B1 ∧ bb ≠ B2 := by
  constructor
  · intro e
    obtain ⟨cc, e2⟩ := owns_type h.C (g := B1) rfl
    rw [e, e2] at hbb; cases hbb
  · intro e
    obtain ⟨cc, e2⟩ := owns_type h.S (g := B2) rfl
    rw [e, e2] at hbb; cases hbb
theorem Rows2.putC (h : Rows2 W B1 B2 cC cS n xs ys) {k : Nat} {u : Value} (hk : k < n) : Rows2 (W.setCell ⟨B1, k, none⟩ u) B1 B2 cC cS n (xs.set k u) ys ∧ Mod (fun j => j = B1) W (W.setCell ⟨B1, k, none⟩ u) :=
  ⟨⟨owns_setCell h.C k u (by omega), owns_mod h.S (Mod.set1 B1 k u) (fun g hg e => h.ne (by
    have : B2 = g := by simpa [Value.ownBlock] using hg
    exact e.symm.trans this.symm))⟩, Mod.set1 _ _ _⟩
theorem Rows2.putS (h : Rows2 W B1 B2 cC cS n xs ys) {k : Nat} {u : Value} (hk : k < n) : Rows2 (W.setCell ⟨B2, k, none⟩ u) B1 B2 cC cS n xs (ys.set k u) ∧ Mod (fun j => j = B2) W (W.setCell ⟨B2, k, none⟩ u) :=
  ⟨⟨owns_mod h.C (Mod.set1 B2 k u) (fun g hg e => h.ne (by
    have : B1 = g := by simpa [Value.ownBlock] using hg
    exact this.trans e)), owns_setCell h.S k u (by omega)⟩, Mod.set1 _ _ _⟩
theorem Rows2.cell (h : Rows2 W B1 B2 cC cS n xs ys) {k : Nat} (hk : k < n) : (∃ u, W.cell? ⟨B1, k, none⟩ = some u) ∧ (∃ u, W.cell? ⟨B2, k, none⟩ = some u) ∧ (∀ j, W.frozen? ⟨B1, j, none⟩ = false) ∧ (∀ j, W.frozen? ⟨B2, j, none⟩ = false) ∧ n ≤ cC ∧ n ≤ cS := by
  obtain ⟨B1', c1, e1, l1, _, h1, f1, _⟩ := owns_at h.C (by omega)
  obtain ⟨B2', c2, e2, l2, _, h2, f2, _⟩ := owns_at h.S (by omega)
  cases e1; cases e2
  have hl1 := h.C.1; have hl2 := h.S.1
  exact ⟨⟨_, h1 k _ (List.getElem?_eq_getElem (by omega))⟩, ⟨_, h2 k _ (List.getElem?_eq_getElem (by omega))⟩, f1, f2, l1, l2⟩
theorem Rows2.pure (h : Rows2 W B1 B2 cC cS n xs ys) (hp : Pure W W') : Rows2 W' B1 B2 cC cS n xs ys := ⟨owns_mod h.C hp (fun _ _ h => h), owns_mod h.S hp (fun _ _ h => h)⟩
theorem RefI.rows {Gs : List Grp} (h : RefI W (some ⟨B1, 0, none⟩) cC (some ⟨B2, 0, none⟩) cS Gs) (hn : 8 * Gs.length = n) : Rows2 W B1 B2 cC cS n (u8s (laneC Gs)) (u32v (laneS Gs)) := by
  subst hn; exact ⟨h.C, h.S⟩
theorem Rows2.refI {Gs : List Grp} {i j t s : Nat} (h : Rows2 W B1 B2 cC cS n ((u8s (laneC Gs)).set (8 * i + j) (.int .u8 (t : Nat))) ((u32v (laneS Gs)).set (8 * i + j) (.int .u32 (s : Nat)))) (hn : 8 * Gs.length = n) (hok : IxOk Gs) (hi : i < Gs.length) (hj : j < 8) (ht : t < 128 ∨ t = 128 ∨ t = 254) (hs : s ≤ 4294967295) :
    RefI W (some ⟨B1, 0, none⟩) cC (some ⟨B2, 0, none⟩) cS (setG Gs i j t s) := by
  have hok' := hok.put (i := i) (j := j) ht hs
  subst hn
  refine ⟨?_, ?_, hok'⟩
  · rw [setG_length, laneC_set hok hok' hi hj]
    have := h.C
    unfold u8s at this ⊢
    rw [List.map_set]
    exact this
  · rw [setG_length, laneS_set hok hok' hi hj]
    have := h.S
    unfold u32v at this ⊢
    rw [List.map_set]
    exact this
end
/-- The same lane again. -/
theorem u32v_same {Gs : List Grp} (h : IxOk Gs) {i j : Nat} (hi : i < Gs.length) (hj : j < 8) : (u32v (laneS Gs)).set (8 * i + j) (.int .u32 (slotAt Gs (i, j) : Nat)) = u32v (laneS Gs) := by
  have h1 : (u32v (laneS Gs))[8 * i + j]? = some (.int .u32 (slotAt Gs (i, j) : Nat)) := by
    unfold u32v
    rw [List.getElem?_map]
    have := slot_some h (x := (i, j)) hi hj
    unfold lane at this
    rw [this]
    rfl
  obtain ⟨hl, he⟩ := List.getElem?_eq_some_iff.1 h1
  have := List.set_getElem_self hl
  rwa [he] at this
theorem u8s_same {Gs : List Grp} (h : IxOk Gs) {i j t : Nat} (hi : i < Gs.length) (hj : j < 8) (ht : (grpAt Gs i).1[j]? = some t) : (u8s (laneC Gs)).set (8 * i + j) (.int .u8 (t : Nat)) = u8s (laneC Gs) := by
  have h1 : (u8s (laneC Gs))[8 * i + j]? = some (.int .u8 (t : Nat)) := by
    unfold u8s
    rw [List.getElem?_map, laneC_at h hi hj, ht]
    rfl
  obtain ⟨hl, he⟩ := List.getElem?_eq_some_iff.1 h1
  have := List.set_getElem_self hl
  rwa [he] at this
/-- What is known while a copy is changed: the copy's rows, the boxes, the index that was copied. -/
structure RS (w : World) (b b11 : Nat) (aC : Option Addr) (cC : Nat) (aS : Option Addr) (cS : Nat) (Gs : List Grp) (B5 B6 cC5 cS5 n : Nat) (xs ys : List Value) (W : World) : Prop where
  pu : Pure w W
  rows : Rows2 W B5 B6 cC5 cS5 n xs ys
  h11 : W.heap[b11]? = some (.cells #[.slice (some ⟨B5, 0, none⟩) n cC5, .slice (some ⟨B6, 0, none⟩) n cS5] 36 (0, 0))
  h6 : W.heap[b + 1]? = some (.cells #[.slice none 0 0, .slice none 0 0] 36 (0, 0))
  hb : W.heap[b]? = some (.cells #[.slice aC n cC, .slice aS n cS] 36 (0, 0))
  ro : RefI W aC cC aS cS Gs
  ne : ∀ g, ((Value.slice aC (8 * Gs.length) cC).ownBlock = some g ∨ (Value.slice aS (8 * Gs.length) cS).ownBlock = some g) → g ≠ B5 ∧ g ≠ B6
  f5 : w.heap.size ≤ B5
  f6 : w.heap.size ≤ B6
section
variable {w : World} {b b11 : Nat} {aC : Option Addr} {cC : Nat} {aS : Option Addr} {cS : Nat} {Gs : List Grp} {B5 B6 cC5 cS5 n : Nat} {xs ys : List Value} {W W' : World}
theorem RS.pure (h : RS w b b11 aC cC aS cS Gs B5 B6 cC5 cS5 n xs ys W) (hp : Pure W W') : RS w b b11 aC cC aS cS Gs B5 B6 cC5 cS5 n xs ys W' :=
  ⟨h.pu.trans hp, h.rows.pure hp, hp.heap (fun h => h) h.h11, hp.heap (fun h => h) h.h6, hp.heap (fun h => h) h.hb, h.ro.pure hp, h.ne, h.f5, h.f6⟩
theorem RS.putC (h : RS w b b11 aC cC aS cS Gs B5 B6 cC5 cS5 n xs ys W) {k : Nat} {u : Value} (hk : k < n) (hW : W.setCell ⟨B5, k, none⟩ u = W') : RS w b b11 aC cC aS cS Gs B5 B6 cC5 cS5 n (xs.set k u) ys W' := by
  obtain ⟨h1, h2⟩ := h.rows.putC (u := u) hk
  rw [hW] at h1 h2
  exact ⟨h.pu.then h2 (fun i hi e => by have := h.f5; omega), h1, h2.heap (h.rows.nb h.h11).1 h.h11, h2.heap (h.rows.nb h.h6).1 h.h6, h2.heap (h.rows.nb h.hb).1 h.hb, ⟨owns_mod h.ro.C h2 (fun g hg e => (h.ne g (.inl hg)).1 e), owns_mod h.ro.S h2 (fun g hg e => (h.ne g (.inr hg)).1 e), h.ro.ok⟩, h.ne, h.f5, h.f6⟩
theorem RS.putS (h : RS w b b11 aC cC aS cS Gs B5 B6 cC5 cS5 n xs ys W) {k : Nat} {u : Value} (hk : k < n) (hW : W.setCell ⟨B6, k, none⟩ u = W') : RS w b b11 aC cC aS cS Gs B5 B6 cC5 cS5 n xs (ys.set k u) W' := by
  obtain ⟨h1, h2⟩ := h.rows.putS (u := u) hk
  rw [hW] at h1 h2
  exact ⟨h.pu.then h2 (fun i hi e => by have := h.f6; omega), h1, h2.heap (h.rows.nb h.h11).2 h.h11, h2.heap (h.rows.nb h.h6).2 h.h6, h2.heap (h.rows.nb h.hb).2 h.hb, ⟨owns_mod h.ro.C h2 (fun g hg e => (h.ne g (.inl hg)).2 e), owns_mod h.ro.S h2 (fun g hg e => (h.ne g (.inr hg)).2 e), h.ro.ok⟩, h.ne, h.f5, h.f6⟩
/-- The end: the copy is the result. -/
theorem RS.fin (h : RS w b b11 aC cC aS cS Gs B5 B6 cC5 cS5 n xs ys W) (hb : w.heap.size ≤ b) (hW : (W.setCell ⟨b + 1, 0, none⟩ (.slice (some ⟨B5, 0, none⟩) n cC5)).setCell ⟨b + 1, 1, none⟩ (.slice (some ⟨B6, 0, none⟩) n cS5) = W') :
    Pure w W' ∧ Rows2 W' B5 B6 cC5 cS5 n xs ys ∧ W'.cell? ⟨b + 1, 0, none⟩ = some (.slice (some ⟨B5, 0, none⟩) n cC5) ∧ W'.cell? ⟨b + 1, 1, none⟩ = some (.slice (some ⟨B6, 0, none⟩) n cS5) := by
  have m2 := heap_set12 (v0 := .slice (some ⟨B5, 0, none⟩) n cC5) (v1 := .slice (some ⟨B6, 0, none⟩) n cS5) h.h6
  have hm : Mod (fun i => i = b + 1) W ((W.setCell ⟨b + 1, 0, none⟩ (.slice (some ⟨B5, 0, none⟩) n cC5)).setCell ⟨b + 1, 1, none⟩ (.slice (some ⟨B6, 0, none⟩) n cS5)) := Mod.set2 (b + 1) 0 1 _ _
  rw [hW] at m2 hm
  have x0 := cell_of_row _ (b + 1) 0 _ _ _ m2; have x1 := cell_of_row _ (b + 1) 1 _ _ _ m2
  have hn := h.rows.nb h.h6
  exact ⟨h.pu.then hm (fun i hi e => by omega), ⟨owns_mod h.rows.C hm (fun g hg e => hn.1 (by
    have : B5 = g := by simpa [Value.ownBlock] using hg
    exact e.symm.trans this.symm)), owns_mod h.rows.S hm (fun g hg e => hn.2 (by
    have : B6 = g := by simpa [Value.ownBlock] using hg
    exact e.symm.trans this.symm))⟩, x0, x1⟩
theorem RS.new {w2 w5 : World} {aC5 aS5 : Option Addr} (hR : RBox w b aC cC aS cS Gs w2) (h6 : w2.heap[b + 1]? = some (.cells #[.slice none 0 0, .slice none 0 0] 36 (0, 0))) (hn : 8 * Gs.length = n) (hR5 : RefI w5 aC5 cC5 aS5 cS5 Gs) (hp5 : Pure w2 w5)
    (f1 : ∀ k, (Value.slice aC5 n cC5).ownBlock = some k → w2.heap.size ≤ k) (f2 : ∀ k, (Value.slice aS5 n cS5).ownBlock = some k → w2.heap.size ≤ k) (hb11 : w5.heap.size = b11) (hW : w5.alloc (.cells #[.slice aC5 n cC5, .slice aS5 n cS5] 36) = W) :
    ∃ B5 B6, aC5 = some ⟨B5, 0, none⟩ ∧ aS5 = some ⟨B6, 0, none⟩ ∧ RS w b b11 aC cC aS cS Gs B5 B6 cC5 cS5 n (u8s (laneC Gs)) (u32v (laneS Gs)) W := by
  have hal : Pure w5 W := by rw [← hW]; exact (Mod.refl _ w5).alloc _
  have h11 : W.heap[b11]? = some (.cells #[.slice aC5 n cC5, .slice aS5 n cS5] 36 (0, 0)) := by rw [← hW]; exact heap_new hb11.symm
  obtain ⟨B5, B6, e1, e2, _, _, _, _⟩ := hR5.cells
  subst e1 e2
  refine ⟨B5, B6, rfl, rfl, (hR.pu.trans hp5).trans hal, (hR5.pure hal).rows hn, h11, (hp5.trans hal).heap (fun h => h) h6, ?_, hR.rf.pure (hp5.trans hal), fun g hg => ?_, Nat.le_trans hR.pu.size (f1 B5 rfl), Nat.le_trans hR.pu.size (f2 B6 rfl)⟩
  · have := (hp5.trans hal).heap (fun h => h) hR.bx
    rw [hn] at this
    exact this
  · have hl : g < w2.heap.size := by
      rcases hg with e | e
      · exact owns_lt hR.rf.C e
      · exact owns_lt hR.rf.S e
    have := f1 B5 rfl; have := f2 B6 rfl
    constructor <;> omega
end
def rRemPost (w : World) (aC : Option Addr) (cC : Nat) (aS : Option Addr) (cS : Nat) (Gs : List Grp) (sum slot : Nat) (e : Ending) (w' : World) : Prop :=
  Pure w w' ∧ match findM Gs sum (fun x => x == slot) with
  | some x => ∃ aC' cC' aS' cS', e = .returned (.tuple #[refI aC' cC' aS' cS' Gs.length, .int .i64 0]) ∧ RefI w' aC' cC' aS' cS' (delG Gs x.1 x.2)
  | none => e = .returned (.tuple #[refI aC cC aS cS Gs.length, .int .i64 9]) ∧ RefI w' aC cC aS cS Gs
set_option maxHeartbeats 4000000 in
theorem rRemove_ok {w : World} {aC : Option Addr} {cC : Nat} {aS : Option Addr} {cS : Nat} {Gs : List Grp} (h : RefI w aC cC aS cS Gs) (sum slot : Nat) (hsum : sum < 18446744073709551616) (hsl : slot ≤ 4294967295) : Calls Tryz.prog 65 #[refI aC cC aS cS Gs.length, .int .u64 sum, .int .u32 slot] w (rRemPost w aC cC aS cS Gs sum slot) := by
  have hg1 := h.ok.pow.le
  have HOK := Lib.hid h.ok
  have hR0 := RBox.new h
  have hal : Pure (w.alloc (.cells #[.slice aC (8 * Gs.length) cC, .slice aS (8 * Gs.length) cS] 36)) ((w.alloc (.cells #[.slice aC (8 * Gs.length) cC, .slice aS (8 * Gs.length) cS] 36)).alloc (.cells #[.slice none 0 0, .slice none 0 0] 36)) := (Mod.refl _ _).alloc _
  have hR := hR0.pure hal
  have h6 := heap_new (w := w.alloc (.cells #[.slice aC (8 * Gs.length) cC, .slice aS (8 * Gs.length) cS] 36)) (o := .cells #[.slice none 0 0, .slice none 0 0] 36 (0, 0)) (n := w.heap.size + 1) (by simp)
  clear h hR0 hal
  unfold refI
  go_enter Tryz.func65, Tryz.ntmps65
  go_upto_region 1 with fail
  generalize (w.alloc (.cells #[.slice aC (8 * Gs.length) cC, .slice aS (8 * Gs.length) cS] 36)).alloc (.cells #[.slice none 0 0, .slice none 0 0] 36) = W at *
  obtain ⟨b, hb⟩ : ∃ b, w.heap.size = b := ⟨_, rfl⟩
  rw [hb] at hR h6 ⊢
  have HR := Lib.hid hR
  have H6 := Lib.hid h6
  have hbx := hR.bx
  have HB := Lib.hid hb
  have hAt := rAt_ok hR.rf sum slot hsum hsl
  have hCp := fun (W2 : World) (hW : RefI W2 aC cC aS cS Gs) => rCopy_ok hW
  have hHs := fun (W2 : World) (hW : RefI W2 aC cC aS cS Gs) (i : Nat) (hi : i < Gs.length) => rHas_ok hW i hi
  obtain ⟨n, hn⟩ : ∃ n, 8 * Gs.length = n := ⟨_, rfl⟩
  unfold refI at hAt hCp hHs
  rw [hn] at hAt hCp hHs hbx ⊢
  have HAt := Lib.hid hAt; have HCp := Lib.hid hCp; have HHs := Lib.hid hHs; have HN := Lib.hid hn
  clear hR hb h6 hAt hCp hHs hn
  have hbx_0 := cell_of_row _ _ 0 _ _ _ hbx; have hbx_1 := cell_of_row _ _ 1 _ _ _ hbx; have hbx_f := (fun j => frozen_of_row _ _ j _ _ hbx); have hbx_l := lt_of_block hbx; simp at hbx_0 hbx_1; have H_hbx := Lib.hid hbx; clear hbx
  rcases hfm : findM Gs sum (fun x => x == slot) with _ | ⟨i, j⟩
  · have HFM := Lib.hid hfm
    rw [hfm] at HAt
    clear hfm
    go_upto_region 3 with (go_at_call 119; refine Calls.mono HAt.out ?_; unfold atPost; rintro e w2 ⟨rfl, hp2⟩)
    have HP2 := Lib.hid hp2
    have k6 := hp2.heap (fun h => h) H6.out
    have kb := hp2.heap (fun h => h) H_hbx.out
    clear hbx_0 hbx_1 hbx_f hbx_l
    clear H_hbx hp2
    have k6_0 := cell_of_row _ _ 0 _ _ _ k6; have k6_1 := cell_of_row _ _ 1 _ _ _ k6; have k6_f := (fun j => frozen_of_row _ _ j _ _ k6); have k6_l := lt_of_block k6; simp at k6_0 k6_1; have H_k6 := Lib.hid k6; clear k6
    have kb_0 := cell_of_row _ _ 0 _ _ _ kb; have kb_1 := cell_of_row _ _ 1 _ _ _ kb; have kb_f := (fun j => frozen_of_row _ _ j _ _ kb); have kb_l := lt_of_block kb; simp at kb_0 kb_1; have H_kb := Lib.hid kb; clear kb
    go_wp2
    have m2 := heap_set12 (v0 := .slice aC n cC) (v1 := .slice aS n cS) H_k6.out
    have hm : Mod (fun i => i = b + 1) w2 ((w2.setCell ⟨b + 1, 0, none⟩ (.slice aC n cC)).setCell ⟨b + 1, 1, none⟩ (.slice aS n cS)) := Mod.set2 (b + 1) 0 1 _ _
    have x0 := cell_of_row _ (b + 1) 0 _ _ _ m2; have x1 := cell_of_row _ (b + 1) 1 _ _ _ m2
    simp at x0 x1
    have hne : ∀ i, i = b + 1 → i < w2.heap.size → ∃ cs T' fz, w2.heap[i]? = some (.cells cs T' fz) ∧ T' ≠ 5 ∧ T' ≠ 43 := fun i e _ => ⟨_, _, _, e ▸ H_k6.out, by decide, by decide⟩
    refine bodyPost_ret (v := .tuple #[refI aC cC aS cS Gs.length, .int .i64 9]) (by unfold refI; rw [HN.out]; simp [results, Tryz.results65, go_sem, x0, x1]) rfl ⟨(HR.out.pu.trans HP2.out).then hm (fun i hi e => by have := HB.out; omega), ?_⟩
    rw [HFM.out]
    exact ⟨rfl, (HR.out.rf.pure HP2.out).modT hm hne⟩
  · have hf := seen_full HOK.out (List.mem_of_find?_eq_some hfm)
    have hi := hf.hi; have hj := hf.hj
    have hsle : slotAt Gs (i, j) = slot := by have := List.find?_some hfm; simpa using this
    have HFM := Lib.hid hfm; have HF := Lib.hid hf; have HSL := Lib.hid hsle
    rw [hfm] at HAt
    clear hfm hf hsle
    have hat : atPost (some (i, j)) = ((8 * i + j : Nat) : Int) := rfl
    rw [hat] at HAt
    have hdiv : (8 * i + j) / 8 = i := by omega
    have hkn : 8 * i + j < n := by have := HN.out; omega
    obtain ⟨k, hk⟩ : ∃ k, 8 * i + j = k := ⟨_, rfl⟩
    rw [hk] at HAt hdiv hkn
    have HK := Lib.hid hk
    clear hk hat
    have hn8 : n ≤ 8388608 := by have := HN.out; omega
    have e1 : (k : Int).tdiv 8 = (i : Int) := by rw [Int.tdiv_eq_ediv_of_nonneg (by omega)]; omega
    have e2 : (k : Int) / 8 = (i : Int) := by omega
    have wi : IntKind.i64.wrap (i : Int) = i := IntWalk.i64_in _ (by omega)
    have hk0 : (0 : Int) ≤ k := by omega
    clear hdiv
    go_upto_region 4 with (go_at_call 119; refine Calls.mono HAt.out ?_; rintro e w2 ⟨rfl, hp2⟩)
    have HB2 := Lib.hid (HR.out.pure hp2)
    have H62 := Lib.hid (hp2.heap (fun h => h) H6.out)
    have kb := hp2.heap (fun h => h) H_hbx.out
    clear hbx_0 hbx_1 hbx_f hbx_l
    clear H_hbx hp2 HR H6 HAt
    have kb_0 := cell_of_row _ _ 0 _ _ _ kb; have kb_1 := cell_of_row _ _ 1 _ _ _ kb; have kb_f := (fun j => frozen_of_row _ _ j _ _ kb); have kb_l := lt_of_block kb; simp at kb_0 kb_1; have H_kb := Lib.hid kb; clear kb
    go_upto_region 5 with (go_at_call 120; refine Calls.mono (HCp.out _ HB2.out.rf) ?_; rintro e w5 ⟨aC5, cC5, aS5, cS5, rfl, hR5, hp5, hf51, hf52⟩)
    obtain ⟨W5, hW5⟩ : ∃ W5, w5.alloc (.cells #[.slice aC5 n cC5, .slice aS5 n cS5] 36) = W5 := ⟨_, rfl⟩
    obtain ⟨b11, hb11⟩ : ∃ b11, w5.heap.size = b11 := ⟨_, rfl⟩
    have hnew := RS.new HB2.out H62.out HN.out hR5 hp5 hf51 hf52 hb11 hW5
    rw [hW5, hb11]
    obtain ⟨B5, B6, e5, e6, hrs⟩ := hnew
    subst e5 e6
    have HS := Lib.hid hrs
    clear kb_0 kb_1 kb_f kb_l
    clear H_kb hR5 hp5 hf51 hf52 hb11 hW5 hrs H62 HCp
    have z11 := HS.out.h11
    obtain ⟨⟨u5, c5⟩, ⟨u6, c6⟩, fz5, fz6, l5, l6⟩ := HS.out.rows.cell hkn
    have hkn' : (k : Int) < (n : Int) := by omega
    have z11_0 := cell_of_row _ _ 0 _ _ _ z11; have z11_1 := cell_of_row _ _ 1 _ _ _ z11; have z11_f := (fun j => frozen_of_row _ _ j _ _ z11); have z11_l := lt_of_block z11; simp at z11_0 z11_1; have H_z11 := Lib.hid z11; clear z11
    go_upto_region 6 with fail
    have HS6 := Lib.hid (HS.out.putS (k := k) (u := .int .u32 0) hkn rfl)
    clear z11_0 z11_1 z11_f z11_l
    clear H_z11 HS c5 c6 fz5 fz6
    generalize W5.setCell ⟨B6, k, none⟩ (.int .u32 0) = W6 at *
    have z11 := HS6.out.h11
    obtain ⟨⟨u5, c5⟩, ⟨u6, c6⟩, fz5, fz6, _, _⟩ := HS6.out.rows.cell hkn
    have z11_0 := cell_of_row _ _ 0 _ _ _ z11; have z11_1 := cell_of_row _ _ 1 _ _ _ z11; have z11_f := (fun j => frozen_of_row _ _ j _ _ z11); have z11_l := lt_of_block z11; simp at z11_0 z11_1; have H_z11 := Lib.hid z11; clear z11
    go_upto_region 7 with fail
    have HS7 := Lib.hid (HS6.out.putC (k := k) (u := .int .u8 254) hkn rfl)
    clear z11_0 z11_1 z11_f z11_l
    clear H_z11 HS6 c5 c6 fz5 fz6
    generalize W6.setCell ⟨B5, k, none⟩ (.int .u8 254) = W7 at *
    have zb := HS7.out.hb
    have zb_0 := cell_of_row _ _ 0 _ _ _ zb; have zb_1 := cell_of_row _ _ 1 _ _ _ zb; have zb_f := (fun j => frozen_of_row _ _ j _ _ zb); have zb_l := lt_of_block zb; simp at zb_0 zb_1; have H_zb := Lib.hid zb; clear zb
    have HHas := Lib.hid (HHs.out _ HS7.out.ro i hi)
    go_upto_if 30 with (go_at_call 121; refine Calls.mono HHas.out ?_; rintro e w8 ⟨rfl, hp8⟩)
    have HS8 := Lib.hid (HS7.out.pure hp8)
    clear zb_0 zb_1 zb_f zb_l
    clear H_zb HS7 hp8 HHas
    have z11 := HS8.out.h11
    have z6 := HS8.out.h6
    obtain ⟨⟨u5, c5⟩, ⟨u6, c6⟩, fz5, fz6, _, _⟩ := HS8.out.rows.cell hkn
    have z11_0 := cell_of_row _ _ 0 _ _ _ z11; have z11_1 := cell_of_row _ _ 1 _ _ _ z11; have z11_f := (fun j => frozen_of_row _ _ j _ _ z11); have z11_l := lt_of_block z11; simp at z11_0 z11_1; have H_z11 := Lib.hid z11; clear z11
    cases hbl : blanks (grpAt Gs i) with
    | true =>
      have her : erased (grpAt Gs i).1 = 128 := by unfold erased; rw [if_pos (by unfold blanks at hbl; exact hbl)]
      have HER := Lib.hid her
      clear hbl her
      go_upto_region 9 with fail
      have HS9 := Lib.hid (HS8.out.putC (k := k) (u := .int .u8 128) hkn rfl)
      clear z11_0 z11_1 z11_f z11_l
      clear H_z11 HS8 c5 c6 fz5 fz6 z6
      generalize w8.setCell ⟨B5, k, none⟩ (.int .u8 128) = W9 at *
      have z11 := HS9.out.h11
      have z6 := HS9.out.h6
      have z11_0 := cell_of_row _ _ 0 _ _ _ z11; have z11_1 := cell_of_row _ _ 1 _ _ _ z11; have z11_f := (fun j => frozen_of_row _ _ j _ _ z11); have z11_l := lt_of_block z11; simp at z11_0 z11_1; have H_z11 := Lib.hid z11; clear z11
      have z6_0 := cell_of_row _ _ 0 _ _ _ z6; have z6_1 := cell_of_row _ _ 1 _ _ _ z6; have z6_f := (fun j => frozen_of_row _ _ j _ _ z6); have z6_l := lt_of_block z6; simp at z6_0 z6_1; have H_z6 := Lib.hid z6; clear z6
      go_wp2
      obtain ⟨p1, p2, x0, x1⟩ := HS9.out.fin (by have := HB.out; omega) rfl
      refine bodyPost_ret (v := .tuple #[refI (some ⟨B5, 0, none⟩) cC5 (some ⟨B6, 0, none⟩) cS5 Gs.length, .int .i64 0]) (by unfold refI; rw [HN.out]; simp [results, Tryz.results65, go_sem, x0, x1]) rfl ⟨p1, ?_⟩
      rw [HFM.out]
      rw [List.set_set, ← HK.out] at p2
      refine ⟨_, _, _, _, rfl, ?_⟩
      show RefI _ _ _ _ _ (setG Gs i j (erased (grpAt Gs i).1) 0)
      rw [HER.out]
      exact Rows2.refI (t := 128) (s := 0) p2 HN.out HOK.out hi hj (.inr (.inl rfl)) (by decide)
    | false =>
      have her : erased (grpAt Gs i).1 = 254 := by unfold erased; rw [if_neg (by unfold blanks at hbl; simp [hbl])]
      have HER := Lib.hid her
      clear hbl her
      have z6_0 := cell_of_row _ _ 0 _ _ _ z6; have z6_1 := cell_of_row _ _ 1 _ _ _ z6; have z6_f := (fun j => frozen_of_row _ _ j _ _ z6); have z6_l := lt_of_block z6; simp at z6_0 z6_1; have H_z6 := Lib.hid z6; clear z6
      go_wp2
      obtain ⟨p1, p2, x0, x1⟩ := HS8.out.fin (by have := HB.out; omega) rfl
      refine bodyPost_ret (v := .tuple #[refI (some ⟨B5, 0, none⟩) cC5 (some ⟨B6, 0, none⟩) cS5 Gs.length, .int .i64 0]) (by unfold refI; rw [HN.out]; simp [results, Tryz.results65, go_sem, x0, x1]) rfl ⟨p1, ?_⟩
      rw [HFM.out]
      rw [← HK.out] at p2
      refine ⟨_, _, _, _, rfl, ?_⟩
      show RefI _ _ _ _ _ (setG Gs i j (erased (grpAt Gs i).1) 0)
      rw [HER.out]
      exact Rows2.refI (t := 254) (s := 0) p2 HN.out HOK.out hi hj (.inr (.inr rfl)) (by decide)

def rRepPost (w : World) (aC : Option Addr) (cC : Nat) (aS : Option Addr) (cS : Nat) (Gs : List Grp) (sum old slot : Nat) (e : Ending) (w' : World) : Prop :=
  Pure w w' ∧ match findM Gs sum (fun x => x == old) with
  | some x => ∃ aC' cC' aS' cS', e = .returned (.tuple #[refI aC' cC' aS' cS' Gs.length, .int .i64 0]) ∧ RefI w' aC' cC' aS' cS' (setG Gs x.1 x.2 (sum % 128) slot)
  | none => e = .returned (.tuple #[refI aC cC aS cS Gs.length, .int .i64 9]) ∧ RefI w' aC cC aS cS Gs
end Go.Proofs.YtapplindfijngaaGreat

/- The reference of layer 10: its dictionary (a log and the lanes of an index); New, At, sum. -/
namespace Go.Proofs.YtapplindfijngaaGreat
open Go.RowKit Go.Shelf
set_option maxRecDepth 100000

/-- Where the rows of a reference's dictionary lie. -/
structure RA where
  aL : Option Addr
  cL : Nat
  aG : Option Addr
  cG : Nat
  aC : Option Addr
  cC : Nat
  aS : Option Addr
  cS : Nat
abbrev rdV (seed : Nat) (same : Bool) (r : RA) (n m : Nat) : Value := .agg #[.int .u64 seed, .bool same, .slice r.aL n r.cL, .slice r.aG n r.cG, .slice r.aC m r.cC, .slice r.aS m r.cS]
abbrev rdO (seed : Nat) (same : Bool) (r : RA) (n m : Nat) : Obj := .cells #[.int .u64 seed, .bool same, .slice r.aL n r.cL, .slice r.aG n r.cG, .slice r.aC m r.cC, .slice r.aS m r.cS] 38 (0, 0)
structure RefD (W : World) (r : RA) (Q : List RQ) (Gs : List Grp) : Prop where
  l : RefRow W r.aL r.cL r.aG r.cG Q
  x : RefI W r.aC r.cC r.aS r.cS Gs
theorem RefD.pure {W W' : World} {r : RA} {Q : List RQ} {Gs : List Grp} (h : RefD W r Q Gs) (hp : Pure W W') : RefD W' r Q Gs := ⟨h.l.pure hp, h.x.pure hp⟩
/-- Behind stores into the six cells of a block. -/
theorem fin6 {X Y : World} {b : Nat} {u0 u1 u2 u3 u4 u5 v0 v1 v2 v3 v4 v5 : Value} {T : TypeId} (h : X.heap[b]? = some (.cells #[u0, u1, u2, u3, u4, u5] T (0, 0)))
    (hY : (((((X.setCell ⟨b, 0, none⟩ v0).setCell ⟨b, 1, none⟩ v1).setCell ⟨b, 2, none⟩ v2).setCell ⟨b, 3, none⟩ v3).setCell ⟨b, 4, none⟩ v4).setCell ⟨b, 5, none⟩ v5 = Y) : Mod (fun k => k = b) X Y ∧ Y.heap[b]? = some (.cells #[v0, v1, v2, v3, v4, v5] T (0, 0)) := by
  subst hY
  refine ⟨((((((Mod.set1 b 0 v0).trans (Mod.set1 b 1 v1)).trans (Mod.set1 b 2 v2)).trans (Mod.set1 b 3 v3)).trans (Mod.set1 b 4 v4)).trans (Mod.set1 b 5 v5)), ?_⟩
  have h1 := heap_set1 (j := 0) (v := v0) h
  have h2 := heap_set1 (j := 1) (v := v1) h1
  have h3 := heap_set1 (j := 2) (v := v2) h2
  have h4 := heap_set1 (j := 3) (v := v3) h3
  have h5 := heap_set1 (j := 4) (v := v4) h4
  have h6 := heap_set1 (j := 5) (v := v5) h5
  simpa using h6
def rNewDPost (w : World) (seed : Nat) (same : Bool) (e : Ending) (w' : World) : Prop :=
  ∃ r : RA, e = .returned (rdV seed same r 0 (8 * (newG 1).length)) ∧ RefD w' r [] (newG 1) ∧ r.aL = none ∧ Pure w w'
set_option maxHeartbeats 1000000 in
theorem rdNew_ok (seed : Nat) (same : Bool) (w : World) : Calls Tryz.prog 10 #[.int .u64 seed, .bool same] w (rNewDPost w seed same) := by
  have hp0 : Pure w (w.alloc (.cells #[.int .u64 0, .bool false, .slice none 0 0, .slice none 0 0, .slice none 0 0, .slice none 0 0] 38)) := (Mod.refl _ w).alloc _
  have h4 := heap_new (w := w) (o := .cells #[.int .u64 0, .bool false, .slice none 0 0, .slice none 0 0, .slice none 0 0, .slice none 0 0] 38 (0, 0)) rfl
  have HP := Lib.hid hp0
  have HNw := Lib.hid (fun W => rNew_ok 1 ⟨0, by decide, rfl⟩ W)
  unfold refI at HNw
  obtain ⟨m, hm⟩ : ∃ m, 8 * (newG 1).length = m := ⟨_, rfl⟩
  unfold rNewDPost
  rw [hm] at HNw ⊢
  have HM := Lib.hid hm
  clear hp0 hm
  go_enter Tryz.func10, Tryz.ntmps10
  go_upto_region 1 with fail
  generalize w.alloc (.cells #[.int .u64 0, .bool false, .slice none 0 0, .slice none 0 0, .slice none 0 0, .slice none 0 0] 38) = W1 at *
  obtain ⟨b4, hb4⟩ : ∃ b, w.heap.size = b := ⟨_, rfl⟩
  rw [hb4] at h4 ⊢
  have HB := Lib.hid hb4
  clear hb4
  go_upto_region 2 with (go_at_call 47; refine Calls.mono (HNw.out _) ?_; rintro e w2 ⟨aC, cC, aS, cS, rfl, hri, hp2, _⟩)
  have hal : Pure w2 (w2.alloc (.cells #[.slice aC m cC, .slice aS m cS] 36)) := (Mod.refl _ w2).alloc _
  have h5 := heap_new (w := w2) (o := .cells #[.slice aC m cC, .slice aS m cS] 36 (0, 0)) rfl
  have h4b := (hp2.trans hal).heap (fun h => h) h4
  have HP3 := Lib.hid (HP.out.trans (hp2.trans hal))
  have HRI := Lib.hid (hri.pure hal)
  clear hp2 hri hal h4
  generalize w2.alloc (.cells #[.slice aC m cC, .slice aS m cS] 36) = W3 at *
  generalize w2.heap.size = b5 at *
  have h5_0 := cell_of_row _ _ 0 _ _ _ h5; have h5_1 := cell_of_row _ _ 1 _ _ _ h5; have h5_f := (fun j => frozen_of_row _ _ j _ _ h5); have h5_l := lt_of_block h5; simp at h5_0 h5_1; have H_h5 := Lib.hid h5; clear h5
  have h4b_0 := cell_of_row _ _ 0 _ _ _ h4b; have h4b_1 := cell_of_row _ _ 1 _ _ _ h4b; have h4b_2 := cell_of_row _ _ 2 _ _ _ h4b; have h4b_3 := cell_of_row _ _ 3 _ _ _ h4b; have h4b_4 := cell_of_row _ _ 4 _ _ _ h4b; have h4b_5 := cell_of_row _ _ 5 _ _ _ h4b; have h4b_f := (fun j => frozen_of_row _ _ j _ _ h4b); have h4b_l := lt_of_block h4b; simp at h4b_0 h4b_1 h4b_2 h4b_3 h4b_4 h4b_5; have H_h4b := Lib.hid h4b; clear h4b
  go_wp2
  obtain ⟨Y, hY⟩ : ∃ Y, (((((W3.setCell ⟨b4, 0, none⟩ (.int .u64 seed)).setCell ⟨b4, 1, none⟩ (.bool same)).setCell ⟨b4, 2, none⟩ (.slice none 0 0)).setCell ⟨b4, 3, none⟩ (.slice none 0 0)).setCell ⟨b4, 4, none⟩ (.slice aC m cC)).setCell ⟨b4, 5, none⟩ (.slice aS m cS) = Y := ⟨_, rfl⟩
  obtain ⟨g1, g2⟩ := fin6 H_h4b.out hY
  rw [hY]
  have x0 := cell_of_row _ _ 0 _ _ _ g2; have x1 := cell_of_row _ _ 1 _ _ _ g2; have x2 := cell_of_row _ _ 2 _ _ _ g2; have x3 := cell_of_row _ _ 3 _ _ _ g2; have x4 := cell_of_row _ _ 4 _ _ _ g2; have x5 := cell_of_row _ _ 5 _ _ _ g2
  simp at x0 x1 x2 x3 x4 x5
  refine bodyPost_ret (v := rdV seed same ⟨none, 0, none, 0, aC, cC, aS, cS⟩ 0 m) (by simp [results, Tryz.results10, go_sem, x0, x1, x2, x3, x4, x5]) rfl ⟨⟨none, 0, none, 0, aC, cC, aS, cS⟩, rfl, ⟨RefRow.nil _, HRI.out.modT g1 (fun i hi _ => by subst hi; exact ⟨_, _, _, H_h4b.out, by decide, by decide⟩)⟩, rfl, HP3.out.then g1 (fun i hi e => by have := HB.out; omega)⟩
/-- The slot number of a key, or -1. -/
def atV (L : List (Option Ent)) (key : ByteArray) : Int := match findK L key with
  | some s => (s : Int)
  | none => -1
theorem RefRow.ent {w : World} {aL : Option Addr} {cL : Nat} {aG : Option Addr} {cG : Nat} {Q : List RQ} (h : RefRow w aL cL aG cG Q) {s : Nat} {q : RQ} (he : Q[s]? = some q) :
    ∃ gL gG, aL = some ⟨gL, 0, none⟩ ∧ aG = some ⟨gG, 0, none⟩ ∧ w.cell? ⟨gL, s * 4, none⟩ = some (.string q.1.key) ∧ w.cell? ⟨gG, s, none⟩ = some (.bool q.2.2) := by
  have hlt : s < Q.length := (List.getElem?_eq_some_iff.1 he).1
  obtain ⟨g, _, hsv, _, hg, hc, hf, _⟩ := owns_at h.L (by omega)
  obtain ⟨g2, _, hsv2, _, hg2, hc2, hf2, _⟩ := owns_at h.G (by omega)
  cases hsv; cases hsv2
  refine ⟨g, g2, rfl, rfl, ?_, hc2 s _ (by rw [List.getElem?_map, he]; rfl)⟩
  have := hc (s * 4 + 0) (.string q.1.key) (by rw [flat_get cellsQ 4 cellsQ_length 0 (by decide), he]; rfl)
  exact this
set_option maxHeartbeats 1000000 in
theorem rdsum_ok {w : World} {r : RA} {Q : List RQ} {Gs : List Grp} (h : RefD w r Q Gs) (seed : Nat) (same : Bool) (hs : seed < 18446744073709551616) {s m : Nat} {q : RQ} (he : Q[s]? = some q) :
    Calls Tryz.prog 66 #[rdV seed same r Q.length m, .int .u32 s] w fun e w' => e = .returned (.int .u64 (sumS seed same q.1.key : Nat)) ∧ Pure w w' := by
  obtain ⟨aL, cL, aG, cG, aC, cC, aS, cS⟩ := r
  have hlt : s < Q.length := (List.getElem?_eq_some_iff.1 he).1
  have hlen := h.l.len
  have hk1 := (h.l.ok q (List.mem_of_getElem? he)).k1
  obtain ⟨gL, gG, e1, e2, zk, _⟩ := h.l.ent he
  dsimp only at e1 e2 ⊢
  subst e1 e2
  have HS := Lib.hid (fun W => rSum_ok seed same hs q.1.key (by omega) W)
  generalize sumS seed same q.1.key = res at *
  generalize q.1.key = key at *
  have hp0 : Pure w (w.alloc (.cells #[.int .u64 seed, .bool same, .slice (some ⟨gL, 0, none⟩) Q.length cL, .slice (some ⟨gG, 0, none⟩) Q.length cG, .slice aC m cC, .slice aS m cS] 38)) := (Mod.refl _ w).alloc _
  have h2 := heap_new (w := w) (o := .cells #[.int .u64 seed, .bool same, .slice (some ⟨gL, 0, none⟩) Q.length cL, .slice (some ⟨gG, 0, none⟩) Q.length cG, .slice aC m cC, .slice aS m cS] 38 (0, 0)) rfl
  have zk1 := hp0.cell (fun h => h) zk
  have HP := Lib.hid hp0
  have hlt' : (s : Int) < (Q.length : Int) := by omega
  clear h he hp0 zk hk1
  go_enter Tryz.func66, Tryz.ntmps66
  go_upto_region 1 with fail
  generalize w.alloc (.cells #[.int .u64 seed, .bool same, .slice (some ⟨gL, 0, none⟩) Q.length cL, .slice (some ⟨gG, 0, none⟩) Q.length cG, .slice aC m cC, .slice aS m cS] 38) = W1 at *
  obtain ⟨b2, hb2⟩ : ∃ b, w.heap.size = b := ⟨_, rfl⟩
  rw [hb2] at h2 ⊢
  clear hb2
  have h2_0 := cell_of_row _ _ 0 _ _ _ h2; have h2_1 := cell_of_row _ _ 1 _ _ _ h2; have h2_2 := cell_of_row _ _ 2 _ _ _ h2; have h2_3 := cell_of_row _ _ 3 _ _ _ h2; have h2_4 := cell_of_row _ _ 4 _ _ _ h2; have h2_5 := cell_of_row _ _ 5 _ _ _ h2; have h2_f := (fun j => frozen_of_row _ _ j _ _ h2); have h2_l := lt_of_block h2; simp at h2_0 h2_1 h2_2 h2_3 h2_4 h2_5; have H_h2 := Lib.hid h2; clear h2
  have s0 : (0 : Int) ≤ (s : Int) := by omega
  go_region_held3 (fun w' => w'.cell? ⟨b2, 0, none⟩ = some (.int .u64 seed) ∧ w'.cell? ⟨b2, 1, none⟩ = some (.bool same) ∧ w'.cell? ⟨b2, 2, none⟩ = some (.slice (some ⟨gL, 0, none⟩) Q.length cL) ∧ w'.cell? ⟨gL, s * 4, none⟩ = some (.string key))
    (exact ⟨h2_0, h2_1, h2_2, zk1⟩)
    (first
      | (go_at_call 122; refine Calls.mono (HS.out _) ?_; rintro e w' ⟨rfl, rfl⟩))
  all_goals
    try go_wp2
    go_ret
    exact ⟨rfl, HP.out.drew⟩
set_option maxHeartbeats 1000000 in
theorem rdAt_ok {w : World} {r : RA} {Q : List RQ} {Gs : List Grp} (h : RefD w r Q Gs) (seed : Nat) (same : Bool) (m : Nat) (key : ByteArray) :
    Calls Tryz.prog 54 #[rdV seed same r Q.length m, .string key] w fun e w' => e = .returned (.int .i64 (atV (slotsR (Q.map absQ)) key)) ∧ Pure w w' := by
  obtain ⟨aL, cL, aG, cG, aC, cC, aS, cS⟩ := r
  have hlen := h.l.len
  have hp0 : Pure w (w.alloc (.cells #[.int .u64 seed, .bool same, .slice aL Q.length cL, .slice aG Q.length cG, .slice aC m cC, .slice aS m cS] 38)) := (Mod.refl _ w).alloc _
  have h2 := heap_new (w := w) (o := .cells #[.int .u64 seed, .bool same, .slice aL Q.length cL, .slice aG Q.length cG, .slice aC m cC, .slice aS m cS] 38 (0, 0)) rfl
  have HR := Lib.hid (h.l.pure hp0)
  dsimp only at HR
  have HP := Lib.hid hp0
  obtain ⟨n, hn⟩ : ∃ n, Q.length = n := ⟨_, rfl⟩
  rw [hn] at h2 hp0 hlen ⊢
  have HN := Lib.hid hn
  obtain ⟨res, hres⟩ : ∃ res, atV (slotsR (Q.map absQ)) key = res := ⟨_, rfl⟩
  rw [hres]
  have HRes := Lib.hid hres
  have wn : IntKind.i64.wrap (n : Int) = n := IntWalk.i64_in _ (by omega)
  rw [hn] at HR HP
  clear h hp0 hn hres
  go_enter Tryz.func54, Tryz.ntmps54
  go_upto_region 1 with fail
  generalize w.alloc (.cells #[.int .u64 seed, .bool same, .slice aL n cL, .slice aG n cG, .slice aC m cC, .slice aS m cS] 38) = W1 at *
  obtain ⟨b2, hb2⟩ : ∃ b, w.heap.size = b := ⟨_, rfl⟩
  rw [hb2] at h2 ⊢
  clear hb2
  have h2_0 := cell_of_row _ _ 0 _ _ _ h2; have h2_1 := cell_of_row _ _ 1 _ _ _ h2; have h2_2 := cell_of_row _ _ 2 _ _ _ h2; have h2_3 := cell_of_row _ _ 3 _ _ _ h2; have h2_4 := cell_of_row _ _ 4 _ _ _ h2; have h2_5 := cell_of_row _ _ 5 _ _ _ h2; have h2_f := (fun j => frozen_of_row _ _ j _ _ h2); have h2_l := lt_of_block h2; simp at h2_0 h2_1 h2_2 h2_3 h2_4 h2_5; have H_h2 := Lib.hid h2; clear h2
  go_upto_region 2 with fail
  go_loopw [5] (fun v5 wr => ∃ i, v5 = .int .i64 (i : Nat) ∧ i ≤ n ∧ (∀ (j : Nat) (o : Option Ent), j < i → (slotsR (Q.map absQ))[j]? = some o → isK key o = false) ∧ wr = W1) (fun v5 _ => n - (intOf v5).toNat)
  case atStart => exact ⟨0, rfl, Nat.zero_le _, fun j o hj => by omega, rfl⟩
  case round =>
    obtain ⟨i, rfl, hi, hno, rfl⟩ := hrel
    have HNO := Lib.hid hno
    clear hno
    by_cases hlt : i < n
    · have hlt' : (i : Int) < (n : Int) := by omega
      have i0 : (0 : Int) ≤ (i : Int) := by omega
      have wi : IntKind.i64.wrap ((i : Int) + 1) = (i : Int) + 1 := IntWalk.i64_in _ (by omega)
      obtain ⟨q, hq⟩ : ∃ q, Q[i]? = some q := ⟨_, List.getElem?_eq_getElem (by rw [HN.out]; exact hlt)⟩
      have hL : (slotsR (Q.map absQ))[i]? = some (if q.2.2 then none else some q.1) := by unfold slotsR; rw [List.getElem?_map, List.getElem?_map, hq]; rfl
      obtain ⟨x, v, g⟩ := q
      obtain ⟨gL, gG, e1, e2, zk, zg⟩ := HR.out.ent hq
      subst e1 e2
      dsimp only at zk zg hL
      obtain ⟨kx, hkx⟩ : ∃ kx, x.key = kx := ⟨_, rfl⟩
      rw [hkx] at zk
      have HKX := Lib.hid hkx; have HL := Lib.hid hL
      clear hkx hL hq
      have hstep : ∀ o, (slotsR (Q.map absQ))[i]? = some o → isK key o = false → ∀ (j : Nat) (o : Option Ent), j < i + 1 → (slotsR (Q.map absQ))[j]? = some o → isK key o = false := fun o ho hf j o' hj ho' => by
        rcases Nat.lt_or_ge j i with h1 | h1
        · exact HNO.out j o' h1 ho'
        · have : j = i := by omega
          subst this
          rw [ho] at ho'; cases ho'; exact hf
      have HST := Lib.hid hstep
      clear hstep
      cases g with
      | true =>
        go_wp2
        go_roundw
        case rel => exact ⟨i + 1, by go_num, hlt, HST.out none HL.out rfl, trivial⟩
        case measure => simp [intOf]; omega
      | false =>
        by_cases hk : kx = key
        · subst hk
          have hkk : (kx.toList == kx.toList) = true := by simp
          go_wp2
          go_ret
          refine ⟨?_, HP.out⟩
          rw [← HRes.out]
          have : findK (slotsR (Q.map absQ)) kx = some i := by
            unfold findK
            obtain ⟨hil, hie⟩ := List.getElem?_eq_some_iff.1 HL.out
            refine List.findIdx?_eq_some_iff_getElem.2 ⟨hil, by rw [hie]; exact isK_iff.2 ⟨x, rfl, HKX.out⟩, fun j hj => ?_⟩
            have := HNO.out j _ hj (List.getElem?_eq_getElem (by omega))
            rw [this]; simp
          unfold atV
          rw [this]
          rfl
        · have hkb : (kx == key) = false := by
            cases e : (kx == key) with
            | false => rfl
            | true => exact absurd ((ba_beq _ _).1 e) hk
          have hkk : (kx.toList == key.toList) = false := by rw [ba_list]; exact hkb
          go_wp2
          go_roundw
          case rel => exact ⟨i + 1, by go_num, hlt, HST.out (some x) HL.out (by
            cases e : isK key (some x) with
            | false => rfl
            | true =>
              obtain ⟨y, h1, h2⟩ := isK_iff.1 e
              cases h1
              rw [HKX.out] at h2
              exact absurd h2 hk), trivial⟩
          case measure => simp [intOf]; omega
    · have hlt' : ¬ ((i : Int) < (n : Int)) := by omega
      go_wp2
      go_ret
      refine ⟨?_, HP.out⟩
      rw [← HRes.out]
      have : findK (slotsR (Q.map absQ)) key = none := by
        unfold findK
        refine List.findIdx?_eq_none_iff.2 (fun o ho => ?_)
        obtain ⟨j, hj⟩ := List.getElem?_of_mem ho
        have hjl := (List.getElem?_eq_some_iff.1 hj).1
        rw [slotsR_length, List.length_map, HN.out] at hjl
        exact HNO.out j o (by omega) hj
      unfold atV
      rw [this]
      rfl
end Go.Proofs.YtapplindfijngaaGreat

/- Plain: a rehash lane by lane; what an insertion into the lanes gives, full or not. -/
namespace Go.Proofs.YtapplindfijngaaGreat
open Go.RowKit Go.Shelf
set_option maxRecDepth 100000

def fpF (p : Nat × Nat) : Option Nat := if p.1 < 128 then some p.2 else none
theorem fp_idx : ∀ l : List (Nat × Nat), l.filterMap fpF = ((List.range l.length).filter (fun j => (l.map (fun p => decide (p.1 < 128))).getD j false)).map (fun j => (l.map (·.2)).getD j 0)
  | [] => rfl
  | p :: l => by
    rw [List.filterMap_cons, List.length_cons, List.range_succ_eq_map, List.filter_cons, List.filter_map]
    have ih := fp_idx l
    have e1 : (fun j => ((p :: l).map (fun p => decide (p.1 < 128))).getD j false) ∘ Nat.succ = fun j => (l.map (fun p => decide (p.1 < 128))).getD j false := by funext j; simp
    have e2 : (fun j => ((p :: l).map (·.2)).getD j 0) ∘ Nat.succ = fun j => (l.map (·.2)).getD j 0 := by funext j; simp
    rw [e1]
    by_cases h : p.1 < 128
    · simp only [fpF, h, if_true, List.map_cons, List.getD_cons_zero, decide_true]
      rw [List.map_map, ih]
      rfl
    · simp only [fpF, h, if_false, List.map_cons, List.getD_cons_zero, decide_false]
      rw [if_neg (by decide), List.map_map, ih]
      rfl
theorem fp_group {c : Grp} (h : GrpOk c) : (c.1.zip c.2).filterMap fpF = fullS c := by
  rw [fp_idx]
  have hl : (c.1.zip c.2).length = 8 := by rw [List.length_zip, h.ctl.1, h.len]; rfl
  have e1 : (c.1.zip c.2).map (fun p => decide (p.1 < 128)) = c.1.map (fun x => decide (x < 128)) := by
    have : (c.1.zip c.2).map Prod.fst = c.1 := List.map_fst_zip (by rw [h.ctl.1, h.len]; exact Nat.le_refl _)
    rw [← this, List.map_map]
    rw [this]
    rfl
  have e2 : (c.1.zip c.2).map (fun x => x.2) = c.2 := List.map_snd_zip (by rw [h.ctl.1, h.len]; exact Nat.le_refl _)
  rw [hl, e1, e2]
  unfold fullS fullIn
  rw [lanes_mask (by simp [h.ctl.1])]
theorem fp_all {Gs : List Grp} : (∀ c ∈ Gs, GrpOk c) → ((laneC Gs).zip (laneS Gs)).filterMap fpF = Gs.flatMap fullS := by
  induction Gs with
  | nil => intro _; rfl
  | cons c Gs ih =>
    intro h
    have hc := h c (by simp)
    have e : (laneC (c :: Gs)).zip (laneS (c :: Gs)) = c.1.zip c.2 ++ (laneC Gs).zip (laneS Gs) := by
      unfold laneC laneS
      rw [List.flatMap_cons, List.flatMap_cons, List.zip_append (by rw [hc.ctl.1, hc.len])]
    rw [e, List.filterMap_append, ih (fun c hc => h c (by simp [hc])), fp_group hc, List.flatMap_cons]
/-- What is put in, up to a lane. -/
def rehTo (H : Nat → Nat) (g : Nat) (Gs : List Grp) (k : Nat) : List Grp := ((((laneC Gs).zip (laneS Gs)).take k).filterMap fpF).foldl (insD H) (newG g)
theorem rehTo_zero (H : Nat → Nat) (g : Nat) (Gs : List Grp) : rehTo H g Gs 0 = newG g := rfl
theorem rehTo_all {H : Nat → Nat} {g : Nat} {Gs : List Grp} (h : IxOk Gs) : rehTo H g Gs (8 * Gs.length) = rehM H g Gs := by
  unfold rehTo rehM
  rw [List.take_of_length_le (by rw [List.length_zip, laneC_length h, laneS_length h]; omega), fp_all h.grp]
theorem rehTo_succ {H : Nat → Nat} {g : Nat} {Gs : List Grp} {k c s : Nat} (hc : (laneC Gs)[k]? = some c) (hs : (laneS Gs)[k]? = some s) : rehTo H g Gs (k + 1) = if c < 128 then insD H (rehTo H g Gs k) s else rehTo H g Gs k := by
  have hz : ((laneC Gs).zip (laneS Gs))[k]? = some (c, s) := by rw [List.getElem?_zip_eq_some]; exact ⟨hc, hs⟩
  unfold rehTo
  rw [List.take_add_one, hz, List.filterMap_append, List.foldl_append]
  by_cases h : c < 128
  · rw [if_pos h]
    simp [fpF, h]
  · rw [if_neg h]
    simp [fpF, h]
theorem rehTo_ok {H : Nat → Nat} {g : Nat} {Gs : List Grp} (hg : Pow g) (h : IxOk Gs) (k : Nat) : IxOk (rehTo H g Gs k) ∧ (rehTo H g Gs k).length = g := by
  unfold rehTo
  have hl : ∀ s ∈ ((((laneC Gs).zip (laneS Gs)).take k).filterMap fpF), s ≤ 4294967295 := by
    intro s hs
    obtain ⟨p, hp, e⟩ := List.mem_filterMap.1 hs
    have hp2 := (List.of_mem_zip (List.mem_of_mem_take hp)).2
    unfold fpF at e
    split at e
    · cases e; exact laneS_lt h _ hp2
    · cases e
  generalize ((((laneC Gs).zip (laneS Gs)).take k).filterMap fpF) = L at hl
  have : ∀ (L : List Nat) (o : List Grp), IxOk o → (∀ s ∈ L, s ≤ 4294967295) → IxOk (L.foldl (insD H) o) ∧ (L.foldl (insD H) o).length = o.length := by
    intro L
    induction L with
    | nil => intro o ho _; exact ⟨ho, rfl⟩
    | cons s L ih =>
      intro o ho hL
      obtain ⟨h1, h2⟩ := insD_ok (H := H) ho (hL s (by simp))
      obtain ⟨k1, k2⟩ := ih _ h1 (fun x hx => hL x (by simp [hx]))
      exact ⟨k1, k2.trans h2⟩
  obtain ⟨k1, k2⟩ := this L (newG g) (newG_ok hg) hl
  exact ⟨k1, k2.trans (newG_length g)⟩
theorem ins_anyR {H : Nat → Nat} {w w' : World} {aC : Option Addr} {cC : Nat} {aS : Option Addr} {cS : Nat} {o : List Grp} {s hh : Nat} {e : Ending} (hh0 : H s = hh) (h : rInsPost w aC cC aS cS o hh s e w') : ∃ aC' cC' aS' cS' z, e = .returned (.tuple #[refI aC' cC' aS' cS' (insD H o s).length, .int .i64 z]) ∧ RefI w' aC' cC' aS' cS' (insD H o s) ∧ Pure w w' := by
  subst hh0
  obtain ⟨hp, h⟩ := h
  unfold insD
  cases hm : insM o (H s) s with
  | none => rw [hm] at h; exact ⟨_, _, _, _, _, h.1, h.2, hp⟩
  | some o' =>
    rw [hm] at h
    obtain ⟨a, b, c, d, e1, e2⟩ := h
    exact ⟨a, b, c, d, _, e1, e2, hp⟩
theorem lane_full {Gs : List Grp} (h : IxOk Gs) {k c s : Nat} (hc : (laneC Gs)[k]? = some c) (hs : (laneS Gs)[k]? = some s) (h128 : c < 128) : s ∈ Gs.flatMap fullS := by
  rw [← fp_all h.grp]
  refine List.mem_filterMap.2 ⟨(c, s), List.mem_of_getElem? (i := k) (by rw [List.getElem?_zip_eq_some]; exact ⟨hc, hs⟩), ?_⟩
  unfold fpF
  rw [if_pos h128]
end Go.Proofs.YtapplindfijngaaGreat
