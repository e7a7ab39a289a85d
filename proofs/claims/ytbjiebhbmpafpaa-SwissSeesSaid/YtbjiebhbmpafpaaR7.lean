/- The reference of layer 7: New, Copy, Groups, Count, has. -/
import Derived.Test.YtbjiebhbmpafpaaR6
import Derived.Test.YtbjiebhbmpafpaaKnown7
namespace Go.Proofs.Ytbjiebhbmpafpaa
open Go.RowKit Go.Shelf
set_option maxRecDepth 100000

/-- A reference index: its lanes, in rows of its own. -/
structure RefI (W : World) (aC : Option Addr) (cC : Nat) (aS : Option Addr) (cS : Nat) (Gs : List Grp) : Prop where
  C : W.ownsRow 0 5 1 (.slice aC (8 * Gs.length) cC) (8 * Gs.length) (u8s (laneC Gs))
  S : W.ownsRow 0 43 1 (.slice aS (8 * Gs.length) cS) (8 * Gs.length) (u32v (laneS Gs))
  ok : IxOk Gs
def refI (aC : Option Addr) (cC : Nat) (aS : Option Addr) (cS n : Nat) : Value := .agg #[.slice aC (8 * n) cC, .slice aS (8 * n) cS]
theorem RefI.pure {W W' : World} {aC : Option Addr} {cC : Nat} {aS : Option Addr} {cS : Nat} {Gs : List Grp} (h : RefI W aC cC aS cS Gs) (hp : Pure W W') : RefI W' aC cC aS cS Gs := ⟨owns_mod h.C hp (fun _ _ h => h), owns_mod h.S hp (fun _ _ h => h), h.ok⟩
/-- .. behind a change of blocks of other types. -/
theorem RefI.modT {W W' : World} {S : Nat → Prop} {aC : Option Addr} {cC : Nat} {aS : Option Addr} {cS : Nat} {Gs : List Grp} (h : RefI W aC cC aS cS Gs) (hm : Mod S W W') (hS : ∀ i, S i → i < W.heap.size → ∃ cs T' fz, W.heap[i]? = some (.cells cs T' fz) ∧ T' ≠ 5 ∧ T' ≠ 43) : RefI W' aC cC aS cS Gs :=
  ⟨owns_modT h.C hm (fun i hi hl => by obtain ⟨cs, T', fz, e, h1, h2⟩ := hS i hi hl; exact ⟨cs, T', fz, e, h1⟩), owns_modT h.S hm (fun i hi hl => by obtain ⟨cs, T', fz, e, h1, h2⟩ := hS i hi hl; exact ⟨cs, T', fz, e, h2⟩), h.ok⟩
def lan8 (f : Grp → List Nat) (c : Grp) : List Nat := (List.range 8).map (fun j => (f c).getD j 0)
theorem lan8_length (f : Grp → List Nat) (c : Grp) : (lan8 f c).length = 8 := by simp [lan8]
theorem lan8_eq {f : Grp → List Nat} {c : Grp} (h : (f c).length = 8) : lan8 f c = f c := by
  unfold lan8
  obtain ⟨x0, x1, x2, x3, x4, x5, x6, x7, e⟩ := eight_of h
  rw [e]
  rfl
theorem lan8_flat {f : Grp → List Nat} {Gs : List Grp} (h : ∀ c ∈ Gs, (f c).length = 8) : Gs.flatMap f = Gs.flatMap (lan8 f) := by
  rw [List.flatMap_def, List.flatMap_def, List.map_congr_left (fun c hc => lan8_eq (h c hc))]
theorem lan8_len {f : Grp → List Nat} {Gs : List Grp} (h : ∀ c ∈ Gs, (f c).length = 8) : (Gs.flatMap f).length = 8 * Gs.length := by
  rw [lan8_flat h]
  clear h
  induction Gs with
  | nil => rfl
  | cons c Gs ih => rw [List.flatMap_cons, List.length_append, ih, lan8_length, List.length_cons]; omega
theorem lan8_at {f : Grp → List Nat} {Gs : List Grp} (h : ∀ c ∈ Gs, (f c).length = 8) {i j : Nat} (hi : i < Gs.length) (hj : j < 8) : (Gs.flatMap f)[8 * i + j]? = (f (grpAt Gs i))[j]? := by
  rw [lan8_flat h]
  have h1 := flat_get (lan8 f) 8 (lan8_length f) j hj Gs i
  rw [Nat.mul_comm i 8, grpAt_some hi] at h1
  rw [h1]
  show (lan8 f (grpAt Gs i))[j]? = _
  rw [lan8_eq (h _ (List.mem_of_getElem? (grpAt_some hi)))]
theorem laneC_length {Gs : List Grp} (h : IxOk Gs) : (laneC Gs).length = 8 * Gs.length := lan8_len (fun c hc => (h.grp c hc).ctl.1)
theorem laneS_length {Gs : List Grp} (h : IxOk Gs) : (laneS Gs).length = 8 * Gs.length := lan8_len (fun c hc => (h.grp c hc).len)
/-- Lane 8 i + j. -/
theorem laneC_at {Gs : List Grp} (h : IxOk Gs) {i j : Nat} (hi : i < Gs.length) (hj : j < 8) : (laneC Gs)[8 * i + j]? = (grpAt Gs i).1[j]? := lan8_at (fun c hc => (h.grp c hc).ctl.1) hi hj
theorem laneS_at {Gs : List Grp} (h : IxOk Gs) {i j : Nat} (hi : i < Gs.length) (hj : j < 8) : (laneS Gs)[8 * i + j]? = (grpAt Gs i).2[j]? := lan8_at (fun c hc => (h.grp c hc).len) hi hj
theorem newG_C (g : Nat) : laneC (newG g) = List.replicate (8 * g) 128 := by
  induction g with
  | zero => rfl
  | succ g ih =>
    have : newG (g + 1) = blankG :: newG g := List.replicate_succ
    rw [this]
    show blankG.1 ++ laneC (newG g) = _
    rw [ih, show 8 * (g + 1) = 8 + 8 * g by omega, ← List.replicate_append_replicate]
    rfl
theorem newG_S (g : Nat) : laneS (newG g) = List.replicate (8 * g) 0 := by
  induction g with
  | zero => rfl
  | succ g ih =>
    have : newG (g + 1) = blankG :: newG g := List.replicate_succ
    rw [this]
    show blankG.2 ++ laneS (newG g) = _
    rw [ih, show 8 * (g + 1) = 8 + 8 * g by omega, ← List.replicate_append_replicate]
    rfl
structure RNewI (w : World) (b2 b4 k : Nat) (W : World) (a : Option Addr) (c : Nat) (a' : Option Addr) (c' : Nat) : Prop where
  pu : Pure w W
  h2 : W.heap[b2]? = some (.cells #[.slice none 0 0, .slice none 0 0] 82 (0, 0))
  h4 : W.heap[b4]? = some (.cells #[.slice a k c, .slice a' k c'] 82 (0, 0))
  C : W.ownsRow 0 5 1 (.slice a k c) k (u8s (List.replicate k 128))
  S : W.ownsRow 0 43 1 (.slice a' k c') k (u32v (List.replicate k 0))
  fC : ∀ g, (Value.slice a k c).ownBlock = some g → w.heap.size ≤ g
  fS : ∀ g, (Value.slice a' k c').ownBlock = some g → w.heap.size ≤ g
set_option maxHeartbeats 1000000 in
theorem rNew_ok (g : Nat) (hg : Pow g) (w : World) : Calls Try.prog 46 #[.int .i64 g] w fun e w' => ∃ aC cC aS cS, e = .returned (.tuple #[refI aC cC aS cS (newG g).length, .int .i64 0]) ∧ RefI w' aC cC aS cS (newG g) ∧ Pure w w' ∧
    (∀ k, (Value.slice aC (8 * (newG g).length) cC).ownBlock = some k → w.heap.size ≤ k) ∧ ∀ k, (Value.slice aS (8 * (newG g).length) cS).ownBlock = some k → w.heap.size ≤ k := by
  have hg0 := hg.pos
  have hg1 := hg.le
  have HV := Lib.hid (fun W => (validM_pow hg ▸ rValid_ok (g : Int) W))
  have w8 : IntKind.i64.wrap (8 * (g : Int)) = 8 * (g : Int) := IntWalk.i64_in _ (by omega)
  have hp : Pure w ((w.alloc (.cells #[.slice none 0 0, .slice none 0 0] 82)).alloc (.cells #[.slice none 0 0, .slice none 0 0] 82)) := ((Mod.refl _ w).alloc _).alloc _
  have h2 := heap_keep (o := .cells #[.slice none 0 0, .slice none 0 0] 82 (0, 0)) (heap_new (w := w) (o := .cells #[.slice none 0 0, .slice none 0 0] 82 (0, 0)) rfl)
  have h4 := heap_new (w := w.alloc (.cells #[.slice none 0 0, .slice none 0 0] 82)) (o := .cells #[.slice none 0 0, .slice none 0 0] 82 (0, 0)) (n := w.heap.size + 1) (by simp)
  have H0 := Lib.hid (RNewI.mk (k := 0) hp h2 h4 (World.ownsRow_nil _ _ _ _) (World.ownsRow_nil _ _ _ _) (fun g e => by cases e) (fun g e => by cases e))
  clear hp h2 h4
  go_enter Try.func46, Try.ntmps46
  go_upto_region 5 with (go_at_call 93; refine Calls.mono (HV.out _) ?_; rintro e w' ⟨rfl, rfl⟩)
  generalize (w.alloc (.cells #[.slice none 0 0, .slice none 0 0] 82)).alloc (.cells #[.slice none 0 0, .slice none 0 0] 82) = W at *
  obtain ⟨b, hb⟩ : ∃ b, w.heap.size = b := ⟨_, rfl⟩
  rw [hb] at H0 ⊢
  obtain ⟨iA, hiA, iA0, iA1, iA2⟩ := info_parts info_u8
  obtain ⟨iB, hiB, iB0, iB1, iB2⟩ := info_parts info_u32
  go_loopw [5] (fun v wr => ∃ k a c a' c', v = .int .i64 (k : Nat) ∧ k ≤ 8 * g ∧ RNewI w b (b + 1) k wr a c a' c') (fun v _ => 8 * g - (intOf v).toNat)
  case atStart => exact ⟨0, none, 0, none, 0, rfl, Nat.zero_le _, H0.out⟩
  case round =>
    clear H0 HV
    obtain ⟨k, a, c, a', c', rfl, hk, hI⟩ := hrel
    have HI := Lib.hid hI
    have h4 := hI.h4
    clear hI
    by_cases hlt : k < 8 * g
    · have hlt' : (k : Int) < 8 * (g : Int) := by omega
      have h4_0 := cell_of_row _ _ 0 _ _ _ h4; have h4_1 := cell_of_row _ _ 1 _ _ _ h4; have h4_f := (fun j => frozen_of_row _ _ j _ _ h4); have h4_l := lt_of_block h4; simp at h4_0 h4_1; have H_h4 := Lib.hid h4; clear h4
      have nb4 : (Value.slice a k c).ownBlock ≠ some (b + 1) := fun e => by
        obtain ⟨cc, e2⟩ := owns_type HI.out.C e
        rw [HI.out.h4] at e2; cases e2
      have NB4 := Lib.hid nb4
      clear nb4
      go_upto_region 8 with (at_builtin; refine wpList_append_read _ rfl _ _ 44 rfl 5 iA _ 1 1 Try.underlying44 hiA iA0 iA1 iA2 rfl (by decide) (.slice a k c) k _ rfl (owns_mod HI.out.C ((Mod.refl (fun _ => False) wr).alloc _) (fun _ _ h => h)) _ [.int .u8 128] 1 rfl (ReadAt.of_block 1 1 1 (heap_new rfl) (by rfl) (by simp [Value.oneCell'])) rfl (by unfold maxLen; omega) (by omega) ?_; intro a7 c7 w5 hr7 hg7 hb7; have m7 := Mod.heap (Mod.of_grown (S := fun k' => (Value.slice a k c).ownBlock = some k') hg7 (fun k e _ => e)) NB4.out (heap_keep H_h4.out); have m7_0 := cell_of_row _ _ 0 _ _ _ m7; have m7_1 := cell_of_row _ _ 1 _ _ _ m7; have m7_f := (fun j => frozen_of_row _ _ j _ _ m7); have m7_l := lt_of_block m7; simp at m7_0 m7_1; have H_m7 := Lib.hid m7; clear m7)
      obtain ⟨q1, q2, q3, q4⟩ := field_append (j := 0) HI.out.h4 HI.out.C (by decide) ((Mod.refl (fun _ => False) wr).alloc _) hr7 hg7 hb7
      simp at q1
      have hty : ∀ i, i = b + 1 ∨ (Value.slice a k c).ownBlock = some i → i < wr.heap.size → ∃ cs T' fz, wr.heap[i]? = some (.cells cs T' fz) ∧ T' ≠ 43 := by
        rintro i (rfl | e) _
        · exact ⟨_, _, _, HI.out.h4, by decide⟩
        · obtain ⟨cc, e2⟩ := owns_type HI.out.C e
          exact ⟨_, _, _, e2, by decide⟩
      have r2 := owns_modT HI.out.S q3 hty
      have hwb : ∀ i, i = b + 1 ∨ (Value.slice a k c).ownBlock = some i → w.heap.size ≤ i := by
        rintro i (rfl | e)
        · omega
        · exact HI.out.fC i e
      have p2 : Pure w _ := HI.out.pu.then q3 (fun i hi hs => by have := hwb i hs; omega)
      have g2 := q3.heap (k := b) (fun e => by
        rcases e with e | e
        · omega
        · obtain ⟨cc, e2⟩ := owns_type HI.out.C e
          rw [HI.out.h2] at e2; cases e2) HI.out.h2
      have f2 : ∀ i, (Value.slice a7 (k + 1) c7).ownBlock = some i → w.heap.size ≤ i := fun i hi => by
        rcases q4 i hi with e | e
        · exact HI.out.fC i e
        · exact Nat.le_trans HI.out.pu.size e
      have Q2 := Lib.hid q2; have R2 := Lib.hid r2; have P2 := Lib.hid p2; have G2 := Lib.hid g2; have F2 := Lib.hid f2
      clear h4_0 h4_1 h4_f h4_l
      clear m7_0 m7_1 m7_f m7_l
      clear H_h4 H_m7 hr7 hg7 hb7 q2 q3 q4 r2 p2 g2 f2 hty hwb
      generalize w5.setCell ⟨b + 1, 0, none⟩ (.slice a7 (k + 1) c7) = W7 at *
      have h47 := q1
      have Q1 := Lib.hid q1
      clear q1
      have h47_0 := cell_of_row _ _ 0 _ _ _ h47; have h47_1 := cell_of_row _ _ 1 _ _ _ h47; have h47_f := (fun j => frozen_of_row _ _ j _ _ h47); have h47_l := lt_of_block h47; simp at h47_0 h47_1; have H_h47 := Lib.hid h47; clear h47
      have nb4 : (Value.slice a' k c').ownBlock ≠ some (b + 1) := fun e => by
        obtain ⟨cc, e2⟩ := owns_type R2.out e
        rw [Q1.out] at e2; cases e2
      have NB4' := Lib.hid nb4
      clear nb4
      go_upto_region 6 with (at_builtin; refine wpList_append_read _ rfl _ _ 24 rfl 43 iB _ 1 4 Try.underlying24 hiB iB0 iB1 iB2 rfl (by decide) (.slice a' k c') k _ rfl (owns_mod R2.out ((Mod.refl (fun _ => False) W7).alloc _) (fun _ _ h => h)) _ [.int .u32 0] 1 rfl (ReadAt.of_block 1 1 1 (heap_new rfl) (by rfl) (by simp [Value.oneCell'])) rfl (by unfold maxLen; omega) (by omega) ?_; intro a9 c9 w9 hr9 hg9 hb9; have m9 := Mod.heap (Mod.of_grown (S := fun k' => (Value.slice a' k c').ownBlock = some k') hg9 (fun k e _ => e)) NB4'.out (heap_keep H_h47.out); have m9_0 := cell_of_row _ _ 0 _ _ _ m9; have m9_1 := cell_of_row _ _ 1 _ _ _ m9; have m9_f := (fun j => frozen_of_row _ _ j _ _ m9); have m9_l := lt_of_block m9; simp at m9_0 m9_1; have H_m9 := Lib.hid m9; clear m9)
      obtain ⟨q1, q2, q3, q4⟩ := field_append (j := 1) Q1.out R2.out (by decide) ((Mod.refl (fun _ => False) W7).alloc _) hr9 hg9 hb9
      simp at q1
      have hty : ∀ i, i = b + 1 ∨ (Value.slice a' k c').ownBlock = some i → i < W7.heap.size → ∃ cs T' fz, W7.heap[i]? = some (.cells cs T' fz) ∧ T' ≠ 5 := by
        rintro i (rfl | e) _
        · exact ⟨_, _, _, Q1.out, by decide⟩
        · obtain ⟨cc, e2⟩ := owns_type R2.out e
          exact ⟨_, _, _, e2, by decide⟩
      have r2 := owns_modT Q2.out q3 hty
      have hwb : ∀ i, i = b + 1 ∨ (Value.slice a' k c').ownBlock = some i → w.heap.size ≤ i := by
        rintro i (rfl | e)
        · omega
        · exact HI.out.fS i e
      have p2 : Pure w _ := P2.out.then q3 (fun i hi hs => by have := hwb i hs; omega)
      have g2 := q3.heap (k := b) (fun e => by
        rcases e with e | e
        · omega
        · obtain ⟨cc, e2⟩ := owns_type R2.out e
          rw [G2.out] at e2; cases e2) G2.out
      have f2 : ∀ i, (Value.slice a9 (k + 1) c9).ownBlock = some i → w.heap.size ≤ i := fun i hi => by
        rcases q4 i hi with e | e
        · exact HI.out.fS i e
        · exact Nat.le_trans P2.out.size e
      have e128 : u8s (List.replicate (k + 1) 128) = u8s (List.replicate k 128) ++ [.int .u8 128] := by unfold u8s; rw [List.replicate_succ']; simp
      have e0 : u32v (List.replicate (k + 1) 0) = u32v (List.replicate k 0) ++ [.int .u32 0] := by unfold u32v; rw [List.replicate_succ']; simp
      have HN : Hid (RNewI w b (b + 1) (k + 1) _ a7 c7 a9 c9) := ⟨p2, g2, q1, by rw [e128]; exact r2, by rw [e0]; exact q2, F2.out, f2⟩
      clear h47_0 h47_1 h47_f h47_l
      clear m9_0 m9_1 m9_f m9_l
      clear H_h47 H_m9 hr9 hg9 hb9 q1 q2 q3 q4 r2 p2 g2 f2 hty hwb e128 e0
      go_wp2
      go_roundw
      case rel => exact ⟨k + 1, a7, c7, a9, c9, by go_num, hlt, HN.out⟩
      case measure => simp [intOf]; omega
    · have hlt' : 8 * (g : Int) ≤ (k : Int) := by omega
      have e : k = 8 * g := by omega
      have h2 := HI.out.h2
      have h2_0 := cell_of_row _ _ 0 _ _ _ h2; have h2_1 := cell_of_row _ _ 1 _ _ _ h2; have h2_f := (fun j => frozen_of_row _ _ j _ _ h2); have h2_l := lt_of_block h2; simp at h2_0 h2_1; have H_h2 := Lib.hid h2; clear h2
      have h4_0 := cell_of_row _ _ 0 _ _ _ h4; have h4_1 := cell_of_row _ _ 1 _ _ _ h4; have h4_f := (fun j => frozen_of_row _ _ j _ _ h4); have h4_l := lt_of_block h4; simp at h4_0 h4_1; have H_h4 := Lib.hid h4; clear h4
      subst e
      have HB := Lib.hid hb
      clear hb
      go_wp2
      have m2 := heap_set12 (v0 := .slice a (8 * g) c) (v1 := .slice a' (8 * g) c') H_h2.out
      have hm : Mod (fun i => i = b) wr ((wr.setCell ⟨b, 0, none⟩ (.slice a (8 * g) c)).setCell ⟨b, 1, none⟩ (.slice a' (8 * g) c')) := Mod.set2 b 0 1 _ _
      have x0 := cell_of_row _ b 0 _ _ _ m2; have x1 := cell_of_row _ b 1 _ _ _ m2
      simp at x0 x1
      have hl : (newG g).length = g := newG_length g
      have hpw := HI.out.pu.then hm (fun i hi e => by have := HB.out; omega)
      have hne : ∀ i, i = b → i < wr.heap.size → ∃ cs T' fz, wr.heap[i]? = some (.cells cs T' fz) ∧ T' ≠ 5 ∧ T' ≠ 43 := fun i e _ => ⟨_, _, _, e ▸ HI.out.h2, by decide, by decide⟩
      have hr0 : RefI wr a c a' c' (newG g) := ⟨by rw [hl, newG_C]; exact HI.out.C, by rw [hl, newG_S]; exact HI.out.S, newG_ok hg⟩
      exact bodyPost_ret (v := .tuple #[refI a c a' c' (newG g).length, .int .i64 0]) (by rw [hl]; simp [results, Try.results46, go_sem, x0, x1, refI]) rfl
        ⟨a, c, a', c', rfl, hr0.modT hm hne, hpw, fun i hi => HI.out.fC i (by rw [hl] at hi; exact hi), fun i hi => HI.out.fS i (by rw [hl] at hi; exact hi)⟩
theorem rNew_bad (z : Int) (hz : validM z = false) (w : World) : Calls Try.prog 46 #[.int .i64 z] w fun e w' => e = .returned (.tuple #[.agg #[.slice none 0 0, .slice none 0 0], .int .i64 2]) ∧ Pure w w' := by
  have HV := Lib.hid (fun W => (hz ▸ rValid_ok z W))
  have hp : Pure w (w.alloc (.cells #[.slice none 0 0, .slice none 0 0] 82)) := (Mod.refl _ w).alloc _
  have h2 := (heap_new (w := w) (o := .cells #[.slice none 0 0, .slice none 0 0] 82 (0, 0)) rfl)
  go_enter Try.func46, Try.ntmps46
  go_upto_region 1 with fail
  generalize w.alloc (.cells #[.slice none 0 0, .slice none 0 0] 82) = W at *
  obtain ⟨b, hb⟩ : ∃ b, w.heap.size = b := ⟨_, rfl⟩
  rw [hb] at h2 ⊢
  have h2_0 := cell_of_row _ _ 0 _ _ _ h2; have h2_1 := cell_of_row _ _ 1 _ _ _ h2; have h2_f := (fun j => frozen_of_row _ _ j _ _ h2); have h2_l := lt_of_block h2; simp at h2_0 h2_1; have H_h2 := Lib.hid h2; clear h2
  go_wp2_with (go_at_call 93; refine Calls.mono (HV.out _) ?_; rintro e w' ⟨rfl, rfl⟩)
  have m2 := heap_set12 (v0 := .slice none 0 0) (v1 := .slice none 0 0) H_h2.out
  have hm : Mod (fun i => i = b) W ((W.setCell ⟨b, 0, none⟩ (.slice none 0 0)).setCell ⟨b, 1, none⟩ (.slice none 0 0)) := Mod.set2 b 0 1 _ _
  have x0 := cell_of_row _ b 0 _ _ _ m2; have x1 := cell_of_row _ b 1 _ _ _ m2
  simp at x0 x1
  exact bodyPost_ret (v := .tuple #[.agg #[.slice none 0 0, .slice none 0 0], .int .i64 2]) (by simp [results, Try.results46, go_sem, x0, x1]) rfl ⟨rfl, hp.then hm (fun i hi e => by omega)⟩

/-! ### Copy -/
theorem rCopy_ok {w : World} {aC : Option Addr} {cC : Nat} {aS : Option Addr} {cS : Nat} {Gs : List Grp} (h : RefI w aC cC aS cS Gs) : Calls Try.prog 126 #[refI aC cC aS cS Gs.length] w fun e w' => ∃ aC' cC' aS' cS', e = .returned (refI aC' cC' aS' cS' Gs.length) ∧ RefI w' aC' cC' aS' cS' Gs ∧ Pure w w' ∧
    (∀ k, (Value.slice aC' (8 * Gs.length) cC').ownBlock = some k → w.heap.size ≤ k) ∧ ∀ k, (Value.slice aS' (8 * Gs.length) cS').ownBlock = some k → w.heap.size ≤ k := by
  have hg1 := h.ok.pow.le
  have one1 : ∀ u ∈ u8s (laneC Gs), u.oneCell' = true := fun u hu => by obtain ⟨x, _, rfl⟩ := List.mem_map.1 hu; rfl
  have one2 : ∀ u ∈ u32v (laneS Gs), u.oneCell' = true := fun u hu => by obtain ⟨x, _, rfl⟩ := List.mem_map.1 hu; rfl
  have l1 : (u8s (laneC Gs)).length = 8 * Gs.length * 1 := h.C.1
  have l2 : (u32v (laneS Gs)).length = 8 * Gs.length * 1 := h.S.1
  have hp : Pure w ((w.alloc (.cells #[.slice aC (8 * Gs.length) cC, .slice aS (8 * Gs.length) cS] 82)).alloc (.cells #[.slice none 0 0, .slice none 0 0] 82)) := ((Mod.refl _ w).alloc _).alloc _
  have h1 := heap_keep (o := .cells #[.slice none 0 0, .slice none 0 0] 82 (0, 0)) (heap_new (w := w) (o := .cells #[.slice aC (8 * Gs.length) cC, .slice aS (8 * Gs.length) cS] 82 (0, 0)) rfl)
  have h2 := heap_new (w := w.alloc (.cells #[.slice aC (8 * Gs.length) cC, .slice aS (8 * Gs.length) cS] 82)) (o := .cells #[.slice none 0 0, .slice none 0 0] 82 (0, 0)) (n := w.heap.size + 1) (by simp)
  have HX := Lib.hid (h.pure hp)
  have HP := Lib.hid hp; have HL1 := Lib.hid l1; have HL2 := Lib.hid l2; have ON1 := Lib.hid one1; have ON2 := Lib.hid one2
  clear h hp l1 l2 one1 one2
  unfold refI
  go_enter Try.func126, Try.ntmps126
  go_upto_region 1 with fail
  generalize (w.alloc (.cells #[.slice aC (8 * Gs.length) cC, .slice aS (8 * Gs.length) cS] 82)).alloc (.cells #[.slice none 0 0, .slice none 0 0] 82) = W at *
  obtain ⟨b, hb⟩ : ∃ b, w.heap.size = b := ⟨_, rfl⟩
  rw [hb] at h1 h2 ⊢
  have HB := Lib.hid hb
  clear hb
  have H1 := Lib.hid h1; have H2 := Lib.hid h2
  obtain ⟨iA, hiA, iA0, iA1, iA2⟩ := info_parts info_u8
  obtain ⟨iB, hiB, iB0, iB1, iB2⟩ := info_parts info_u32
  have h1_0 := cell_of_row _ _ 0 _ _ _ h1; have h1_1 := cell_of_row _ _ 1 _ _ _ h1; have h1_f := (fun j => frozen_of_row _ _ j _ _ h1); have h1_l := lt_of_block h1; simp at h1_0 h1_1; have H_h1 := Lib.hid h1; clear h1
  have h2_0 := cell_of_row _ _ 0 _ _ _ h2; have h2_1 := cell_of_row _ _ 1 _ _ _ h2; have h2_f := (fun j => frozen_of_row _ _ j _ _ h2); have h2_l := lt_of_block h2; simp at h2_0 h2_1; have H_h2 := Lib.hid h2; clear h2
  have c0 : W.drew.cell? ⟨b, 0, none⟩ = _ := h1_0
  have c1 : W.drew.cell? ⟨b, 1, none⟩ = _ := h1_1
  have HC := Lib.hid (ReadAt.of_owns HX.out.C ON1.out); have HS := Lib.hid (ReadAt.of_owns HX.out.S ON2.out)
  go_region_law ((first
    | (refine step_append_read _ (by rfl) _ _ 44 (by rfl) 5 iA _ 1 1 Try.underlying44 hiA iA0 iA1 iA2 rfl (by decide) (.slice none 0 0) 0 [] (by rfl) (World.ownsRow_nil _ _ _ _) (.slice aC (8 * Gs.length) cC) (u8s (laneC Gs)) (8 * Gs.length) (by rfl) HC.out HL1.out (by unfold maxLen; omega) (by omega) ?_; intro a7 c7 w7 hr7 hg7 hb7; have hp7 : Pure W w7 := Mod.of_drew (Mod.of_grown (S := fun _ => False) hg7 (fun k e _ => (by cases e))); have k1 := hp7.cell (fun h => h) h1_1; have hf7 := hp7.heap (fun h => h) H2.out; have k20 := cell_of_row w7 _ 0 _ _ _ hf7; have k21 := cell_of_row w7 _ 1 _ _ _ hf7; have kf := (fun j => frozen_of_row w7 _ j _ _ hf7); simp at k20 k21)
    | (refine step_append_read _ (by rfl) _ _ 24 (by rfl) 43 iB _ 1 4 Try.underlying24 hiB iB0 iB1 iB2 rfl (by decide) (.slice none 0 0) 0 [] (by rfl) (World.ownsRow_nil _ _ _ _) (.slice aS (8 * Gs.length) cS) (u32v (laneS Gs)) (8 * Gs.length) (by rfl) (HS.out.frame hp7 (fun _ _ h => h)) HL2.out (by unfold maxLen; omega) (by omega) ?_; intro a9 c9 w9 hr9 hg9 hb9; have hp9 : Pure w7 w9 := Mod.of_grown (S := fun _ => False) hg9 (fun k e _ => (by cases e)); have hf9 := hp9.heap (fun h => h) hf7; have m20 := cell_of_row w9 _ 0 _ _ _ hf9; have m21 := cell_of_row w9 _ 1 _ _ _ hf9; have mf := (fun j => frozen_of_row w9 _ j _ _ hf9); simp at m20 m21)))
  all_goals
    have hr7' : w7.ownsRow 0 5 1 (.slice a7 (8 * Gs.length) c7) (8 * Gs.length) (u8s (laneC Gs)) := by simpa using hr7
    have hr9' : w9.ownsRow 0 43 1 (.slice a9 (8 * Gs.length) c9) (8 * Gs.length) (u32v (laneS Gs)) := by simpa using hr9
    have hr0 : RefI w9 a7 c7 a9 c9 Gs := ⟨owns_mod hr7' hp9 (fun _ _ h => h), hr9', HX.out.ok⟩
    have hm : Mod (fun i => i = b + 1) w9 ((w9.setCell ⟨b + 1, 0, none⟩ (.slice a7 (8 * Gs.length) c7)).setCell ⟨b + 1, 1, none⟩ (.slice a9 (8 * Gs.length) c9)) := Mod.set2 (b + 1) 0 1 _ _
    have hne : ∀ i, i = b + 1 → i < w9.heap.size → ∃ cs T' fz, w9.heap[i]? = some (.cells cs T' fz) ∧ T' ≠ 5 ∧ T' ≠ 43 := fun i e _ => ⟨_, _, _, e ▸ hf9, by decide, by decide⟩
    have m2 := heap_set12 (v0 := .slice a7 (8 * Gs.length) c7) (v1 := .slice a9 (8 * Gs.length) c9) hf9
    have x0 := cell_of_row _ (b + 1) 0 _ _ _ m2; have x1 := cell_of_row _ (b + 1) 1 _ _ _ m2
    simp at x0 x1
    have f7 : ∀ k, (Value.slice a7 (8 * Gs.length) c7).ownBlock = some k → w.heap.size ≤ k := fun k hk => by
      rcases hb7 with e | e
      · have : (Value.slice a7 (0 + 8 * Gs.length) c7).ownBlock = some k := by simpa [Value.ownBlock] using hk
        rw [this] at e; cases e
      · have : (Value.slice a7 (0 + 8 * Gs.length) c7).ownBlock = some k := by simpa [Value.ownBlock] using hk
        rw [this] at e; cases e; exact HP.out.size
    have f9 : ∀ k, (Value.slice a9 (8 * Gs.length) c9).ownBlock = some k → w.heap.size ≤ k := fun k hk => by
      rcases hb9 with e | e
      · have : (Value.slice a9 (0 + 8 * Gs.length) c9).ownBlock = some k := by simpa [Value.ownBlock] using hk
        rw [this] at e; cases e
      · have : (Value.slice a9 (0 + 8 * Gs.length) c9).ownBlock = some k := by simpa [Value.ownBlock] using hk
        rw [this] at e; cases e; exact (HP.out.trans hp7).size
    have HR := Lib.hid (hr0.modT hm hne)
    have HPW := Lib.hid (((HP.out.trans hp7).trans hp9).then hm (fun i hi e => by have := HB.out; omega))
    have HF7 := Lib.hid f7; have HF9 := Lib.hid f9
    clear hr7 hr9 hr7' hr9' hr0 hm hne hg7 hg9 hb7 hb9 f7 f9 k1 k20 k21 kf m20 m21 mf hf7 hf9 hp7 hp9 m2
    go_wp2_with fail
    exact bodyPost_ret (v := .agg #[.slice a7 (8 * Gs.length) c7, .slice a9 (8 * Gs.length) c9]) (by simp [results, Try.results126, go_sem, x0, x1]) rfl ⟨a7, c7, a9, c9, rfl, HR.out, HPW.out, HF7.out, HF9.out⟩

/-! ### Groups, Count, has -/
theorem rGroups_ok {w : World} {aC : Option Addr} {cC : Nat} {aS : Option Addr} {cS : Nat} {Gs : List Grp} (h : IxOk Gs) : Calls Try.prog 101 #[refI aC cC aS cS Gs.length] w fun e w' => e = .returned (.int .i64 Gs.length) ∧ Pure w w' := by
  have hg1 := h.pow.le
  have hp : Pure w (w.alloc (.cells #[.slice aC (8 * Gs.length) cC, .slice aS (8 * Gs.length) cS] 82)) := (Mod.refl _ w).alloc _
  have h1 := heap_new (w := w) (o := .cells #[.slice aC (8 * Gs.length) cC, .slice aS (8 * Gs.length) cS] 82 (0, 0)) rfl
  have e1 : (((8 * Gs.length : Nat) : Int)).tdiv 8 = (Gs.length : Int) := by rw [Int.tdiv_eq_ediv_of_nonneg (by omega)]; omega
  have e2 : (((8 * Gs.length : Nat) : Int)) / 8 = (Gs.length : Int) := by omega
  have e3 : (8 * (Gs.length : Int)).tdiv 8 = (Gs.length : Int) := by rw [Int.tdiv_eq_ediv_of_nonneg (by omega)]; omega
  have e4 : (8 * (Gs.length : Int)) / 8 = (Gs.length : Int) := by omega
  have w1 : IntKind.i64.wrap (Gs.length : Int) = Gs.length := IntWalk.i64_in _ (by omega)
  unfold refI
  go_enter Try.func101, Try.ntmps101
  go_upto_region 1 with fail
  generalize w.alloc (.cells #[.slice aC (8 * Gs.length) cC, .slice aS (8 * Gs.length) cS] 82) = W at *
  generalize w.heap.size = b at *
  have h1_0 := cell_of_row _ _ 0 _ _ _ h1; have h1_1 := cell_of_row _ _ 1 _ _ _ h1; have h1_f := (fun j => frozen_of_row _ _ j _ _ h1); have h1_l := lt_of_block h1; simp at h1_0 h1_1; have H_h1 := Lib.hid h1; clear h1
  go_wp2
  go_ret
  refine ⟨?_, hp⟩
  first | rfl | simp
end Go.Proofs.Ytbjiebhbmpafpaa
