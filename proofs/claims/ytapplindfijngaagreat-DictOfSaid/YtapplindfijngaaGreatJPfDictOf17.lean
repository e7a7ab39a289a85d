/- Lemmas and contracts of functions, strung together out of 4 texts. No condition. -/
import Derived.Test.YtapplindfijngaaGreatJPfDictOf16
import Derived.BigRegion
/- law07.known is true. -/
namespace Go.Proofs.YtapplindfijngaaGreat
open Go.RowKit Go.Shelf
set_option maxRecDepth 100000

def kn1 : List Grp := [([0, 128, 128, 128, 128, 128, 128, 128], [7, 0, 0, 0, 0, 0, 0, 0])]
def kn2 : List Grp := [([0, 3, 128, 128, 128, 128, 128, 128], [7, 8, 0, 0, 0, 0, 0, 0])]
def kn3 : List Grp := [([0, 3, 0, 128, 128, 128, 128, 128], [7, 8, 9, 0, 0, 0, 0, 0])]
def kn4 : List Grp := [([128, 3, 0, 128, 128, 128, 128, 128], [0, 8, 9, 0, 0, 0, 0, 0])]
def kn5 : List Grp := [([5, 3, 0, 128, 128, 128, 128, 128], [4, 8, 9, 0, 0, 0, 0, 0])]
def kn6 : List Grp := [([5, 3, 0, 128, 128, 128, 128, 128], [4, 8, 1, 0, 0, 0, 0, 0])]
theorem kn_a : insM (newG 1) 128 7 = some kn1 := by decide
theorem kn_b : insM kn1 3 8 = some kn2 := by decide
theorem kn_c : insM kn2 128 9 = some kn3 := by decide
theorem kn_d : findsM kn3 128 9 0 9 0 = true := by decide +kernel
theorem kn_e : findsM kn3 3 9 0 0 9 = true := by decide +kernel
theorem kn_f : findsM kn3 128 0 1 7 0 = true := by decide +kernel
theorem kn_g : findM kn3 128 (fun x => x == 7) = some (0, 0) := by decide +kernel
theorem kn_h : delG kn3 0 0 = kn4 := by decide
theorem kn_i : findM kn4 128 (fun x => x == 7) = none := by decide +kernel
theorem kn_j : usedN kn4 = 2 := by decide
theorem kn_k : tombN kn4 = 0 := by decide
theorem kn_l : insM kn4 5 4 = some kn5 := by decide
theorem kn_m : findM kn5 128 (fun x => x == 9) = some (0, 2) := by decide +kernel
theorem kn_n : setG kn5 0 2 (128 % 128) 1 = kn6 := by decide
theorem kn_o : findsM kn6 128 0 1 1 0 = true := by decide +kernel
theorem pow_one : Pow 1 := ⟨0, by decide, rfl⟩

theorem lay_at {w W : World} {Gs : List Grp} {k : Nat} {v4 v5 : Value} (h : LayInv w Gs k v4 v5 W) (hk : 0 < k) : ∃ b4 c4 b5 c5, v4 = .slice (some ⟨b4, 0, none⟩) (8 * k) c4 ∧ v5 = .slice (some ⟨b5, 0, none⟩) (8 * k) c5 ∧ 8 * k ≤ c4 ∧ 8 * k ≤ c5 ∧
    (∀ j u, (u8s (laneC (Gs.take k)))[j]? = some u → W.cell? ⟨b4, j, none⟩ = some u) ∧ (∀ j u, (u32v (laneS (Gs.take k)))[j]? = some u → W.cell? ⟨b5, j, none⟩ = some u) := by
  obtain ⟨b4, c4, e4, l4, _, h4, _⟩ := owns_at h.c (by omega)
  obtain ⟨b5, c5, e5, l5, _, h5, _⟩ := owns_at h.s (by omega)
  exact ⟨b4, c4, b5, c5, e4, e5, l4, l5, h4, h5⟩
theorem kn_conv {w : World} {b c : Nat} (h0 : w.cell? ⟨b, 0, none⟩ = some (.int .u8 0)) (h1 : w.cell? ⟨b, 1, none⟩ = some (.int .u8 3)) (h2 : w.cell? ⟨b, 2, none⟩ = some (.int .u8 0)) (h3 : w.cell? ⟨b, 3, none⟩ = some (.int .u8 128)) :
    (convert 33 9 (.slice (some ⟨b, 0, none⟩) 4 c)).run Tryz.prog w = .ok (.string (strOf [0, 3, 0, 128])) w := by
  refine conv_u8s [0, 3, 0, 128] (by decide) ⟨some ⟨b, 0, none⟩, 4, c, rfl, rfl, by intro u hu; obtain ⟨x, _, rfl⟩ := List.mem_map.1 hu; rfl, (fun h => by cases h), fun ad ha j u hu => ?_⟩
  cases ha
  have hj : j < 4 := (List.getElem?_eq_some_iff.1 hu).1
  have : j = 0 ∨ j = 1 ∨ j = 2 ∨ j = 3 := by omega
  rcases this with rfl | rfl | rfl | rfl
  · cases hu; exact h0
  · cases hu; exact h1
  · cases hu; exact h2
  · cases hu; exact h3
end Go.Proofs.YtapplindfijngaaGreat

/- The reference of layer 7: New, Copy, Groups, Count, has. -/
namespace Go.Proofs.YtapplindfijngaaGreat
open Go.RowKit Go.Shelf
set_option maxRecDepth 100000

/-- A reference index: its lanes, in rows of its own. -/
structure RefI (W : World) (aC : Option Addr) (cC : Nat) (aS : Option Addr) (cS : Nat) (Gs : List Grp) : Prop where
  C : W.ownsRow 0 5 1 (.slice aC (8 * Gs.length) cC) (8 * Gs.length) (u8s (laneC Gs))
  S : W.ownsRow 0 43 1 (.slice aS (8 * Gs.length) cS) (8 * Gs.length) (u32v (laneS Gs))
  ok : IxOk Gs
def refI (aC : Option Addr) (cC : Nat) (aS : Option Addr) (cS n : Nat) : Value := .agg #[.slice aC (8 * n) cC, .slice aS (8 * n) cS]
theorem RefI.pure {W W' : World} {aC : Option Addr} {cC : Nat} {aS : Option Addr} {cS : Nat} {Gs : List Grp} (h : RefI W aC cC aS cS Gs) (hp : Pure W W') : RefI W' aC cC aS cS Gs := ⟨owns_mod h.C hp (fun _ _ h => h), owns_mod h.S hp (fun _ _ h => h), h.ok⟩
/-- .. behind a change of blocks of other types. -/
theorem RefI.modT {W W' : World} {S : Nat → Prop} {aC : Option Addr} {cC : Nat} {aS : Option Addr} {cS : Nat} {Gs : List Grp} (h : RefI W aC cC aS cS Gs) (hm : Mod S W W') (hS : ∀ i, S i → i < W.heap.size → ∃ cs T' fz, W.heap[i]? = some (.cells cs T' fz) ∧ T' ≠ 5 ∧ T' ≠ 43) : RefI W' aC cC aS cS Gs :=
  ⟨owns_modT h.C hm (fun i hi hl => by obtain ⟨cs, T', fz, e, h1, h2⟩ := hS i hi hl; exact ⟨cs, T', fz, e, h1⟩), owns_modT h.S hm (fun i hi hl => by obtain ⟨cs, T', fz, e, h1, h2⟩ := hS i hi hl; exact ⟨cs, T', fz, e, h2⟩), h.ok⟩
def lan8 (f : Grp → List Nat) (c : Grp) : List Nat := (List.range 8).map (fun j => (f c).getD j 0)
theorem lan8_length (f : Grp → List Nat) (c : Grp) : (lan8 f c).length = 8 := by simp [lan8]
theorem lan8_eq {f : Grp → List Nat} {c : Grp} (h : (f c).length = 8) : lan8 f c = f c := by
  unfold lan8
  obtain ⟨x0, x1, x2, x3, x4, x5, x6, x7, e⟩ := eight_of h
  rw [e]
  rfl
theorem lan8_flat {f : Grp → List Nat} {Gs : List Grp} (h : ∀ c ∈ Gs, (f c).length = 8) : Gs.flatMap f = Gs.flatMap (lan8 f) := by
  rw [List.flatMap_def, List.flatMap_def, List.map_congr_left (fun c hc => lan8_eq (h c hc))]
theorem lan8_len {f : Grp → List Nat} {Gs : List Grp} (h : ∀ c ∈ Gs, (f c).length = 8) : (Gs.flatMap f).length = 8 * Gs.length := by
  rw [lan8_flat h]
  clear h
  induction Gs with
  | nil => rfl
  | cons c Gs ih => rw [List.flatMap_cons, List.length_append, ih, lan8_length, List.length_cons]; omega
theorem lan8_at {f : Grp → List Nat} {Gs : List Grp} (h : ∀ c ∈ Gs, (f c).length = 8) {i j : Nat} (hi : i < Gs.length) (hj : j < 8) : (Gs.flatMap f)[8 * i + j]? = (f (grpAt Gs i))[j]? := by
  rw [lan8_flat h]
  have h1 := flat_get (lan8 f) 8 (lan8_length f) j hj Gs i
  rw [Nat.mul_comm i 8, grpAt_some hi] at h1
  rw [h1]
  show (lan8 f (grpAt Gs i))[j]? = _
  rw [lan8_eq (h _ (List.mem_of_getElem? (grpAt_some hi)))]
theorem laneC_length {Gs : List Grp} (h : IxOk Gs) : (laneC Gs).length = 8 * Gs.length := lan8_len (fun c hc => (h.grp c hc).ctl.1)
theorem laneS_length {Gs : List Grp} (h : IxOk Gs) : (laneS Gs).length = 8 * Gs.length := lan8_len (fun c hc => (h.grp c hc).len)
/-- Lane 8 i + j. -/
theorem laneC_at {Gs : List Grp} (h : IxOk Gs) {i j : Nat} (hi : i < Gs.length) (hj : j < 8) : (laneC Gs)[8 * i + j]? = (grpAt Gs i).1[j]? := lan8_at (fun c hc => (h.grp c hc).ctl.1) hi hj
theorem laneS_at {Gs : List Grp} (h : IxOk Gs) {i j : Nat} (hi : i < Gs.length) (hj : j < 8) : (laneS Gs)[8 * i + j]? = (grpAt Gs i).2[j]? := lan8_at (fun c hc => (h.grp c hc).len) hi hj
theorem newG_C (g : Nat) : laneC (newG g) = List.replicate (8 * g) 128 := by
  induction g with
  | zero => rfl
  | succ g ih =>
    have : newG (g + 1) = blankG :: newG g := List.replicate_succ
    rw [this]
    show blankG.1 ++ laneC (newG g) = _
    rw [ih, show 8 * (g + 1) = 8 + 8 * g by omega, ← List.replicate_append_replicate]
    rfl
theorem newG_S (g : Nat) : laneS (newG g) = List.replicate (8 * g) 0 := by
  induction g with
  | zero => rfl
  | succ g ih =>
    have : newG (g + 1) = blankG :: newG g := List.replicate_succ
    rw [this]
    show blankG.2 ++ laneS (newG g) = _
    rw [ih, show 8 * (g + 1) = 8 + 8 * g by omega, ← List.replicate_append_replicate]
    rfl
structure RNewI (w : World) (b2 b4 k : Nat) (W : World) (a : Option Addr) (c : Nat) (a' : Option Addr) (c' : Nat) : Prop where
  pu : Pure w W
  h2 : W.heap[b2]? = some (.cells #[.slice none 0 0, .slice none 0 0] 36 (0, 0))
  h4 : W.heap[b4]? = some (.cells #[.slice a k c, .slice a' k c'] 36 (0, 0))
  C : W.ownsRow 0 5 1 (.slice a k c) k (u8s (List.replicate k 128))
  S : W.ownsRow 0 43 1 (.slice a' k c') k (u32v (List.replicate k 0))
  fC : ∀ g, (Value.slice a k c).ownBlock = some g → w.heap.size ≤ g
  fS : ∀ g, (Value.slice a' k c').ownBlock = some g → w.heap.size ≤ g
set_option maxHeartbeats 1000000 in
theorem rNew_ok (g : Nat) (hg : Pow g) (w : World) : Calls Tryz.prog 47 #[.int .i64 g] w fun e w' => ∃ aC cC aS cS, e = .returned (.tuple #[refI aC cC aS cS (newG g).length, .int .i64 0]) ∧ RefI w' aC cC aS cS (newG g) ∧ Pure w w' ∧
    (∀ k, (Value.slice aC (8 * (newG g).length) cC).ownBlock = some k → w.heap.size ≤ k) ∧ ∀ k, (Value.slice aS (8 * (newG g).length) cS).ownBlock = some k → w.heap.size ≤ k := by
  have hg0 := hg.pos
  have hg1 := hg.le
  have HV := Lib.hid (fun W => (validM_pow hg ▸ rValid_ok (g : Int) W))
  have w8 : IntKind.i64.wrap (8 * (g : Int)) = 8 * (g : Int) := IntWalk.i64_in _ (by omega)
  have hp : Pure w ((w.alloc (.cells #[.slice none 0 0, .slice none 0 0] 36)).alloc (.cells #[.slice none 0 0, .slice none 0 0] 36)) := ((Mod.refl _ w).alloc _).alloc _
  have h2 := heap_keep (o := .cells #[.slice none 0 0, .slice none 0 0] 36 (0, 0)) (heap_new (w := w) (o := .cells #[.slice none 0 0, .slice none 0 0] 36 (0, 0)) rfl)
  have h4 := heap_new (w := w.alloc (.cells #[.slice none 0 0, .slice none 0 0] 36)) (o := .cells #[.slice none 0 0, .slice none 0 0] 36 (0, 0)) (n := w.heap.size + 1) (by simp)
  have H0 := Lib.hid (RNewI.mk (k := 0) hp h2 h4 (World.ownsRow_nil _ _ _ _) (World.ownsRow_nil _ _ _ _) (fun g e => by cases e) (fun g e => by cases e))
  clear hp h2 h4
  go_enter Tryz.func47, Tryz.ntmps47
  go_upto_region 5 with (go_at_call 104; refine Calls.mono (HV.out _) ?_; rintro e w' ⟨rfl, rfl⟩)
  generalize (w.alloc (.cells #[.slice none 0 0, .slice none 0 0] 36)).alloc (.cells #[.slice none 0 0, .slice none 0 0] 36) = W at *
  obtain ⟨b, hb⟩ : ∃ b, w.heap.size = b := ⟨_, rfl⟩
  rw [hb] at H0 ⊢
  obtain ⟨iA, hiA, iA0, iA1, iA2⟩ := info_parts info_u8
  obtain ⟨iB, hiB, iB0, iB1, iB2⟩ := info_parts info_u32
  go_loopw [5] (fun v wr => ∃ k a c a' c', v = .int .i64 (k : Nat) ∧ k ≤ 8 * g ∧ RNewI w b (b + 1) k wr a c a' c') (fun v _ => 8 * g - (intOf v).toNat)
  case atStart => exact ⟨0, none, 0, none, 0, rfl, Nat.zero_le _, H0.out⟩
  case round =>
    clear H0 HV
    obtain ⟨k, a, c, a', c', rfl, hk, hI⟩ := hrel
    have HI := Lib.hid hI
    have h4 := hI.h4
    clear hI
    by_cases hlt : k < 8 * g
    · have hlt' : (k : Int) < 8 * (g : Int) := by omega
      have h4_0 := cell_of_row _ _ 0 _ _ _ h4; have h4_1 := cell_of_row _ _ 1 _ _ _ h4; have h4_f := (fun j => frozen_of_row _ _ j _ _ h4); have h4_l := lt_of_block h4; simp at h4_0 h4_1; have H_h4 := Lib.hid h4; clear h4
      have nb4 : (Value.slice a k c).ownBlock ≠ some (b + 1) := fun e => by
        obtain ⟨cc, e2⟩ := owns_type HI.out.C e
        rw [HI.out.h4] at e2; cases e2
      have NB4 := Lib.hid nb4
      clear nb4
      go_upto_region 8 with (at_builtin; refine wpList_append_read _ rfl _ _ 33 rfl 5 iA _ 1 1 Tryz.underlying33 hiA iA0 iA1 iA2 rfl (by decide) (.slice a k c) k _ rfl (owns_mod HI.out.C ((Mod.refl (fun _ => False) wr).alloc _) (fun _ _ h => h)) _ [.int .u8 128] 1 rfl (ReadAt.of_block 1 1 1 (heap_new rfl) (by rfl) (by simp [Value.oneCell'])) rfl (by unfold maxLen; omega) (by omega) ?_; intro a7 c7 w5 hr7 hg7 hb7; have m7 := Mod.heap (Mod.of_grown (S := fun k' => (Value.slice a k c).ownBlock = some k') hg7 (fun k e _ => e)) NB4.out (heap_keep H_h4.out); have m7_0 := cell_of_row _ _ 0 _ _ _ m7; have m7_1 := cell_of_row _ _ 1 _ _ _ m7; have m7_f := (fun j => frozen_of_row _ _ j _ _ m7); have m7_l := lt_of_block m7; simp at m7_0 m7_1; have H_m7 := Lib.hid m7; clear m7)
      obtain ⟨q1, q2, q3, q4⟩ := field_append (j := 0) HI.out.h4 HI.out.C (by decide) ((Mod.refl (fun _ => False) wr).alloc _) hr7 hg7 hb7
      simp at q1
      have hty : ∀ i, i = b + 1 ∨ (Value.slice a k c).ownBlock = some i → i < wr.heap.size → ∃ cs T' fz, wr.heap[i]? = some (.cells cs T' fz) ∧ T' ≠ 43 := by
        rintro i (rfl | e) _
        · exact ⟨_, _, _, HI.out.h4, by decide⟩
        · obtain ⟨cc, e2⟩ := owns_type HI.out.C e
          exact ⟨_, _, _, e2, by decide⟩
      have r2 := owns_modT HI.out.S q3 hty
      have hwb : ∀ i, i = b + 1 ∨ (Value.slice a k c).ownBlock = some i → w.heap.size ≤ i := by
        rintro i (rfl | e)
        · omega
        · exact HI.out.fC i e
      have p2 : Pure w _ := HI.out.pu.then q3 (fun i hi hs => by have := hwb i hs; omega)
      have g2 := q3.heap (k := b) (fun e => by
        rcases e with e | e
        · omega
        · obtain ⟨cc, e2⟩ := owns_type HI.out.C e
          rw [HI.out.h2] at e2; cases e2) HI.out.h2
      have f2 : ∀ i, (Value.slice a7 (k + 1) c7).ownBlock = some i → w.heap.size ≤ i := fun i hi => by
        rcases q4 i hi with e | e
        · exact HI.out.fC i e
        · exact Nat.le_trans HI.out.pu.size e
      have Q2 := Lib.hid q2; have R2 := Lib.hid r2; have P2 := Lib.hid p2; have G2 := Lib.hid g2; have F2 := Lib.hid f2
      clear h4_0 h4_1 h4_f h4_l
      clear m7_0 m7_1 m7_f m7_l
      clear H_h4 H_m7 hr7 hg7 hb7 q2 q3 q4 r2 p2 g2 f2 hty hwb
      generalize w5.setCell ⟨b + 1, 0, none⟩ (.slice a7 (k + 1) c7) = W7 at *
      have h47 := q1
      have Q1 := Lib.hid q1
      clear q1
      have h47_0 := cell_of_row _ _ 0 _ _ _ h47; have h47_1 := cell_of_row _ _ 1 _ _ _ h47; have h47_f := (fun j => frozen_of_row _ _ j _ _ h47); have h47_l := lt_of_block h47; simp at h47_0 h47_1; have H_h47 := Lib.hid h47; clear h47
      have nb4 : (Value.slice a' k c').ownBlock ≠ some (b + 1) := fun e => by
        obtain ⟨cc, e2⟩ := owns_type R2.out e
        rw [Q1.out] at e2; cases e2
      have NB4' := Lib.hid nb4
      clear nb4
      go_upto_region 6 with (at_builtin; refine wpList_append_read _ rfl _ _ 34 rfl 43 iB _ 1 4 Tryz.underlying34 hiB iB0 iB1 iB2 rfl (by decide) (.slice a' k c') k _ rfl (owns_mod R2.out ((Mod.refl (fun _ => False) W7).alloc _) (fun _ _ h => h)) _ [.int .u32 0] 1 rfl (ReadAt.of_block 1 1 1 (heap_new rfl) (by rfl) (by simp [Value.oneCell'])) rfl (by unfold maxLen; omega) (by omega) ?_; intro a9 c9 w9 hr9 hg9 hb9; have m9 := Mod.heap (Mod.of_grown (S := fun k' => (Value.slice a' k c').ownBlock = some k') hg9 (fun k e _ => e)) NB4'.out (heap_keep H_h47.out); have m9_0 := cell_of_row _ _ 0 _ _ _ m9; have m9_1 := cell_of_row _ _ 1 _ _ _ m9; have m9_f := (fun j => frozen_of_row _ _ j _ _ m9); have m9_l := lt_of_block m9; simp at m9_0 m9_1; have H_m9 := Lib.hid m9; clear m9)
      obtain ⟨q1, q2, q3, q4⟩ := field_append (j := 1) Q1.out R2.out (by decide) ((Mod.refl (fun _ => False) W7).alloc _) hr9 hg9 hb9
      simp at q1
      have hty : ∀ i, i = b + 1 ∨ (Value.slice a' k c').ownBlock = some i → i < W7.heap.size → ∃ cs T' fz, W7.heap[i]? = some (.cells cs T' fz) ∧ T' ≠ 5 := by
        rintro i (rfl | e) _
        · exact ⟨_, _, _, Q1.out, by decide⟩
        · obtain ⟨cc, e2⟩ := owns_type R2.out e
          exact ⟨_, _, _, e2, by decide⟩
      have r2 := owns_modT Q2.out q3 hty
      have hwb : ∀ i, i = b + 1 ∨ (Value.slice a' k c').ownBlock = some i → w.heap.size ≤ i := by
        rintro i (rfl | e)
        · omega
        · exact HI.out.fS i e
      have p2 : Pure w _ := P2.out.then q3 (fun i hi hs => by have := hwb i hs; omega)
      have g2 := q3.heap (k := b) (fun e => by
        rcases e with e | e
        · omega
        · obtain ⟨cc, e2⟩ := owns_type R2.out e
          rw [G2.out] at e2; cases e2) G2.out
      have f2 : ∀ i, (Value.slice a9 (k + 1) c9).ownBlock = some i → w.heap.size ≤ i := fun i hi => by
        rcases q4 i hi with e | e
        · exact HI.out.fS i e
        · exact Nat.le_trans P2.out.size e
      have e128 : u8s (List.replicate (k + 1) 128) = u8s (List.replicate k 128) ++ [.int .u8 128] := by unfold u8s; rw [List.replicate_succ']; simp
      have e0 : u32v (List.replicate (k + 1) 0) = u32v (List.replicate k 0) ++ [.int .u32 0] := by unfold u32v; rw [List.replicate_succ']; simp
      have HN : Hid (RNewI w b (b + 1) (k + 1) _ a7 c7 a9 c9) := ⟨p2, g2, q1, by rw [e128]; exact r2, by rw [e0]; exact q2, F2.out, f2⟩
      clear h47_0 h47_1 h47_f h47_l
      clear m9_0 m9_1 m9_f m9_l
      clear H_h47 H_m9 hr9 hg9 hb9 q1 q2 q3 q4 r2 p2 g2 f2 hty hwb e128 e0
      go_wp2
      go_roundw
      case rel => exact ⟨k + 1, a7, c7, a9, c9, by go_num, hlt, HN.out⟩
      case measure => simp [intOf]; omega
    · have hlt' : 8 * (g : Int) ≤ (k : Int) := by omega
      have e : k = 8 * g := by omega
      have h2 := HI.out.h2
      have h2_0 := cell_of_row _ _ 0 _ _ _ h2; have h2_1 := cell_of_row _ _ 1 _ _ _ h2; have h2_f := (fun j => frozen_of_row _ _ j _ _ h2); have h2_l := lt_of_block h2; simp at h2_0 h2_1; have H_h2 := Lib.hid h2; clear h2
      have h4_0 := cell_of_row _ _ 0 _ _ _ h4; have h4_1 := cell_of_row _ _ 1 _ _ _ h4; have h4_f := (fun j => frozen_of_row _ _ j _ _ h4); have h4_l := lt_of_block h4; simp at h4_0 h4_1; have H_h4 := Lib.hid h4; clear h4
      subst e
      have HB := Lib.hid hb
      clear hb
      go_wp2
      have m2 := heap_set12 (v0 := .slice a (8 * g) c) (v1 := .slice a' (8 * g) c') H_h2.out
      have hm : Mod (fun i => i = b) wr ((wr.setCell ⟨b, 0, none⟩ (.slice a (8 * g) c)).setCell ⟨b, 1, none⟩ (.slice a' (8 * g) c')) := Mod.set2 b 0 1 _ _
      have x0 := cell_of_row _ b 0 _ _ _ m2; have x1 := cell_of_row _ b 1 _ _ _ m2
      simp at x0 x1
      have hl : (newG g).length = g := newG_length g
      have hpw := HI.out.pu.then hm (fun i hi e => by have := HB.out; omega)
      have hne : ∀ i, i = b → i < wr.heap.size → ∃ cs T' fz, wr.heap[i]? = some (.cells cs T' fz) ∧ T' ≠ 5 ∧ T' ≠ 43 := fun i e _ => ⟨_, _, _, e ▸ HI.out.h2, by decide, by decide⟩
      have hr0 : RefI wr a c a' c' (newG g) := ⟨by rw [hl, newG_C]; exact HI.out.C, by rw [hl, newG_S]; exact HI.out.S, newG_ok hg⟩
      exact bodyPost_ret (v := .tuple #[refI a c a' c' (newG g).length, .int .i64 0]) (by rw [hl]; simp [results, Tryz.results47, go_sem, x0, x1, refI]) rfl
        ⟨a, c, a', c', rfl, hr0.modT hm hne, hpw, fun i hi => HI.out.fC i (by rw [hl] at hi; exact hi), fun i hi => HI.out.fS i (by rw [hl] at hi; exact hi)⟩
theorem rNew_bad (z : Int) (hz : validM z = false) (w : World) : Calls Tryz.prog 47 #[.int .i64 z] w fun e w' => e = .returned (.tuple #[.agg #[.slice none 0 0, .slice none 0 0], .int .i64 2]) ∧ Pure w w' := by
  have HV := Lib.hid (fun W => (hz ▸ rValid_ok z W))
  have hp : Pure w (w.alloc (.cells #[.slice none 0 0, .slice none 0 0] 36)) := (Mod.refl _ w).alloc _
  have h2 := (heap_new (w := w) (o := .cells #[.slice none 0 0, .slice none 0 0] 36 (0, 0)) rfl)
  go_enter Tryz.func47, Tryz.ntmps47
  go_upto_region 1 with fail
  generalize w.alloc (.cells #[.slice none 0 0, .slice none 0 0] 36) = W at *
  obtain ⟨b, hb⟩ : ∃ b, w.heap.size = b := ⟨_, rfl⟩
  rw [hb] at h2 ⊢
  have h2_0 := cell_of_row _ _ 0 _ _ _ h2; have h2_1 := cell_of_row _ _ 1 _ _ _ h2; have h2_f := (fun j => frozen_of_row _ _ j _ _ h2); have h2_l := lt_of_block h2; simp at h2_0 h2_1; have H_h2 := Lib.hid h2; clear h2
  go_wp2_with (go_at_call 104; refine Calls.mono (HV.out _) ?_; rintro e w' ⟨rfl, rfl⟩)
  have m2 := heap_set12 (v0 := .slice none 0 0) (v1 := .slice none 0 0) H_h2.out
  have hm : Mod (fun i => i = b) W ((W.setCell ⟨b, 0, none⟩ (.slice none 0 0)).setCell ⟨b, 1, none⟩ (.slice none 0 0)) := Mod.set2 b 0 1 _ _
  have x0 := cell_of_row _ b 0 _ _ _ m2; have x1 := cell_of_row _ b 1 _ _ _ m2
  simp at x0 x1
  exact bodyPost_ret (v := .tuple #[.agg #[.slice none 0 0, .slice none 0 0], .int .i64 2]) (by simp [results, Tryz.results47, go_sem, x0, x1]) rfl ⟨rfl, hp.then hm (fun i hi e => by omega)⟩

/-! ### Copy -/
theorem rCopy_ok {w : World} {aC : Option Addr} {cC : Nat} {aS : Option Addr} {cS : Nat} {Gs : List Grp} (h : RefI w aC cC aS cS Gs) : Calls Tryz.prog 120 #[refI aC cC aS cS Gs.length] w fun e w' => ∃ aC' cC' aS' cS', e = .returned (refI aC' cC' aS' cS' Gs.length) ∧ RefI w' aC' cC' aS' cS' Gs ∧ Pure w w' ∧
    (∀ k, (Value.slice aC' (8 * Gs.length) cC').ownBlock = some k → w.heap.size ≤ k) ∧ ∀ k, (Value.slice aS' (8 * Gs.length) cS').ownBlock = some k → w.heap.size ≤ k := by
  have hg1 := h.ok.pow.le
  have one1 : ∀ u ∈ u8s (laneC Gs), u.oneCell' = true := fun u hu => by obtain ⟨x, _, rfl⟩ := List.mem_map.1 hu; rfl
  have one2 : ∀ u ∈ u32v (laneS Gs), u.oneCell' = true := fun u hu => by obtain ⟨x, _, rfl⟩ := List.mem_map.1 hu; rfl
  have l1 : (u8s (laneC Gs)).length = 8 * Gs.length * 1 := h.C.1
  have l2 : (u32v (laneS Gs)).length = 8 * Gs.length * 1 := h.S.1
  have hp : Pure w ((w.alloc (.cells #[.slice aC (8 * Gs.length) cC, .slice aS (8 * Gs.length) cS] 36)).alloc (.cells #[.slice none 0 0, .slice none 0 0] 36)) := ((Mod.refl _ w).alloc _).alloc _
  have h1 := heap_keep (o := .cells #[.slice none 0 0, .slice none 0 0] 36 (0, 0)) (heap_new (w := w) (o := .cells #[.slice aC (8 * Gs.length) cC, .slice aS (8 * Gs.length) cS] 36 (0, 0)) rfl)
  have h2 := heap_new (w := w.alloc (.cells #[.slice aC (8 * Gs.length) cC, .slice aS (8 * Gs.length) cS] 36)) (o := .cells #[.slice none 0 0, .slice none 0 0] 36 (0, 0)) (n := w.heap.size + 1) (by simp)
  have HX := Lib.hid (h.pure hp)
  have HP := Lib.hid hp; have HL1 := Lib.hid l1; have HL2 := Lib.hid l2; have ON1 := Lib.hid one1; have ON2 := Lib.hid one2
  clear h hp l1 l2 one1 one2
  unfold refI
  go_enter Tryz.func120, Tryz.ntmps120
  go_upto_region 1 with fail
  generalize (w.alloc (.cells #[.slice aC (8 * Gs.length) cC, .slice aS (8 * Gs.length) cS] 36)).alloc (.cells #[.slice none 0 0, .slice none 0 0] 36) = W at *
  obtain ⟨b, hb⟩ : ∃ b, w.heap.size = b := ⟨_, rfl⟩
  rw [hb] at h1 h2 ⊢
  have HB := Lib.hid hb
  clear hb
  have H1 := Lib.hid h1; have H2 := Lib.hid h2
  obtain ⟨iA, hiA, iA0, iA1, iA2⟩ := info_parts info_u8
  obtain ⟨iB, hiB, iB0, iB1, iB2⟩ := info_parts info_u32
  have h1_0 := cell_of_row _ _ 0 _ _ _ h1; have h1_1 := cell_of_row _ _ 1 _ _ _ h1; have h1_f := (fun j => frozen_of_row _ _ j _ _ h1); have h1_l := lt_of_block h1; simp at h1_0 h1_1; have H_h1 := Lib.hid h1; clear h1
  have h2_0 := cell_of_row _ _ 0 _ _ _ h2; have h2_1 := cell_of_row _ _ 1 _ _ _ h2; have h2_f := (fun j => frozen_of_row _ _ j _ _ h2); have h2_l := lt_of_block h2; simp at h2_0 h2_1; have H_h2 := Lib.hid h2; clear h2
  have c0 : W.drew.cell? ⟨b, 0, none⟩ = _ := h1_0
  have c1 : W.drew.cell? ⟨b, 1, none⟩ = _ := h1_1
  have HC := Lib.hid (ReadAt.of_owns HX.out.C ON1.out); have HS := Lib.hid (ReadAt.of_owns HX.out.S ON2.out)
  go_region_law ((first
    | (refine step_append_read _ (by rfl) _ _ 33 (by rfl) 5 iA _ 1 1 Tryz.underlying33 hiA iA0 iA1 iA2 rfl (by decide) (.slice none 0 0) 0 [] (by rfl) (World.ownsRow_nil _ _ _ _) (.slice aC (8 * Gs.length) cC) (u8s (laneC Gs)) (8 * Gs.length) (by rfl) HC.out HL1.out (by unfold maxLen; omega) (by omega) ?_; intro a7 c7 w7 hr7 hg7 hb7; have hp7 : Pure W w7 := Mod.of_drew (Mod.of_grown (S := fun _ => False) hg7 (fun k e _ => (by cases e))); have k1 := hp7.cell (fun h => h) h1_1; have hf7 := hp7.heap (fun h => h) H2.out; have k20 := cell_of_row w7 _ 0 _ _ _ hf7; have k21 := cell_of_row w7 _ 1 _ _ _ hf7; have kf := (fun j => frozen_of_row w7 _ j _ _ hf7); simp at k20 k21)
    | (refine step_append_read _ (by rfl) _ _ 34 (by rfl) 43 iB _ 1 4 Tryz.underlying34 hiB iB0 iB1 iB2 rfl (by decide) (.slice none 0 0) 0 [] (by rfl) (World.ownsRow_nil _ _ _ _) (.slice aS (8 * Gs.length) cS) (u32v (laneS Gs)) (8 * Gs.length) (by rfl) (HS.out.frame hp7 (fun _ _ h => h)) HL2.out (by unfold maxLen; omega) (by omega) ?_; intro a9 c9 w9 hr9 hg9 hb9; have hp9 : Pure w7 w9 := Mod.of_grown (S := fun _ => False) hg9 (fun k e _ => (by cases e)); have hf9 := hp9.heap (fun h => h) hf7; have m20 := cell_of_row w9 _ 0 _ _ _ hf9; have m21 := cell_of_row w9 _ 1 _ _ _ hf9; have mf := (fun j => frozen_of_row w9 _ j _ _ hf9); simp at m20 m21)))
  all_goals
    have hr7' : w7.ownsRow 0 5 1 (.slice a7 (8 * Gs.length) c7) (8 * Gs.length) (u8s (laneC Gs)) := by simpa using hr7
    have hr9' : w9.ownsRow 0 43 1 (.slice a9 (8 * Gs.length) c9) (8 * Gs.length) (u32v (laneS Gs)) := by simpa using hr9
    have hr0 : RefI w9 a7 c7 a9 c9 Gs := ⟨owns_mod hr7' hp9 (fun _ _ h => h), hr9', HX.out.ok⟩
    have hm : Mod (fun i => i = b + 1) w9 ((w9.setCell ⟨b + 1, 0, none⟩ (.slice a7 (8 * Gs.length) c7)).setCell ⟨b + 1, 1, none⟩ (.slice a9 (8 * Gs.length) c9)) := Mod.set2 (b + 1) 0 1 _ _
    have hne : ∀ i, i = b + 1 → i < w9.heap.size → ∃ cs T' fz, w9.heap[i]? = some (.cells cs T' fz) ∧ T' ≠ 5 ∧ T' ≠ 43 := fun i e _ => ⟨_, _, _, e ▸ hf9, by decide, by decide⟩
    have m2 := heap_set12 (v0 := .slice a7 (8 * Gs.length) c7) (v1 := .slice a9 (8 * Gs.length) c9) hf9
    have x0 := cell_of_row _ (b + 1) 0 _ _ _ m2; have x1 := cell_of_row _ (b + 1) 1 _ _ _ m2
    simp at x0 x1
    have f7 : ∀ k, (Value.slice a7 (8 * Gs.length) c7).ownBlock = some k → w.heap.size ≤ k := fun k hk => by
      rcases hb7 with e | e
      · have : (Value.slice a7 (0 + 8 * Gs.length) c7).ownBlock = some k := by simpa [Value.ownBlock] using hk
        rw [this] at e; cases e
      · have : (Value.slice a7 (0 + 8 * Gs.length) c7).ownBlock = some k := by simpa [Value.ownBlock] using hk
        rw [this] at e; cases e; exact HP.out.size
    have f9 : ∀ k, (Value.slice a9 (8 * Gs.length) c9).ownBlock = some k → w.heap.size ≤ k := fun k hk => by
      rcases hb9 with e | e
      · have : (Value.slice a9 (0 + 8 * Gs.length) c9).ownBlock = some k := by simpa [Value.ownBlock] using hk
        rw [this] at e; cases e
      · have : (Value.slice a9 (0 + 8 * Gs.length) c9).ownBlock = some k := by simpa [Value.ownBlock] using hk
        rw [this] at e; cases e; exact (HP.out.trans hp7).size
    have HR := Lib.hid (hr0.modT hm hne)
    have HPW := Lib.hid (((HP.out.trans hp7).trans hp9).then hm (fun i hi e => by have := HB.out; omega))
    have HF7 := Lib.hid f7; have HF9 := Lib.hid f9
    clear hr7 hr9 hr7' hr9' hr0 hm hne hg7 hg9 hb7 hb9 f7 f9 k1 k20 k21 kf m20 m21 mf hf7 hf9 hp7 hp9 m2
    go_wp2_with fail
    exact bodyPost_ret (v := .agg #[.slice a7 (8 * Gs.length) c7, .slice a9 (8 * Gs.length) c9]) (by simp [results, Tryz.results120, go_sem, x0, x1]) rfl ⟨a7, c7, a9, c9, rfl, HR.out, HPW.out, HF7.out, HF9.out⟩

/-! ### Groups, Count, has -/
theorem rGroups_ok {w : World} {aC : Option Addr} {cC : Nat} {aS : Option Addr} {cS : Nat} {Gs : List Grp} (h : IxOk Gs) : Calls Tryz.prog 14 #[refI aC cC aS cS Gs.length] w fun e w' => e = .returned (.int .i64 Gs.length) ∧ Pure w w' := by
  have hg1 := h.pow.le
  have hp : Pure w (w.alloc (.cells #[.slice aC (8 * Gs.length) cC, .slice aS (8 * Gs.length) cS] 36)) := (Mod.refl _ w).alloc _
  have h1 := heap_new (w := w) (o := .cells #[.slice aC (8 * Gs.length) cC, .slice aS (8 * Gs.length) cS] 36 (0, 0)) rfl
  have e1 : (((8 * Gs.length : Nat) : Int)).tdiv 8 = (Gs.length : Int) := by rw [Int.tdiv_eq_ediv_of_nonneg (by omega)]; omega
  have e2 : (((8 * Gs.length : Nat) : Int)) / 8 = (Gs.length : Int) := by omega
  have e3 : (8 * (Gs.length : Int)).tdiv 8 = (Gs.length : Int) := by rw [Int.tdiv_eq_ediv_of_nonneg (by omega)]; omega
  have e4 : (8 * (Gs.length : Int)) / 8 = (Gs.length : Int) := by omega
  have w1 : IntKind.i64.wrap (Gs.length : Int) = Gs.length := IntWalk.i64_in _ (by omega)
  unfold refI
  go_enter Tryz.func14, Tryz.ntmps14
  go_upto_region 1 with fail
  generalize w.alloc (.cells #[.slice aC (8 * Gs.length) cC, .slice aS (8 * Gs.length) cS] 36) = W at *
  generalize w.heap.size = b at *
  have h1_0 := cell_of_row _ _ 0 _ _ _ h1; have h1_1 := cell_of_row _ _ 1 _ _ _ h1; have h1_f := (fun j => frozen_of_row _ _ j _ _ h1); have h1_l := lt_of_block h1; simp at h1_0 h1_1; have H_h1 := Lib.hid h1; clear h1
  go_wp2
  go_ret
  refine ⟨?_, hp⟩
  first | rfl | simp
end Go.Proofs.YtapplindfijngaaGreat

/- The reference of layer 7: Count, has, Seen, At. -/
namespace Go.Proofs.YtapplindfijngaaGreat
open Go.RowKit Go.Shelf
set_option maxRecDepth 100000

/-- An index' box, its rows' cells. -/
structure RBox (w : World) (b : Nat) (aC : Option Addr) (cC : Nat) (aS : Option Addr) (cS : Nat) (Gs : List Grp) (W : World) : Prop where
  pu : Pure w W
  bx : W.heap[b]? = some (.cells #[.slice aC (8 * Gs.length) cC, .slice aS (8 * Gs.length) cS] 36 (0, 0))
  rf : RefI W aC cC aS cS Gs
theorem RBox.pure {w W W' : World} {b : Nat} {aC : Option Addr} {cC : Nat} {aS : Option Addr} {cS : Nat} {Gs : List Grp} (h : RBox w b aC cC aS cS Gs W) (hp : Pure W W') : RBox w b aC cC aS cS Gs W' := ⟨h.pu.trans hp, hp.heap (fun h => h) h.bx, h.rf.pure hp⟩
theorem RBox.new {w : World} {aC : Option Addr} {cC : Nat} {aS : Option Addr} {cS : Nat} {Gs : List Grp} (h : RefI w aC cC aS cS Gs) : RBox w w.heap.size aC cC aS cS Gs (w.alloc (.cells #[.slice aC (8 * Gs.length) cC, .slice aS (8 * Gs.length) cS] 36)) :=
  ⟨(Mod.refl _ w).alloc _, heap_new rfl, h.pure ((Mod.refl _ w).alloc _)⟩
theorem RefI.cells {W : World} {aC : Option Addr} {cC : Nat} {aS : Option Addr} {cS : Nat} {Gs : List Grp} (h : RefI W aC cC aS cS Gs) : ∃ B1 B2, aC = some ⟨B1, 0, none⟩ ∧ aS = some ⟨B2, 0, none⟩ ∧ 8 * Gs.length ≤ cC ∧ 8 * Gs.length ≤ cS ∧
    (∀ k x, (laneC Gs)[k]? = some x → W.cell? ⟨B1, k, none⟩ = some (.int .u8 (x : Nat))) ∧ (∀ k x, (laneS Gs)[k]? = some x → W.cell? ⟨B2, k, none⟩ = some (.int .u32 (x : Nat))) := by
  have hg := h.ok.pow.pos
  obtain ⟨B1, c1, e1, l1, _, h1, _⟩ := owns_at h.C (by omega)
  obtain ⟨B2, c2, e2, l2, _, h2, _⟩ := owns_at h.S (by omega)
  cases e1; cases e2
  exact ⟨B1, B2, rfl, rfl, l1, l2, fun k x hx => h1 k _ (by unfold u8s; rw [List.getElem?_map, hx]; rfl), fun k x hx => h2 k _ (by unfold u32v; rw [List.getElem?_map, hx]; rfl)⟩
theorem laneC_lt {Gs : List Grp} (h : IxOk Gs) : ∀ x ∈ laneC Gs, x < 256 := by
  intro x hx
  obtain ⟨c, hc, hx⟩ := List.mem_flatMap.1 hx
  exact (h.grp c hc).ctl.bytes.2 x hx
theorem laneS_lt {Gs : List Grp} (h : IxOk Gs) : ∀ x ∈ laneS Gs, x ≤ 4294967295 := by
  intro x hx
  obtain ⟨c, hc, hx⟩ := List.mem_flatMap.1 hx
  exact (h.grp c hc).lt x hx
def cntM (Gs : List Grp) (from_ to_ : Nat) : Nat := (laneC Gs).countP (fun x => decide (from_ ≤ x) && decide (x ≤ to_))
theorem cnt_used {Gs : List Grp} (h : IxOk Gs) : cntM Gs 0 127 = usedN Gs := by
  unfold cntM laneC usedN
  rw [List.countP_flatMap]
  congr 1
  refine List.map_congr_left (fun c hc => ?_)
  refine List.countP_congr (fun x _ => ?_)
  simp
  omega
theorem cnt_tomb {Gs : List Grp} (h : IxOk Gs) : cntM Gs 254 254 = tombN Gs := by
  unfold cntM laneC tombN
  rw [List.countP_flatMap]
  congr 1
  refine List.map_congr_left (fun c hc => ?_)
  refine List.countP_congr (fun x _ => ?_)
  simp
  omega
set_option maxHeartbeats 1000000 in
theorem rCount_ok {w : World} {aC : Option Addr} {cC : Nat} {aS : Option Addr} {cS : Nat} {Gs : List Grp} (h : RefI w aC cC aS cS Gs) (f t : Nat) (hf : f < 256) (ht : t < 256) : Calls Tryz.prog 15 #[refI aC cC aS cS Gs.length, .int .u8 f, .int .u8 t] w fun e w' => e = .returned (.int .i64 (cntM Gs f t)) ∧ Pure w w' := by
  have hg1 := h.ok.pow.le
  have hR := RBox.new h
  obtain ⟨B1, B2, rfl, rfl, l1, l2, _, _⟩ := h.cells
  have hlc := laneC_length h.ok
  have HLT := Lib.hid (laneC_lt h.ok)
  clear h
  obtain ⟨res, hres⟩ : ∃ res, cntM Gs f t = res := ⟨_, rfl⟩
  rw [hres]
  unfold refI
  go_enter Tryz.func15, Tryz.ntmps15
  go_upto_region 1 with fail
  generalize w.alloc (.cells #[.slice (some ⟨B1, 0, none⟩) (8 * Gs.length) cC, .slice (some ⟨B2, 0, none⟩) (8 * Gs.length) cS] 36) = W at *
  obtain ⟨b, hb⟩ : ∃ b, w.heap.size = b := ⟨_, rfl⟩
  rw [hb] at hR ⊢
  have HR := Lib.hid hR
  have hbx := hR.bx
  clear hR hb
  obtain ⟨n, hn⟩ : ∃ n, 8 * Gs.length = n := ⟨_, rfl⟩
  have hcl := HR.out.rf.cells
  obtain ⟨B1', B2', e1, e2, _, _, hC, _⟩ := hcl
  cases e1; cases e2
  rw [hn] at hbx l1 l2 hlc
  have hnn : n ≤ 8388608 := by omega
  have wn : IntKind.i64.wrap (n : Int) = n := IntWalk.i64_in _ (by omega)
  have HRES := Lib.hid hres; have HN := Lib.hid hn; have HC := Lib.hid hC; have HLC := Lib.hid hlc
  rw [← hn] at hbx wn
  rw [hn] at hbx wn
  clear hres hn hC hlc
  have hbx_0 := cell_of_row _ _ 0 _ _ _ hbx; have hbx_1 := cell_of_row _ _ 1 _ _ _ hbx; have hbx_f := (fun j => frozen_of_row _ _ j _ _ hbx); have hbx_l := lt_of_block hbx; simp at hbx_0 hbx_1; have H_hbx := Lib.hid hbx; clear hbx
  have hf0 : (f : Int) < 256 := by omega
  have ht0 : (t : Int) < 256 := by omega
  go_upto_region 3 with fail
  go_loopw [7, 8] (fun v7 v8 wr => ∃ k, v8 = .int .i64 (k : Nat) ∧ k ≤ n ∧ v7 = .int .i64 (((laneC Gs).take k).countP (fun x => decide (f ≤ x) && decide (x ≤ t)) : Nat) ∧ wr = W) (fun _ v8 _ => n - (intOf v8).toNat)
  case atStart => exact ⟨0, rfl, Nat.zero_le _, rfl, rfl⟩
  case round =>
    obtain ⟨k, rfl, hk, rfl, rfl⟩ := hrel
    by_cases hlt : k < n
    · have hlt' : (k : Int) < (n : Int) := by omega
      obtain ⟨x, hx⟩ : ∃ x, (laneC Gs)[k]? = some x := ⟨_, List.getElem?_eq_getElem (by rw [HLC.out]; exact hlt)⟩
      have hx256 := HLT.out x (List.mem_of_getElem? hx)
      have hcx := HC.out k x hx
      have htk : ((laneC Gs).take (k + 1)).countP (fun x => decide (f ≤ x) && decide (x ≤ t)) = ((laneC Gs).take k).countP (fun x => decide (f ≤ x) && decide (x ≤ t)) + if f ≤ x ∧ x ≤ t then 1 else 0 := by
        rw [List.take_add_one, hx, List.countP_append]
        simp [List.countP_cons]
      have hcl : ((laneC Gs).take k).countP (fun x => decide (f ≤ x) && decide (x ≤ t)) ≤ 8388608 := by
        have h1 : ((laneC Gs).take k).countP (fun x => decide (f ≤ x) && decide (x ≤ t)) ≤ ((laneC Gs).take k).length := List.countP_le_length
        have h2 : ((laneC Gs).take k).length ≤ k := List.length_take_le _ _
        omega
      have HTK := Lib.hid htk
      clear htk hx
      generalize ((laneC Gs).take k).countP (fun x => decide (f ≤ x) && decide (x ≤ t)) = q at *
      have wq : IntKind.i64.wrap ((q : Int) + 1) = (q : Int) + 1 := IntWalk.i64_in _ (by omega)
      by_cases h1 : f ≤ x
      · have h1' : (f : Int) ≤ (x : Int) := by omega
        by_cases h2 : x ≤ t
        · have h2' : (x : Int) ≤ (t : Int) := by omega
          go_wp2
          go_roundw
          case rel => exact ⟨k + 1, by go_num, hlt, by rw [HTK.out, if_pos ⟨h1, h2⟩]; rfl, trivial⟩
          case measure => simp [intOf]; omega
        · have h2' : (t : Int) < (x : Int) := by omega
          go_wp2
          go_roundw
          case rel => exact ⟨k + 1, by go_num, hlt, by rw [HTK.out, if_neg (fun c => h2 c.2)]; rfl, trivial⟩
          case measure => simp [intOf]; omega
      · have h1' : (x : Int) < (f : Int) := by omega
        go_wp2
        go_roundw
        case rel => exact ⟨k + 1, by go_num, hlt, by rw [HTK.out, if_neg (fun c => h1 c.1)]; rfl, trivial⟩
        case measure => simp [intOf]; omega
    · have hlt' : (n : Int) ≤ (k : Int) := by omega
      have e : k = n := by omega
      have htk : (laneC Gs).take k = laneC Gs := List.take_of_length_le (by rw [HLC.out]; omega)
      rw [htk]
      have hre := HRES.out
      unfold cntM at hre
      rw [hre]
      subst e
      go_wp2
      go_ret
      exact ⟨rfl, HR.out.pu⟩

theorem blanks_false {c : Grp} (h : GrpOk c) (hn : ∀ j, j < 8 → c.1[j]? ≠ some 128) : blanks c = false := by
  unfold blanks
  rw [List.any_eq_false]
  intro x hx e
  obtain ⟨j, hj⟩ := List.getElem?_of_mem hx
  have hl := (List.getElem?_eq_some_iff.1 hj).1
  rw [h.ctl.1] at hl
  exact hn j hl (by rw [hj]; simpa using e)
theorem blanks_true {c : Grp} {j : Nat} (hj : c.1[j]? = some 128) : blanks c = true := by
  unfold blanks
  exact List.any_eq_true.2 ⟨128, List.mem_of_getElem? hj, rfl⟩
set_option maxHeartbeats 1000000 in
theorem rHas_ok {w : World} {aC : Option Addr} {cC : Nat} {aS : Option Addr} {cS : Nat} {Gs : List Grp} (h : RefI w aC cC aS cS Gs) (i : Nat) (hi : i < Gs.length) : Calls Tryz.prog 121 #[refI aC cC aS cS Gs.length, .int .i64 i] w fun e w' => e = .returned (.bool (blanks (grpAt Gs i))) ∧ Pure w w' := by
  have hg1 := h.ok.pow.le
  have hR := RBox.new h
  have HOK := Lib.hid h.ok
  obtain ⟨B1, B2, rfl, rfl, l1, l2, _, _⟩ := h.cells
  clear h
  obtain ⟨res, hres⟩ : ∃ res, blanks (grpAt Gs i) = res := ⟨_, rfl⟩
  rw [hres]
  unfold refI
  go_enter Tryz.func121, Tryz.ntmps121
  go_upto_region 1 with fail
  generalize w.alloc (.cells #[.slice (some ⟨B1, 0, none⟩) (8 * Gs.length) cC, .slice (some ⟨B2, 0, none⟩) (8 * Gs.length) cS] 36) = W at *
  obtain ⟨b, hb⟩ : ∃ b, w.heap.size = b := ⟨_, rfl⟩
  rw [hb] at hR ⊢
  have HR := Lib.hid hR
  have hbx := hR.bx
  clear hR hb
  obtain ⟨n, hn⟩ : ∃ n, 8 * Gs.length = n := ⟨_, rfl⟩
  obtain ⟨B1', B2', e1, e2, _, _, hC, _⟩ := HR.out.rf.cells
  cases e1; cases e2
  have h8i : 8 * i + 8 ≤ n := by omega
  rw [hn] at hbx l1 l2
  have HRES := Lib.hid hres; have HC := Lib.hid hC
  have hi20 : i < 1048576 := by omega
  have hnn : n ≤ 8388608 := by omega
  clear hres hn hC
  have hbx_0 := cell_of_row _ _ 0 _ _ _ hbx; have hbx_1 := cell_of_row _ _ 1 _ _ _ hbx; have hbx_f := (fun j => frozen_of_row _ _ j _ _ hbx); have hbx_l := lt_of_block hbx; simp at hbx_0 hbx_1; have H_hbx := Lib.hid hbx; clear hbx
  have w1 : IntKind.i64.wrap (8 * (i : Int)) = 8 * (i : Int) := IntWalk.i64_in _ (by omega)
  have w2 : IntKind.i64.wrap (8 * (i : Int) + 8) = 8 * (i : Int) + 8 := IntWalk.i64_in _ (by omega)
  go_upto_region 2 with fail
  go_loopw [5] (fun v5 wr => ∃ j, v5 = .int .i64 (8 * (i : Int) + (j : Nat)) ∧ j ≤ 8 ∧ (∀ j', j' < j → (grpAt Gs i).1[j']? ≠ some 128) ∧ wr = W) (fun v5 _ => 8388700 - (intOf v5).toNat)
  case atStart => exact ⟨0, by simp, by omega, fun j' hj' => by omega, rfl⟩
  case round =>
    obtain ⟨j, rfl, hj, hn8, rfl⟩ := hrel
    have HN8 := Lib.hid hn8
    clear hn8
    by_cases hlt : j < 8
    · have hlt' : (j : Int) < 8 := by omega
      have hg := HOK.out.at hi
      obtain ⟨x, hx⟩ : ∃ x, (grpAt Gs i).1[j]? = some x := ⟨_, List.getElem?_eq_getElem (by rw [hg.ctl.1]; exact hlt)⟩
      have hx256 := hg.ctl.bytes.2 x (List.mem_of_getElem? hx)
      have hcx := HC.out (8 * i + j) x ((laneC_at HOK.out hi hlt).trans hx)
      obtain ⟨k, hk⟩ : ∃ k, 8 * i + j = k := ⟨_, rfl⟩
      have hk' : 8 * (i : Int) + (j : Int) = (k : Int) := by omega
      have hkl : (k : Int) < (n : Int) := by omega
      have hkl2 : (k : Int) < 8 * (i : Int) + 8 := by omega
      have hkl3 : (k : Int) ≤ 8388608 := by omega
      rw [hk] at hcx
      rw [hk']
      have HX := Lib.hid hx; have HK := Lib.hid hk; have HK' := Lib.hid hk'; have HG := Lib.hid hg
      clear hx hk hk' hg
      have wk : IntKind.i64.wrap ((k : Int) + 1) = (k : Int) + 1 := IntWalk.i64_in _ (by omega)
      by_cases h128 : x = 128
      · subst h128
        go_wp2
        go_ret
        have : blanks (grpAt Gs i) = true := blanks_true HX.out
        have hr := HRES.out
        rw [this] at hr
        subst hr
        exact ⟨rfl, HR.out.pu⟩
      · have hx1 : ((x : Int) == 128) = false := by simp; omega
        have hx2 : (x : Int) ≠ 128 := by omega
        go_wp2
        go_roundw
        case rel => exact ⟨j + 1, congrArg (Value.int .i64) (by have := HK'.out; omega), hlt, fun j' hj' => by
          by_cases e : j' = j
          · subst e; rw [HX.out]; intro c; cases c; exact h128 rfl
          · exact HN8.out j' (by omega), trivial⟩
        case measure => simp [intOf]; omega
    · have e : j = 8 := by omega
      subst e
      go_wp2
      go_ret
      have : blanks (grpAt Gs i) = false := blanks_false (HOK.out.at hi) HN8.out
      have hr := HRES.out
      rw [this] at hr
      subst hr
      exact ⟨rfl, HR.out.pu⟩

/-! ### Seen -/
def lane (x : Nat × Nat) : Nat := 8 * x.1 + x.2
def seenK (Gs : List Grp) (sum : Nat) : List Nat := (seenM Gs sum).map lane
/-- The lanes of a group, up to one, that have a tag. -/
def seenTo (c : Grp) (tag j : Nat) : List Nat := (List.range j).filter (fun k => (c.1.map (· == tag)).getD k false)
theorem seenTo_eight {c : Grp} (h : GrpOk c) (tag : Nat) : seenTo c tag 8 = seenIn c tag := by
  unfold seenIn seenTo
  rw [lanes_mask (by simp [h.ctl.1])]
theorem seenTo_succ {c : Grp} {tag j x : Nat} (hx : c.1[j]? = some x) : seenTo c tag (j + 1) = seenTo c tag j ++ if x = tag then [j] else [] := by
  unfold seenTo
  rw [List.range_succ, List.filter_append]
  congr 1
  have : (c.1.map (· == tag)).getD j false = (x == tag) := by rw [List.getD_eq_getElem?_getD, List.getElem?_map, hx]; rfl
  rw [List.filter_cons, List.filter_nil, this]
  by_cases e : x = tag
  · simp [e]
  · simp [e]
theorem seenTo_length (c : Grp) (tag j : Nat) : (seenTo c tag j).length ≤ j := by
  unfold seenTo
  have := List.length_filter_le (fun k => (c.1.map (· == tag)).getD k false) (List.range j)
  rwa [List.length_range] at this
def seenL (Gs : List Grp) (tag : Nat) (pre : List Nat) : List Nat := (seenPre Gs tag pre).map lane
theorem seenL_snoc {Gs : List Grp} {tag i : Nat} (h : GrpOk (grpAt Gs i)) (pre : List Nat) : seenL Gs tag (pre ++ [i]) = seenL Gs tag pre ++ (seenTo (grpAt Gs i) tag 8).map (fun j => 8 * i + j) := by
  unfold seenL seenPre
  rw [List.flatMap_append, List.map_append, seenTo_eight h]
  congr 1
  simp [lane, Function.comp]
structure SeenI (w : World) (Gs : List Grp) (L : List Nat) (a : Option Addr) (c n : Nat) (W : World) : Prop where
  pu : Pure w W
  row : W.ownsRow 0 3 1 (.slice a n c) n (i64v L)
  fr : ∀ k, (Value.slice a n c).ownBlock = some k → w.heap.size ≤ k
theorem SeenI.drew {w W : World} {Gs : List Grp} {L : List Nat} {a : Option Addr} {c n : Nat} (h : SeenI w Gs L a c n W) : SeenI w Gs L a c n W.drew := ⟨h.pu.drew, owns_mod h.row ((Mod.refl (fun _ => False) W).drew) (fun _ _ h => h), h.fr⟩
theorem SeenI.app {w W w5 : World} {Gs : List Grp} {L : List Nat} {a a7 : Option Addr} {c c7 : Nat} {o : Obj} {x : Nat} (h : SeenI w Gs L a c L.length W) (hr7 : w5.ownsRow 0 3 1 (.slice a7 (L.length + 1) c7) (L.length + 1) (i64v L ++ [.int .i64 (x : Nat)]))
    (hg7 : (W.alloc o).grownBy w5 (Value.slice a L.length c).ownBlock) (hb7 : (Value.slice a7 (L.length + 1) c7).ownBlock = (Value.slice a L.length c).ownBlock ∨ (Value.slice a7 (L.length + 1) c7).ownBlock = some (W.alloc o).heap.size) :
    SeenI w Gs (L ++ [x]) a7 c7 (L ++ [x]).length w5 := by
  have e : (L ++ [x]).length = L.length + 1 := by simp
  rw [e]
  have hpw : Pure w w5 := (h.pu.alloc o).then (Mod.of_grown (S := fun k' => (Value.slice a L.length c).ownBlock = some k') hg7 (fun k e _ => e)) (fun k hk e => by have := h.fr k e; omega)
  refine ⟨hpw, by unfold i64v at hr7 ⊢; rw [List.map_append]; exact hr7, fun k hk => ?_⟩
  rcases hb7 with e | e
  · exact h.fr k (e ▸ hk)
  · rw [e] at hk; cases hk; exact (h.pu.alloc o).size
theorem hB2box {w2 wr : World} {b n : Nat} {aC : Option Addr} {cC : Nat} {aS : Option Addr} {cS : Nat} {Gs : List Grp} (h : w2.heap[b]? = some (.cells #[.slice aC (8 * Gs.length) cC, .slice aS (8 * Gs.length) cS] 36 (0, 0))) (hn : 8 * Gs.length = n) (hp : Pure w2 wr) :
    wr.heap[b]? = some (.cells #[.slice aC n cC, .slice aS n cS] 36 (0, 0)) := by
  subst hn
  exact hp.heap (fun h => h) h
theorem SeenI.pure {w W W' : World} {Gs : List Grp} {L : List Nat} {a : Option Addr} {c n : Nat} (h : SeenI w Gs L a c n W) (hp : Pure W W') : SeenI w Gs L a c n W' := ⟨h.pu.trans hp, owns_mod h.row hp (fun _ _ h => h), h.fr⟩
theorem SeenI.base {w0 w W : World} {Gs : List Grp} {L : List Nat} {a : Option Addr} {c n : Nat} (h : SeenI w Gs L a c n W) (hp : Pure w0 w) : SeenI w0 Gs L a c n W := ⟨hp.trans h.pu, h.row, fun k hk => Nat.le_trans hp.size (h.fr k hk)⟩
def rSeenPost (w : World) (Gs : List Grp) (sum : Nat) (e : Ending) (w' : World) : Prop := ∃ a c, e = .returned (.slice a (seenK Gs sum).length c) ∧ SeenI w Gs (seenK Gs sum) a c (seenK Gs sum).length w'
set_option maxHeartbeats 4000000 in
theorem rSeen_ok {w : World} {aC : Option Addr} {cC : Nat} {aS : Option Addr} {cS : Nat} {Gs : List Grp} (h : RefI w aC cC aS cS Gs) (sum : Nat) (hsum : sum < 18446744073709551616) : Calls Tryz.prog 158 #[refI aC cC aS cS Gs.length, .int .u64 sum] w (rSeenPost w Gs sum) := by
  have hg1 := h.ok.pow.le
  have hR := RBox.new h
  have HOK := Lib.hid h.ok
  have HPart := Lib.hid (fun W => rPart_ok sum W hsum)
  have HTag := Lib.hid (fun W => rTag_ok sum W hsum)
  have HGr := Lib.hid (fun W => rGroups_ok (w := W) (aC := aC) (cC := cC) (aS := aS) (cS := cS) h.ok)
  have HAll := Lib.hid (fun W => rAll_ok (sum / 128) Gs.length h.ok.pow (by omega) W)
  clear h
  unfold refI
  unfold refI at HGr
  go_enter Tryz.func158, Tryz.ntmps158
  go_upto_region 2 with fail
  generalize w.alloc (.cells #[.slice aC (8 * Gs.length) cC, .slice aS (8 * Gs.length) cS] 36) = W at *
  obtain ⟨b, hb⟩ : ∃ b, w.heap.size = b := ⟨_, rfl⟩
  rw [hb] at hR ⊢
  have HR := Lib.hid hR
  have hbx := hR.bx
  have HB := Lib.hid hb
  clear hR hb
  obtain ⟨part, hpart⟩ : ∃ part, sum / 128 = part := ⟨_, rfl⟩
  rw [hpart] at HPart HAll
  have hbx_0 := cell_of_row _ _ 0 _ _ _ hbx; have hbx_1 := cell_of_row _ _ 1 _ _ _ hbx; have hbx_f := (fun j => frozen_of_row _ _ j _ _ hbx); have hbx_l := lt_of_block hbx; simp at hbx_0 hbx_1; have H_hbx := Lib.hid hbx; clear hbx
  have q0 : W.drew.cell? ⟨b, 0, none⟩ = _ := hbx_0
  have q1 : W.drew.cell? ⟨b, 1, none⟩ = _ := hbx_1
  go_region_held3 (fun w' => w'.cell? ⟨b, 0, none⟩ = some (.slice aC (8 * Gs.length) cC) ∧ w'.cell? ⟨b, 1, none⟩ = some (.slice aS (8 * Gs.length) cS))
    (first | go_keep | exact ⟨hp1.cell (fun h => h) q0, hp1.cell (fun h => h) q1⟩ | exact ⟨hp2.cell (fun h => h) (hp1.cell (fun h => h) q0), hp2.cell (fun h => h) (hp1.cell (fun h => h) q1)⟩)
    (first
      | (go_at_call 148; (with_reducible refine Calls.mono (HPart.out _) ?_); rintro e w' ⟨rfl, rfl⟩)
      | (go_at_call 14; (with_reducible refine Calls.mono (HGr.out _) ?_); rintro e w1 ⟨rfl, hp1⟩)
      | (go_at_call 147; (with_reducible refine Calls.mono (HAll.out _) ?_); rintro e w2 ⟨aP, cP, rfl, hrP, hp2, hfP⟩))
  have HB2 := Lib.hid (HR.out.pure ((Mod.of_drew hp1 : Pure W w1).trans hp2))
  have HRP := Lib.hid hrP
  clear hbx_0 hbx_1 hbx_f hbx_l
  clear H_hbx q0 q1 hrP hfP hp1 hp2 HR HPart HGr HAll
  obtain ⟨B1, B2, e1, e2, l1, l2, hC, _⟩ := HB2.out.rf.cells
  subst e1 e2
  have hbx := HB2.out.bx
  have HC := Lib.hid hC
  clear hC
  obtain ⟨B', c', hsv, hcP, hB', hcellsP, _, _⟩ := owns_at HRP.out HOK.out.pow.pos
  cases hsv
  have HCP := Lib.hid hcellsP
  have HPW := Lib.hid HB2.out.pu
  clear hcellsP
  generalize hn : 8 * Gs.length = n at *
  have hbx_0 := cell_of_row _ _ 0 _ _ _ hbx; have hbx_1 := cell_of_row _ _ 1 _ _ _ hbx; have hbx_f := (fun j => frozen_of_row _ _ j _ _ hbx); have hbx_l := lt_of_block hbx; simp at hbx_0 hbx_1; have H_hbx := Lib.hid hbx; clear hbx
  have wg : IntKind.i64.wrap (Gs.length : Int) = Gs.length := IntWalk.i64_in _ (by omega)
  obtain ⟨iI, hiI, iI0, iI1, iI2⟩ := info_parts info_i64
  have hnn : n ≤ 8388608 := by omega
  have HNN := Lib.hid hn
  clear hn
  obtain ⟨tag, htag⟩ : ∃ tag, sum % 128 = tag := ⟨_, rfl⟩
  rw [htag] at HTag
  have htl : tag < 128 := by omega
  have HPT := Lib.hid (And.intro hpart htag)
  clear hpart htag
  go_upto_region 4 with fail
  go_loopw [5, 7] (fun v5 v7 wr => ∃ q a c, v7 = .int .i64 (q : Nat) ∧ q ≤ Gs.length ∧ v5 = .slice a (seenL Gs tag ((probes part Gs.length).take q)).length c ∧ SeenI w2 Gs (seenL Gs tag ((probes part Gs.length).take q)) a c (seenL Gs tag ((probes part Gs.length).take q)).length wr ∧
    (∀ k ∈ (probes part Gs.length).take q, blanks (grpAt Gs k) = false) ∧ (seenL Gs tag ((probes part Gs.length).take q)).length ≤ 8 * q) (fun _ v7 _ => Gs.length - (intOf v7).toNat)
  case atStart => exact ⟨0, none, 0, rfl, Nat.zero_le _, rfl, ⟨Mod.refl _ _, World.ownsRow_nil _ _ _ _, fun k hk => by cases hk⟩, fun k hk => by simp at hk, by simp [seenL, seenPre]⟩
  case round =>
    obtain ⟨q, a, c, rfl, hq, rfl, hSI, hnb, hll⟩ := hrel
    have HS := Lib.hid hSI; have HNB := Lib.hid hnb
    clear hbx_0 hbx_1 hbx_f hbx_l
    clear H_hbx hSI hnb
    have hbx := hB2box HB2.out.bx HNN.out HS.out.pu
    by_cases hlt : q < Gs.length
    · have hlt' : (q : Int) < (Gs.length : Int) := by omega
      obtain ⟨i, hi⟩ : ∃ i, (probes part Gs.length)[q]? = some i := ⟨_, List.getElem?_eq_getElem (by unfold probes; simpa using hlt)⟩
      have hig : i < Gs.length := probes_lt HOK.out.pow.pos part (List.mem_of_getElem? hi)
      have hcq := HS.out.pu.cell (fun h => h) (HCP.out q (.int .i64 (i : Nat)) (by unfold i64v; rw [List.getElem?_map, hi]; rfl))
      have htk : (probes part Gs.length).take (q + 1) = (probes part Gs.length).take q ++ [i] := by rw [List.take_add_one, hi]; rfl
      have hdr : probes part Gs.length = (probes part Gs.length).take q ++ i :: (probes part Gs.length).drop (q + 1) := by
        have h1 := List.take_append_drop q (probes part Gs.length)
        have h2 : (probes part Gs.length).drop q = i :: (probes part Gs.length).drop (q + 1) := by
          have hql := (List.getElem?_eq_some_iff.1 hi)
          rw [List.drop_eq_getElem_cons hql.1, hql.2]
        rw [h2] at h1
        exact h1.symm
      have hsn := seenL_snoc (tag := tag) (HOK.out.at hig) ((probes part Gs.length).take q)
      have HTK := Lib.hid htk; have HDR := Lib.hid hdr; have HSN := Lib.hid hsn
      have HCQ := Lib.hid (HCP.out q (.int .i64 (i : Nat)) (by unfold i64v; rw [List.getElem?_map, hi]; rfl))
      clear hi htk hdr hsn
      generalize (probes part Gs.length).take q = pre at *
      obtain ⟨L, hL⟩ : ∃ L, seenL Gs tag pre = L := ⟨_, rfl⟩
      rw [hL] at HS hll ⊢
      have HL := Lib.hid hL
      clear hL
      have hbx_0 := cell_of_row _ _ 0 _ _ _ hbx; have hbx_1 := cell_of_row _ _ 1 _ _ _ hbx; have hbx_f := (fun j => frozen_of_row _ _ j _ _ hbx); have hbx_l := lt_of_block hbx; simp at hbx_0 hbx_1; have H_hbx := Lib.hid hbx; clear hbx
      have w1 : IntKind.i64.wrap (8 * (i : Int)) = 8 * (i : Int) := IntWalk.i64_in _ (by omega)
      have w2' : IntKind.i64.wrap (8 * (i : Int) + 8) = 8 * (i : Int) + 8 := IntWalk.i64_in _ (by omega)
      go_upto_region 7 with fail
      go_loopw [5, 8] (fun v5 v8 wx => ∃ j a c, v8 = .int .i64 (8 * (i : Int) + (j : Nat)) ∧ j ≤ 8 ∧ v5 = .slice a (L ++ (seenTo (grpAt Gs i) tag j).map (fun j => 8 * i + j)).length c ∧ SeenI w2 Gs (L ++ (seenTo (grpAt Gs i) tag j).map (fun j => 8 * i + j)) a c (L ++ (seenTo (grpAt Gs i) tag j).map (fun j => 8 * i + j)).length wx) (fun _ v8 _ => 8388700 - (intOf v8).toNat)
      case atStart => exact ⟨0, a, c, by simp, by omega, by simp [seenTo], by simpa [seenTo] using HS.out⟩
      case round =>
        clear hcq
        clear hbx_0 hbx_1 hbx_f hbx_l
        clear H_hbx HS
        obtain ⟨j, a, c, rfl, hj, rfl, hSI⟩ := hrel
        have HS := Lib.hid hSI
        clear hSI
        have hbx := hB2box HB2.out.bx HNN.out HS.out.pu
        have hbx_0 := cell_of_row _ _ 0 _ _ _ hbx; have hbx_1 := cell_of_row _ _ 1 _ _ _ hbx; have hbx_f := (fun j => frozen_of_row _ _ j _ _ hbx); have hbx_l := lt_of_block hbx; simp at hbx_0 hbx_1; have H_hbx := Lib.hid hbx; clear hbx
        have hcq := HS.out.pu.cell (fun h => h) HCQ.out
        have hl1 := seenTo_length (grpAt Gs i) tag j
        have hl2 : (L ++ (seenTo (grpAt Gs i) tag j).map (fun j => 8 * i + j)).length ≤ 8 * q + 8 := by rw [List.length_append, List.length_map]; omega
        by_cases h8 : j < 8
        · have hg := HOK.out.at hig
          obtain ⟨x, hx⟩ : ∃ x, (grpAt Gs i).1[j]? = some x := ⟨_, List.getElem?_eq_getElem (by rw [hg.ctl.1]; exact h8)⟩
          have hx256 := hg.ctl.bytes.2 x (List.mem_of_getElem? hx)
          have hcx := HS.out.pu.cell (fun h => h) (HC.out (8 * i + j) x ((laneC_at HOK.out hig h8).trans hx))
          have hst := seenTo_succ (tag := tag) hx
          obtain ⟨k, hk⟩ : ∃ k, 8 * i + j = k := ⟨_, rfl⟩
          have hk' : 8 * (i : Int) + (j : Int) = (k : Int) := by omega
          have hkl : (k : Int) < (n : Int) := by have := HNN.out; omega
          have hkl2 : (k : Int) < 8 * (i : Int) + 8 := by omega
          have hkl3 : (k : Int) ≤ 8388608 := by omega
          rw [hk] at hcx
          rw [hk']
          have HX := Lib.hid hx; have HK := Lib.hid hk; have HK' := Lib.hid hk'; have HST := Lib.hid hst
          clear hx hk hk' hg hst
          have wk : IntKind.i64.wrap ((k : Int) + 1) = (k : Int) + 1 := IntWalk.i64_in _ (by omega)
          obtain ⟨L2, hL2⟩ : ∃ L2, L ++ (seenTo (grpAt Gs i) tag j).map (fun j => 8 * i + j) = L2 := ⟨_, rfl⟩
          rw [hL2] at HS hl2 ⊢
          have HL2 := Lib.hid hL2
          clear hL2
          go_upto_region 9 with fail
          have q0 : wr.drew.cell? ⟨b, 0, none⟩ = _ := hbx_0
          have qx : wr.drew.cell? ⟨B1, k, none⟩ = _ := hcx
          go_region_held3 (fun w' => w'.cell? ⟨b, 0, none⟩ = some (.slice (some ⟨B1, 0, none⟩) n cC) ∧ w'.cell? ⟨B1, k, none⟩ = some (.int .u8 (x : Nat)))
            (first | go_keep | exact ⟨q0, qx⟩)
            ((go_at_call 149; (with_reducible refine Calls.mono (HTag.out _) ?_); rintro e w' ⟨rfl, rfl⟩))
          have HSD := Lib.hid HS.out.drew
          clear hbx_0 hbx_1 hbx_f hbx_l
          clear H_hbx q0 qx HS hcx hcq
          generalize wr.drew = Wd at *
          by_cases hxt : x = tag
          · have hxt' : ((x : Int) == (tag : Int)) = true := by simp [hxt]
            have hst := HST.out
            rw [if_pos hxt] at hst
            have HST2 := Lib.hid hst
            clear hst
            subst hxt
            have wl : L2.length ≤ 8388616 := by omega
            go_wp2_with (at_builtin; refine wpList_append_read _ rfl _ _ 84 rfl 3 iI _ 1 8 Tryz.underlying84 hiI iI0 iI1 iI2 rfl (by decide) (.slice a L2.length c) L2.length _ rfl (owns_mod HSD.out.row ((Mod.refl (fun _ => False) Wd).alloc _) (fun _ _ h => h)) _ [.int .i64 (k : Nat)] 1 rfl (ReadAt.of_block 1 1 1 (heap_new rfl) (by rfl) (by simp [Value.oneCell'])) rfl (by unfold maxLen; omega) (by omega) ?_; intro a7 c7 w5 hr7 hg7 hb7; have hap := HSD.out.app hr7 hg7 hb7; have HAP := Lib.hid hap; clear hap hr7 hg7 hb7)
            have e2 : L ++ (seenTo (grpAt Gs i) x (j + 1)).map (fun j => 8 * i + j) = L2 ++ [k] := by rw [HST2.out, List.map_append, ← List.append_assoc, HL2.out]; simp [HK.out]
            go_roundw
            case rel => exact ⟨j + 1, a7, c7, congrArg (Value.int .i64) (by have := HK'.out; omega), h8, by rw [e2]; simp, by rw [e2]; exact HAP.out⟩
            case measure => simp [intOf]; omega
          · have hxt' : ((x : Int) == (tag : Int)) = false := by simp; omega
            have hxt2 : (x : Int) ≠ (tag : Int) := by omega
            have hst := HST.out
            rw [if_neg hxt, List.append_nil] at hst
            have HST2 := Lib.hid hst
            clear hst
            go_wp2
            have e2 : L ++ (seenTo (grpAt Gs i) tag (j + 1)).map (fun j => 8 * i + j) = L2 := by rw [HST2.out, HL2.out]
            go_roundw
            case rel => exact ⟨j + 1, a, c, congrArg (Value.int .i64) (by have := HK'.out; omega), h8, by rw [e2], by rw [e2]; exact HSD.out⟩
            case measure => simp [intOf]; omega
        · have e : j = 8 := by omega
          subst e
          have hsn2 : seenL Gs tag (pre ++ [i]) = L ++ (seenTo (grpAt Gs i) tag 8).map (fun j => 8 * i + j) := by rw [HSN.out, HL.out]
          rw [← hsn2] at HS hl2 ⊢
          have HSN2 := Lib.hid hsn2
          clear hsn2
          go_upto_region 11 with fail
          have HHas : Hid (∀ W, RefI W (some ⟨B1, 0, none⟩) cC (some ⟨B2, 0, none⟩) cS Gs → Calls Tryz.prog 121 #[.agg #[.slice (some ⟨B1, 0, none⟩) n cC, .slice (some ⟨B2, 0, none⟩) n cS], .int .i64 i] W fun e w' => e = .returned (.bool (blanks (grpAt Gs i))) ∧ Pure W w') := fun W hW => by
            have := rHas_ok hW i hig
            unfold refI at this
            rw [HNN.out] at this
            exact this
          have HSD := Lib.hid HS.out.drew
          have HRD := Lib.hid (HB2.out.rf.pure HS.out.drew.pu)
          have q0 : wr.drew.cell? ⟨b, 0, none⟩ = _ := hbx_0
          have q1 : wr.drew.cell? ⟨b, 1, none⟩ = _ := hbx_1
          have qx : wr.drew.cell? ⟨B', q, none⟩ = _ := hcq
          go_region_held3 (fun w' => w'.cell? ⟨b, 0, none⟩ = some (.slice (some ⟨B1, 0, none⟩) n cC) ∧ w'.cell? ⟨b, 1, none⟩ = some (.slice (some ⟨B2, 0, none⟩) n cS) ∧ w'.cell? ⟨B', q, none⟩ = some (.int .i64 (i : Nat)))
            (first | go_keep | exact ⟨q0, q1, qx⟩ | exact ⟨hp5.cell (fun h => h) q0, hp5.cell (fun h => h) q1, hp5.cell (fun h => h) qx⟩)
            ((go_at_call 121; (with_reducible refine Calls.mono (HHas.out _ HRD.out) ?_); rintro e w5 ⟨rfl, hp5⟩))
          have HS5 := Lib.hid (HSD.out.pure hp5)
          clear hbx_0 hbx_1 hbx_f hbx_l
          clear H_hbx q0 q1 qx HS HSD HRD hp5 hcq
          have HM : Hid (seenM Gs sum = seenFrom Gs tag (probes part Gs.length)) := by
            show seenM Gs sum = seenFrom Gs tag (probes part Gs.length)
            unfold seenM; rw [HPT.out.1, HPT.out.2]
          have hpre := seen_pre (tag := tag) pre i ((probes part Gs.length).drop (q + 1)) HNB.out
          rw [← HDR.out, ← HM.out] at hpre
          have HPRE := Lib.hid hpre
          clear hpre
          cases hbl : blanks (grpAt Gs i) with
          | true =>
            have HBL := Lib.hid hbl
            clear hbl
            have hk : seenK Gs sum = seenL Gs tag (pre ++ [i]) := by
              unfold seenK seenL seenPre
              rw [HPRE.out, HBL.out, if_pos rfl, List.append_nil, List.flatMap_append]
              simp
            have HK := Lib.hid hk
            clear hk
            go_wp2
            go_ret
            refine ⟨a, c, by rw [HK.out]; rfl, ?_⟩
            rw [HK.out]
            exact HS5.out.base HPW.out
          | false =>
            have HBL := Lib.hid hbl
            clear hbl
            go_wp2
            go_roundw
            case rel =>
              refine ⟨q + 1, a, c, by go_num, hlt, ?_, ?_, ?_, ?_⟩
              · rw [HTK.out]
              · rw [HTK.out]; exact HS5.out
              · rw [HTK.out]
                intro k hk
                rcases List.mem_append.1 hk with h | h
                · exact HNB.out k h
                · have : k = i := by simpa using h
                  rw [this]; exact HBL.out
              · rw [HTK.out]; omega
            case measure => simp [intOf]; omega
    · have hlt' : (Gs.length : Int) ≤ (q : Int) := by omega
      have htk : (probes part Gs.length).take q = probes part Gs.length := List.take_of_length_le (by unfold probes; simp; omega)
      have hk : seenK Gs sum = seenL Gs tag (probes part Gs.length) := by
        have hnb2 := HNB.out
        rw [htk] at hnb2
        unfold seenK seenL seenM
        rw [HPT.out.1, HPT.out.2, seen_all _ hnb2]
        rfl
      rw [htk] at HS hll ⊢
      have HK := Lib.hid hk
      clear hk htk
      generalize seenL Gs tag (probes part Gs.length) = LL at *
      go_wp2
      go_ret
      refine ⟨a, c, by rw [HK.out]; rfl, ?_⟩
      rw [HK.out]
      exact HS.out.base HPW.out
end Go.Proofs.YtapplindfijngaaGreat

/- The reference of layer 7: At, Insert, Remove, Replace. -/
namespace Go.Proofs.YtapplindfijngaaGreat
open Go.RowKit Go.Shelf
set_option maxRecDepth 100000

theorem slot_some {Gs : List Grp} (h : IxOk Gs) {x : Nat × Nat} (h1 : x.1 < Gs.length) (h2 : x.2 < 8) : (laneS Gs)[lane x]? = some (slotAt Gs x) := by
  unfold lane slotAt
  rw [laneS_at h h1 h2, List.getD_eq_getElem?_getD, List.getElem?_eq_getElem (by rw [(h.at h1).len]; exact h2)]
  rfl
theorem seenFrom_length {Gs : List Grp} (h : IxOk Gs) (tag : Nat) : ∀ L : List Nat, (∀ i ∈ L, i < Gs.length) → (seenFrom Gs tag L).length ≤ 8 * L.length
  | [], _ => by simp [seenFrom]
  | i :: L, hL => by
    have h1 := seenFrom_length h tag L (fun k hk => hL k (by simp [hk]))
    have h2 : (seenIn (grpAt Gs i) tag).length ≤ 8 := by
      rw [← seenTo_eight (h.at (hL i (by simp))) tag]
      exact seenTo_length _ _ _
    unfold seenFrom
    rw [List.length_append, List.length_map, List.length_cons]
    split
    · simp; omega
    · omega
theorem seenM_length {Gs : List Grp} (h : IxOk Gs) (sum : Nat) : (seenM Gs sum).length ≤ 8388608 := by
  have h1 := seenFrom_length h (sum % 128) (probes (sum / 128) Gs.length) (fun i hi => probes_lt h.pow.pos _ hi)
  have h2 : (probes (sum / 128) Gs.length).length = Gs.length := by unfold probes; simp
  have h3 := h.pow.le
  unfold seenM
  omega
def atPost (o : Option (Nat × Nat)) : Int := match o with | some x => (lane x : Int) | none => -1
set_option maxHeartbeats 2000000 in
theorem rAt_ok {w : World} {aC : Option Addr} {cC : Nat} {aS : Option Addr} {cS : Nat} {Gs : List Grp} (h : RefI w aC cC aS cS Gs) (sum slot : Nat) (hsum : sum < 18446744073709551616) (hsl : slot ≤ 4294967295) : Calls Tryz.prog 119 #[refI aC cC aS cS Gs.length, .int .u64 sum, .int .u32 slot] w fun e w' => e = .returned (.int .i64 (atPost (findM Gs sum (fun x => x == slot)))) ∧ Pure w w' := by
  have hg1 := h.ok.pow.le
  have hR := RBox.new h
  have HOK := Lib.hid h.ok
  clear h
  obtain ⟨res, hres⟩ : ∃ res, atPost (findM Gs sum (fun x => x == slot)) = res := ⟨_, rfl⟩
  rw [hres]
  have HRES := Lib.hid hres
  clear hres
  unfold refI
  go_enter Tryz.func119, Tryz.ntmps119
  go_upto_region 1 with fail
  generalize w.alloc (.cells #[.slice aC (8 * Gs.length) cC, .slice aS (8 * Gs.length) cS] 36) = W at *
  obtain ⟨b, hb⟩ : ∃ b, w.heap.size = b := ⟨_, rfl⟩
  rw [hb] at hR ⊢
  have HR := Lib.hid hR
  have hbx := hR.bx
  have hSn := rSeen_ok hR.rf sum hsum
  unfold refI at hSn
  have HSn := Lib.hid hSn
  clear hR hb hSn
  have hbx_0 := cell_of_row _ _ 0 _ _ _ hbx; have hbx_1 := cell_of_row _ _ 1 _ _ _ hbx; have hbx_f := (fun j => frozen_of_row _ _ j _ _ hbx); have hbx_l := lt_of_block hbx; simp at hbx_0 hbx_1; have H_hbx := Lib.hid hbx; clear hbx
  go_upto_region 2 with (go_at_call 158; refine Calls.mono HSn.out ?_; rintro e w2 ⟨aL, cL, rfl, hSI⟩)
  have HB2 := Lib.hid (HR.out.pure hSI.pu)
  have hrow := hSI.row
  clear hbx_0 hbx_1 hbx_f hbx_l
  clear H_hbx HR HSn hSI
  have hbx := HB2.out.bx
  obtain ⟨B1, B2, e1, e2, l1, l2, _, hCS⟩ := HB2.out.rf.cells
  subst e1 e2
  have HCS := Lib.hid hCS
  obtain ⟨n, hn⟩ : ∃ n, 8 * Gs.length = n := ⟨_, rfl⟩
  rw [hn] at hbx l1 l2 ⊢
  have HN := Lib.hid hn
  have hnn : n ≤ 8388608 := by omega
  clear hCS hn
  have hbx_0 := cell_of_row _ _ 0 _ _ _ hbx; have hbx_1 := cell_of_row _ _ 1 _ _ _ hbx; have hbx_f := (fun j => frozen_of_row _ _ j _ _ hbx); have hbx_l := lt_of_block hbx; simp at hbx_0 hbx_1; have H_hbx := Lib.hid hbx; clear hbx
  have hkl : (seenK Gs sum).length = (seenM Gs sum).length := by unfold seenK; simp
  have HROW := Lib.hid hrow
  have HKL := Lib.hid hkl
  obtain ⟨m, hm⟩ : ∃ m, (seenK Gs sum).length = m := ⟨_, rfl⟩
  have hml : m ≤ 8388608 := by have := seenM_length HOK.out sum; omega
  rw [hm] at HROW ⊢
  have HM := Lib.hid hm
  clear hrow hkl hm
  have wm : IntKind.i64.wrap (m : Int) = m := IntWalk.i64_in _ (by omega)
  go_upto_region 3 with fail
  go_loopw [8] (fun v8 wr => ∃ i, v8 = .int .i64 (i : Nat) ∧ i ≤ m ∧ (∀ x ∈ (seenM Gs sum).take i, slotAt Gs x ≠ slot) ∧ Pure w2 wr) (fun v8 _ => m - (intOf v8).toNat)
  case atStart => exact ⟨0, rfl, Nat.zero_le _, fun x hx => by simp at hx, Mod.refl _ _⟩
  case round =>
    clear hbx_0 hbx_1 hbx_f hbx_l
    obtain ⟨i, rfl, hi, hne, hpu⟩ := hrel
    have HNE := Lib.hid hne
    have HPU := Lib.hid hpu
    have hbx := hpu.heap (fun h => h) H_hbx.out
    clear hne hpu H_hbx
    have hbx_0 := cell_of_row _ _ 0 _ _ _ hbx; have hbx_1 := cell_of_row _ _ 1 _ _ _ hbx; have hbx_f := (fun j => frozen_of_row _ _ j _ _ hbx); have hbx_l := lt_of_block hbx; simp at hbx_0 hbx_1; have H_hbx := Lib.hid hbx; clear hbx
    by_cases hlt : i < m
    · have hlt' : (i : Int) < (m : Int) := by omega
      obtain ⟨x, hx⟩ : ∃ x, (seenM Gs sum)[i]? = some x := ⟨_, List.getElem?_eq_getElem (by have := HKL.out; have := HM.out; omega)⟩
      have hf := seen_full HOK.out (List.mem_of_getElem? hx)
      have hcS := HPU.out.cell (fun h => h) (HCS.out (lane x) (slotAt Gs x) (slot_some HOK.out hf.hi hf.hj))
      have hsx := slotAt_lt HOK.out x
      have hlx : lane x < n := by have := HN.out; have := hf.hi; have := hf.hj; unfold lane; omega
      obtain ⟨BL, cl, hsv, _, _, hcl, _, _⟩ := owns_at HROW.out (by omega)
      cases hsv
      have hcL := HPU.out.cell (fun h => h) (hcl i (.int .i64 (lane x : Nat)) (by unfold i64v seenK; rw [List.getElem?_map, List.getElem?_map, hx]; rfl))
      have HX := Lib.hid hx
      clear hcl hx hf
      obtain ⟨k, hk⟩ : ∃ k, lane x = k := ⟨_, rfl⟩
      rw [hk] at hcS hcL hlx
      have hkn : (k : Int) < (n : Int) := by omega
      obtain ⟨sx, hsxe⟩ : ∃ sx, slotAt Gs x = sx := ⟨_, rfl⟩
      rw [hsxe] at hcS hsx
      have HK := Lib.hid hk; have HSX := Lib.hid hsxe
      clear hk hsxe
      have wk : IntKind.i64.wrap (k : Int) = k := IntWalk.i64_in _ (by omega)
      have wi : IntKind.i64.wrap ((i : Int) + 1) = (i : Int) + 1 := IntWalk.i64_in _ (by omega)
      have q1 : wr.drew.cell? ⟨b, 1, none⟩ = _ := hbx_1
      have qS : wr.drew.cell? ⟨B2, k, none⟩ = _ := hcS
      have qL : wr.drew.cell? ⟨BL, i, none⟩ = _ := hcL
      go_upto_region 5 with fail
      go_region_held3 (fun w' => w'.cell? ⟨b, 1, none⟩ = some (.slice (some ⟨B2, 0, none⟩) n cS) ∧ w'.cell? ⟨B2, k, none⟩ = some (.int .u32 (sx : Nat)) ∧ w'.cell? ⟨BL, i, none⟩ = some (.int .i64 (k : Nat))) (first | go_keep | exact ⟨q1, qS, qL⟩) (fail)
      by_cases he : sx = slot
      · have he' : ((sx : Int) == (slot : Int)) = true := by simp [he]
        have hfm : findM Gs sum (fun x => x == slot) = some x := by
          unfold findM
          have h1 := List.take_append_drop i (seenM Gs sum)
          have h2 : (seenM Gs sum).drop i = x :: (seenM Gs sum).drop (i + 1) := by
            have hql := List.getElem?_eq_some_iff.1 HX.out
            rw [List.drop_eq_getElem_cons hql.1, hql.2]
          rw [← h1, h2, List.find?_append, List.find?_eq_none.2 (fun y hy => by have := HNE.out y hy; simpa using this)]
          simp [HSX.out, he]
        have hr := HRES.out
        rw [hfm] at hr
        have HR := Lib.hid hr
        clear hfm hr
        subst he
        go_wp2
        go_ret
        refine ⟨?_, HB2.out.pu.trans (HPU.out.drew)⟩
        rw [← HR.out]
        show _ = Ending.returned (.int .i64 (lane x : Int))
        rw [HK.out]
        rfl
      · have he' : ((sx : Int) == (slot : Int)) = false := by simp; omega
        have he2 : (sx : Int) ≠ (slot : Int) := by omega
        have hnx : ∀ y ∈ (seenM Gs sum).take (i + 1), slotAt Gs y ≠ slot := fun y hy => by
          rw [List.take_add_one, HX.out] at hy
          rcases List.mem_append.1 hy with h | h
          · exact HNE.out y h
          · have : y = x := by simpa using h
            rw [this, HSX.out]; exact he
        have HNX := Lib.hid hnx
        clear hnx
        go_wp2
        go_roundw
        case rel => exact ⟨i + 1, by go_num, hlt, HNX.out, HPU.out.drew⟩
        case measure => simp [intOf]; omega
    · have hlt' : (m : Int) ≤ (i : Int) := by omega
      have hfm : findM Gs sum (fun x => x == slot) = none := by
        unfold findM
        refine List.find?_eq_none.2 (fun y hy => ?_)
        have := HNE.out y (by rw [List.take_of_length_le (by have := HKL.out; have := HM.out; omega)]; exact hy)
        simpa using this
      have hr := HRES.out
      rw [hfm] at hr
      subst hr
      clear hfm
      go_wp2
      go_ret
      exact ⟨rfl, HB2.out.pu.trans HPU.out⟩
end Go.Proofs.YtapplindfijngaaGreat
