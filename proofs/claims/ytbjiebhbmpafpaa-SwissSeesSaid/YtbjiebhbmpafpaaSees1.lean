/- law07.SwissSees: the function that is called back. -/
import Derived.Test.YtbjiebhbmpafpaaFindB
import Derived.Test.YtbjiebhbmpafpaaDoA
namespace Go.Proofs.Ytbjiebhbmpafpaa
open Go.RowKit Go.Shelf
set_option maxRecDepth 100000

/-- What the function that is called back keeps. -/
structure SeeJ (w : World) (b16 b7 : Nat) (many : Int) (pre : List Nat) (W : World) : Prop where
  md : Mod (fun k => k = b16) w W
  row : ∃ a c, W.heap[b16]? = some (.cells #[.slice a pre.length c] 24 (0, 0)) ∧ W.ownsRow 0 43 1 (.slice a pre.length c) pre.length (u32v pre) ∧ ∀ k, (Value.slice a pre.length c).ownBlock = some k → w.heap.size ≤ k
  hm : W.heap[b7]? = some (.cells #[.int .i64 many] 3 (0, 0))
  l16 : b16 < w.heap.size
  l7 : b7 < w.heap.size
def seeC (T : TypeId) : Prop := T = 43 ∨ T = 24
theorem SeeJ.keep {w A B : World} {b16 b7 : Nat} {many : Int} {pre : List Nat} (h : SeeJ w b16 b7 many pre A) (hm : Mod (FindMay w.heap.size A) A B) : SeeJ w b16 b7 many pre B := by
  obtain ⟨a, c, h1, h2, h3⟩ := h.row
  have hl := h.l16; have hl7 := h.l7
  refine ⟨h.md.then hm (fun i hi hs => by have := hs.1; omega), ⟨a, c, hm.heap (fun hs => by have := hs.1; omega) h1, owns_mod h2 hm (fun g hg hs => ?_), h3⟩, hm.heap (fun hs => by have := hs.1; omega) h.hm, hl, hl7⟩
  obtain ⟨cc, e⟩ := owns_type h2 hg
  rcases hs.2 _ _ _ e with e | e | e
  · exact absurd e (by decide)
  · exact absurd e (by decide)
  · exact absurd e (by decide)
/-- Behind one call. -/
theorem SeeJ.app {w W w5 W6 : World} {b16 b7 : Nat} {many : Int} {pre : List Nat} {s : Nat} {a a7 : Option Addr} {c c7 : Nat} {o : Obj} (h : SeeJ w b16 b7 many pre W)
    (h1 : W.heap[b16]? = some (.cells #[.slice a pre.length c] 24 (0, 0))) (h2 : W.ownsRow 0 43 1 (.slice a pre.length c) pre.length (u32v pre)) (h3 : ∀ k, (Value.slice a pre.length c).ownBlock = some k → w.heap.size ≤ k)
    (hr7 : w5.ownsRow 0 43 1 (.slice a7 (pre.length + 1) c7) (pre.length + 1) (u32v pre ++ [.int .u32 (s : Nat)]))
    (hg7 : (W.alloc o).grownBy w5 (Value.slice a pre.length c).ownBlock) (hb7 : (Value.slice a7 (pre.length + 1) c7).ownBlock = (Value.slice a pre.length c).ownBlock ∨ (Value.slice a7 (pre.length + 1) c7).ownBlock = some (W.alloc o).heap.size) :
    w5.heap[b16]? = some (.cells #[.slice a pre.length c] 24 (0, 0)) ∧ w5.heap[b7]? = some (.cells #[.int .i64 many] 3 (0, 0)) ∧ b7 ≠ b16 ∧
    (w5.setCell ⟨b16, 0, none⟩ (.slice a7 (pre.length + 1) c7) = W6 → SeeJ w b16 b7 many (pre ++ [s]) W6 ∧ ModC seeC W W6) := by
  have m1 : Mod (fun k => (Value.slice a pre.length c).ownBlock = some k) W w5 := ((Mod.refl _ W).alloc o).trans (Mod.of_grown hg7 (fun k e _ => e))
  have n16 : ¬ (Value.slice a pre.length c).ownBlock = some b16 := fun e => by
    obtain ⟨cc, e2⟩ := owns_type h2 e
    rw [h1] at e2; cases e2
  have n7 : ¬ (Value.slice a pre.length c).ownBlock = some b7 := fun e => by
    obtain ⟨cc, e2⟩ := owns_type h2 e
    rw [h.hm] at e2; cases e2
  have n77 : b7 ≠ b16 := fun e => by
    have := h.hm
    rw [e, h1] at this; cases this
  have h16 := m1.heap n16 h1
  have h7 := m1.heap n7 h.hm
  refine ⟨h16, h7, n77, fun hW => ?_⟩
  have hms : Mod (fun k => k = b16) w5 W6 := hW ▸ Mod.set1 b16 0 _
  have h16' : W6.heap[b16]? = some (.cells #[.slice a7 (pre.length + 1) c7] 24 (0, 0)) := by rw [← hW]; exact heap_set1 (j := 0) h16
  have e : (pre ++ [s]).length = pre.length + 1 := by simp
  have hl := h.l16; have hsz := h.md.size
  have hfr : ∀ k, (Value.slice a7 (pre.length + 1) c7).ownBlock = some k → w.heap.size ≤ k := fun k hk => by
    rcases hb7 with e | e
    · exact h3 k (e ▸ hk)
    · rw [hk] at e
      cases e
      simp only [World.size_alloc]
      omega
  refine ⟨⟨(h.md.then m1 (fun i hi hs => by have := h3 i hs; omega)).then hms (fun i hi hs => hs), ⟨a7, c7, by rw [e]; exact h16', ?_, by rw [e]; exact hfr⟩, hms.heap n77 h7, h.l16, h.l7⟩, ?_⟩
  · rw [e]
    have e2 : u32v (pre ++ [s]) = u32v pre ++ [.int .u32 (s : Nat)] := by unfold u32v; simp
    rw [e2]
    exact owns_mod hr7 hms (fun g hg e => by have := hfr g hg; omega)
  · have hmc : ModC seeC W w5 := m1.mono (fun k _ hk => by
      obtain ⟨cc, e2⟩ := owns_type h2 hk
      exact ⟨_, _, _, e2, .inl rfl⟩)
    exact Mod.then hmc hms (fun i hi hs => by subst hs; exact ⟨_, _, _, h1, .inr rfl⟩)
set_option maxHeartbeats 1000000 in
theorem sees1_ok {w W : World} {b16 b7 : Nat} {many : Int} {pre : List Nat} (h : SeeJ w b16 b7 many pre W) (s : Nat) (hs : s ≤ 4294967295) (hl : pre.length < 8388608) :
    Calls Try.prog 50 #[.int .u32 s, .pointer (some ⟨b16, 0, none⟩), .pointer (some ⟨b7, 0, none⟩)] W fun e w' => e = .returned (.bool (((pre.length : Int) + 1) == many)) ∧ SeeJ w b16 b7 many (pre ++ [s]) w' ∧ ModC seeC W w' := by
  obtain ⟨a, c, h1, h2, h3⟩ := h.row
  obtain ⟨iB, hiB, iB0, iB1, iB2⟩ := info_parts info_u32
  have HAP := Lib.hid (fun (w5 W6 : World) (a7 : Option Addr) (c7 : Nat) (o : Obj) hr7 hg7 hb7 => h.app (w5 := w5) (W6 := W6) (s := s) (a7 := a7) (c7 := c7) (o := o) h1 h2 h3 hr7 hg7 hb7)
  have HR := Lib.hid h2
  have z16 := h1
  clear h h1 h2 h3
  generalize u32v pre = xs at *
  obtain ⟨n, hn⟩ : ∃ n, pre.length = n := ⟨_, rfl⟩
  rw [hn] at HR HAP z16 hl ⊢
  clear hn
  have z16_0 := cell_of_row _ _ 0 _ _ _ z16; have z16_f := (fun j => frozen_of_row _ _ j _ _ z16); have z16_l := lt_of_block z16; simp at z16_0; have H_z16 := Lib.hid z16; clear z16
  have hs0 : (0 : Int) ≤ s := by omega
  have hs1 : (s : Int) ≤ 4294967295 := by omega
  go_enter Try.func50, Try.ntmps50
  go_upto_region 2 with (at_builtin; refine wpList_append_read _ rfl _ _ 24 rfl 43 iB _ 1 4 Try.underlying24 hiB iB0 iB1 iB2 rfl (by decide) (.slice a n c) n _ rfl (owns_mod HR.out ((Mod.refl (fun _ => False) W).alloc _) (fun _ _ h => h)) _ [.int .u32 (s : Nat)] 1 rfl (ReadAt.of_block 1 1 1 (heap_new rfl) (by rfl) (by simp [Value.oneCell'])) rfl (by unfold maxLen; omega) (by omega) ?_; intro a7 c7 w5 hr7 hg7 hb7; obtain ⟨q1, q2, q3, _⟩ := HAP.out w5 w5 a7 c7 _ hr7 hg7 hb7; have QF := Lib.hid (fun W6 => (HAP.out w5 W6 a7 c7 _ hr7 hg7 hb7).2.2.2); clear hr7 hg7 hb7 z16_0; have q1_0 := cell_of_row _ _ 0 _ _ _ q1; have q1_f := (fun j => frozen_of_row _ _ j _ _ q1); have q1_l := lt_of_block q1; simp at q1_0; have H_q1 := Lib.hid q1; clear q1)
  have HW := Lib.hid (QF.out _ rfl)
  have h16 : (w5.setCell ⟨b16, 0, none⟩ (.slice a7 (n + 1) c7)).heap[b16]? = some (.cells #[.slice a7 (n + 1) c7] 24 (0, 0)) := heap_set1 (j := 0) H_q1.out
  have h7 := (Mod.set1 (w := w5) b16 0 (.slice a7 (n + 1) c7)).heap q3 q2
  clear q1_0 q1_f q1_l
  clear H_q1 QF HAP q2
  generalize w5.setCell ⟨b16, 0, none⟩ (.slice a7 (n + 1) c7) = W6 at *
  have h16_0 := cell_of_row _ _ 0 _ _ _ h16; have h16_f := (fun j => frozen_of_row _ _ j _ _ h16); have h16_l := lt_of_block h16; simp at h16_0; have H_h16 := Lib.hid h16; clear h16
  have h7_0 := cell_of_row _ _ 0 _ _ _ h7; have h7_f := (fun j => frozen_of_row _ _ j _ _ h7); have h7_l := lt_of_block h7; simp at h7_0; have H_h7 := Lib.hid h7; clear h7
  go_wp2
  go_ret
  exact ⟨by first | rfl | trivial | simp, HW.out.1, HW.out.2⟩
end Go.Proofs.Ytbjiebhbmpafpaa
