/- The reference of layer 4: ValidKey, Check, Copy, Equal. Conditions: the bytes are read as cells (ReadAt), the lengths are small. -/
import Derived.Test.YtpafcocciggfpaaGreatLog2
namespace Go.Proofs.YtpafcocciggfpaaGreat
open Go.RowKit
set_option maxRecDepth 100000

theorem ref_ValidKey (s : ByteArray) (w : World) (h0 : 0 < s.size) (h1 : s.size ≤ 250) : Calls Tryz.prog 130 #[.string s] w fun e w' => e = .returned (.bool true) ∧ w = w' := by
  have h2 : (1 : Int) ≤ s.size := by omega
  have h3 : (s.size : Int) ≤ 250 := by omega
  go_enter Tryz.func130, Tryz.ntmps130
  go_wp2
  go_ret
  exact ⟨by simp <;> omega, rfl⟩
theorem ref_Check_ok (s : ByteArray) (a : Option Addr) (n c : Nat) (b : Int) (w : World) (h0 : 0 < s.size) (h1 : s.size ≤ 250) (hn : n ≤ 65536) (hb : (b == 0) = false) :
    Calls Tryz.prog 69 #[.string s, .slice a n c, .int .u64 b] w fun e w' => e = .returned (.int .i64 0) ∧ w = w' := by
  have hn' : (n : Int) ≤ 65536 := by omega
  go_enter Tryz.func69, Tryz.ntmps69
  go_wp2_with (go_at_call 130; refine Calls.mono (ref_ValidKey s _ h0 h1) ?_; rintro e w1 ⟨rfl, rfl⟩)
  go_ret
  exact ⟨by simp, rfl⟩

set_option maxHeartbeats 1000000 in
theorem ref_Copy (k : ByteArray) (a : Option Addr) (n c : Nat) (d b : Int) (xs : List Value) (w : World) (hx : ReadAt w (.slice a n c) 1 xs) (hn : n ≤ 65536) :
    Calls Tryz.prog 88 #[.agg #[.string k, .slice a n c, .int .u64 d, .int .u64 b]] w (copyPost k xs d b w) := by
  obtain ⟨i0, hi, iz0, iz1, iz2⟩ := info_parts info_u8
  have hl := read_length hx
  have HX := Lib.hid hx
  clear hx
  go_enter Tryz.func88, Tryz.ntmps88
  go_wp2
  have hP : Pure w ((w.alloc (.cells #[.string k, .slice a n c, .int .u64 d, .int .u64 b] 42)).alloc (.cells #[.string ⟨#[]⟩, .slice none 0 0, .int .u64 0, .int .u64 0] 42)) := ((Mod.refl _ w).alloc _).alloc _
  have H := Lib.hid (HX.out.frame hP (fun _ _ h => h))
  have hA := heap_keep (o := .cells #[.string ⟨#[]⟩, .slice none 0 0, .int .u64 0, .int .u64 0] 42 (0, 0)) (heap_new (w := w) (o := .cells #[.string k, .slice a n c, .int .u64 d, .int .u64 b] 42 (0, 0)) rfl)
  have hB := heap_new (w := w.alloc (.cells #[.string k, .slice a n c, .int .u64 d, .int .u64 b] 42)) (o := .cells #[.string ⟨#[]⟩, .slice none 0 0, .int .u64 0, .int .u64 0] 42 (0, 0)) (n := w.heap.size + 1) (by simp)
  generalize (w.alloc (.cells #[.string k, .slice a n c, .int .u64 d, .int .u64 b] 42)).alloc (.cells #[.string ⟨#[]⟩, .slice none 0 0, .int .u64 0, .int .u64 0] 42) = W at hP H hA hB ⊢
  have hlB := lt_of_block hB
  have r0 := cell_of_row W _ 0 _ _ _ hA; have r1 := cell_of_row W _ 1 _ _ _ hA; have r2 := cell_of_row W _ 2 _ _ _ hA; have r3 := cell_of_row W _ 3 _ _ _ hA
  simp at r0 r1 r2 r3
  have d0 : W.drew.cell? ⟨w.heap.size, 0, none⟩ = some (.string k) := r0; have d1 : W.drew.cell? ⟨w.heap.size, 1, none⟩ = some (.slice a n c) := r1; have d2 : W.drew.cell? ⟨w.heap.size, 2, none⟩ = some (.int .u64 d) := r2; have d3 : W.drew.cell? ⟨w.heap.size, 3, none⟩ = some (.int .u64 b) := r3
  have HB := Lib.hid hB
  have HP := Lib.hid hP
  clear hA hB hP HX
  go_region_held3 (fun w' => w'.cell? ⟨w.heap.size, 0, none⟩ = some (.string k) ∧ w'.cell? ⟨w.heap.size, 1, none⟩ = some (.slice a n c) ∧ w'.cell? ⟨w.heap.size, 2, none⟩ = some (.int .u64 d) ∧ w'.cell? ⟨w.heap.size, 3, none⟩ = some (.int .u64 b))
    (first | exact ⟨by with_reducible assumption, by with_reducible assumption, by with_reducible assumption, by with_reducible assumption⟩ | exact ⟨by simpa [go_sem] using hp2.cell (fun h => h) r0, by simpa [go_sem] using hp2.cell (fun h => h) r1, by simpa [go_sem] using hp2.cell (fun h => h) r2, by simpa [go_sem] using hp2.cell (fun h => h) r3⟩)
    (first | (refine step_append_read _ (by rfl) _ _ 33 (by rfl) 5 i0 _ 1 1 Tryz.underlying33 hi iz0 iz1 iz2 rfl (by decide) (.slice none 0 0) 0 [] (by rfl) (World.ownsRow_nil _ _ _ _) _ xs n (by rfl) H.out hl (by unfold maxLen; omega) (by omega) ?_; intro a2 c2 w2 hown2 hgrow2 hat2; have hp2 : Pure W w2 := Mod.of_drew (Mod.of_grown (S := fun _ => False) hgrow2 (fun k e _ => (by cases e))); obtain ⟨g5, f5⟩ := hp2.box HB.out (fun h => h); have g50 := g5 0; have g51 := g5 1; have g52 := g5 2; have g53 := g5 3; simp at g50 g51 g52 g53; clear g5; have q0 := hp2.cell (fun h => h) r0; have q1 := hp2.cell (fun h => h) r1; have q2 := hp2.cell (fun h => h) r2; have q3 := hp2.cell (fun h => h) r3))
  simp only [List.nil_append, Nat.zero_add] at hown2 hat2
  have hm : Mod (fun k => k = w.heap.size + 1) w2 ((((w2.setCell ⟨w.heap.size + 1, 0, none⟩ (.string k)).setCell ⟨w.heap.size + 1, 1, none⟩ (.slice a2 n c2)).setCell ⟨w.heap.size + 1, 2, none⟩ (.int .u64 d)).setCell ⟨w.heap.size + 1, 3, none⟩ (.int .u64 b)) :=
    ((((Mod.refl (fun k => k = w.heap.size + 1) w2).setCell (p := ⟨w.heap.size + 1, 0, none⟩) (fun _ => rfl) _).setCell (p := ⟨w.heap.size + 1, 1, none⟩) (fun _ => rfl) _).setCell (p := ⟨w.heap.size + 1, 2, none⟩) (fun _ => rfl) _).setCell (p := ⟨w.heap.size + 1, 3, none⟩) (fun _ => rfl) _
  have hb2 : ∀ g, (Value.slice a2 n c2).ownBlock = some g → w.heap.size + 1 < g := by
    intro g hg
    rcases hat2 with e | e <;> rw [e] at hg
    · cases hg
    · simp at hg; omega
  have z := heap_setCell_same _ _ 3 _ _ (.int .u64 b) (heap_setCell_same _ _ 2 _ _ (.int .u64 d) (heap_setCell_same _ _ 1 _ _ (.slice a2 n c2) (heap_setCell_same w2 _ 0 _ _ (.string k) (hp2.heap (fun h => h) HB.out))))
  have z0 := cell_of_row _ _ 0 _ _ _ z; have z1 := cell_of_row _ _ 1 _ _ _ z; have z2 := cell_of_row _ _ 2 _ _ _ z; have z3 := cell_of_row _ _ 3 _ _ _ z
  simp at z0 z1 z2 z3
  clear z
  go_wp2
  refine bodyPost_ret (v := .agg #[.string k, .slice a2 n c2, .int .u64 d, .int .u64 b]) (by simp [results, Tryz.results88, go_sem, z0, z1, z2, z3]) rfl ⟨a2, n, c2, rfl, owns_mod hown2 hm (fun g hg h => by have := hb2 g hg; omega), fun g hg => by have := hb2 g hg; omega, ?_⟩
  exact (HP.out.trans hp2).then hm (fun i hi h => by omega)
end Go.Proofs.YtpafcocciggfpaaGreat
