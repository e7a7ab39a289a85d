/- probe.All, word.All: the makers of the iterators; word.All's iterator. -/
import Derived.Test.YtpafcocciggfpaaGreatProbe
namespace Go.Proofs.YtpafcocciggfpaaGreat
open Go.RowKit Go.Shelf
set_option maxRecDepth 100000
attribute [local go_sem] Oper.semAt_some

/-! ### word.All -/
structure LanesAt (w : World) (B m : Nat) : Prop where
  set : w.heap[B]? = some (.cells #[.int .u8 m] 5 (0, 0))
theorem LanesAt.keeps {w w' : World} {B m : Nat} (h : LanesAt w B m) (hk : KeepsIt (fun k => k = B) w w') : LanesAt w' B m :=
  ⟨(hk.2 B rfl (lt_of_block h.set)).trans h.set⟩
def lanesInv (J : List Nat → World → Prop) (m : Nat) (k : Value) (wr : World) : Prop :=
  ∃ (r : Nat) (pre : List Nat), r < 256 ∧ k = .int .u8 r ∧ J pre wr ∧ lanesOf m = pre ++ lanesOf r
set_option maxHeartbeats 1000000 in
theorem Lanes_iter {w : World} {B m : Nat} (h : LanesAt w B m) (hm : m < 256) :
    IterOk Tryz.prog 186 #[.pointer (some ⟨B, 0, none⟩)] encN (fun k => k = B) (nextOf (lanesOf m)) (fun xs => xs = lanesOf m) w := by
  intro l J Jx W hW hJ hJx hY h0
  have hA := h.keeps (KeepsIt.of_pure hW)
  have hB := cell_of_row W B 0 _ _ _ hA.set
  simp at hB
  have HY := Lib.hid hY
  have hm0 : (0 : Int) ≤ m := by omega
  have hm1 : (m : Int) ≤ 255 := by omega
  clear hA hY hJ hJx h hW
  refine callsIn_of_wp Tryz.func186 rfl trivial ?_ rfl
  simp only [Tryz.ntmps186, List.size_toArray, List.length_cons, List.length_nil, Nat.reduceAdd, Nat.reduceSub, Array.replicate_succ, Array.replicate_zero, List.push_toArray, List.append_toArray, List.nil_append, List.cons_append]
  gi_wp2
  gi_loopw [3] (fun k wr => lanesInv J m k wr)
    (fun k _ => (intOf k).toNat)
  case atStart => exact ⟨m, [], hm, rfl, h0, by simp⟩
  case round =>
    obtain ⟨r, pre, hr, rfl, hJs, hl⟩ := hrel
    by_cases hz : r = 0
    · subst hz
      rw [lanes_zero, List.append_nil] at hl
      have HJS := Lib.hid hJs
      have HL := Lib.hid hl
      clear hJs hl
      gi_wp2
      go_end0
      refine ⟨⟨_, rfl⟩, .inl ⟨pre, ?_, HJS.out⟩⟩
      rw [HL.out]
    · obtain ⟨hs, h8, hlt⟩ := lanes_step r hr hz
      rw [hs] at hl
      have hz2 : ((r : Int) == 0) = false := by simp [hz]
      have hz3 : ((r : Int) != 0) = true := by simp [hz]
      have hr0 : (1 : Int) ≤ r := by omega
      have hr1 : (r : Int) ≤ 255 := by omega
      have e1 := bits_and8 r (r - 1) hr (by omega)
      rw [show ((r - 1 : Nat) : Int) = (r : Int) - 1 by omega] at e1
      have HF := Lib.hid (First_ok r wr hr)
      generalize lane1 r = x at *
      generalize r &&& (r - 1) = q at *
      obtain ⟨fn, tmps, assign, body, hy, hR⟩ := HY.out pre x wr hJs ⟨lanesOf q, hl⟩
      dsimp only [encN] at hy
      have hRR := Lib.hid hR
      have HL := Lib.hid hl
      clear hR hJs hl
      gi_wp2_with (gi_at_call 163; refine (callsIn_wide.2 HF.out).mono ?_; rintro e w1 ⟨rfl, rfl⟩)
      refine hRR.out.mono ?_
      rintro e W' (⟨rfl, hJ', hk⟩ | ⟨rfl, hJx'⟩)
      · have HJ' := Lib.hid hJ'
        clear hJ'
        gi_wp2
        go_roundw
        case rel =>
          unfold lanesInv
          exact ⟨q, pre ++ [x], by omega, by go_num, HJ'.out, by rw [HL.out]; simp⟩
        case measure => simp [intOf]; omega
      · gi_wp2
        refine bodyPost_ret (results_none rfl _ _ _) rfl ?_
        exact ⟨⟨_, rfl⟩, .inr ⟨_, hJx'⟩⟩

def lanesPost (w : World) (m : Nat) (e : Ending) (w' : World) : Prop :=
  ∃ B, e = .returned (.func (.func 186) #[] #[.pointer (some ⟨B, 0, none⟩)]) ∧ LanesAt w' B m ∧ Pure w w' ∧ w.heap.size ≤ B
theorem Lanes_ok (m : Nat) (w : World) : Calls Tryz.prog 170 #[.int .u8 m] w (lanesPost w m) := by
  go_enter Tryz.func170, Tryz.ntmps170
  go_wp2
  go_ret
  exact ⟨w.heap.size, rfl, ⟨heap_new rfl⟩, (Mod.refl _ w).alloc _, Nat.le_refl _⟩

def probePost (w : World) (part g : Nat) (e : Ending) (w' : World) : Prop :=
  ∃ B1 B2 B3, e = .returned (.tuple #[.func (.func 182) #[] #[.pointer (some ⟨B1, 0, none⟩), .pointer (some ⟨B2, 0, none⟩), .pointer (some ⟨B3, 0, none⟩)], .int .i64 0]) ∧ ProbeAt w' B1 B2 B3 part g ∧ Pure w w' ∧ w.heap.size ≤ B1 ∧ w.heap.size ≤ B2 ∧ w.heap.size ≤ B3
theorem probe_end (part g : Nat) (w : World) : probePost w part g (.returned (.tuple #[.func (.func 182) #[] #[.pointer (some ⟨w.heap.size + 1 + 1, 0, none⟩), .pointer (some ⟨w.heap.size, 0, none⟩), .pointer (some ⟨w.heap.size + 1, 0, none⟩)], .int .i64 0]))
    (((w.alloc (.cells #[.int .u64 part] 22)).alloc (.cells #[.int .i64 g] 3)).alloc (.cells #[.int .i64 g] 3)).drew := by
  refine ⟨_, _, _, rfl, ⟨?_, ?_, ?_⟩, ?_, by omega, by omega, by omega⟩
  · exact heap_new (w := (w.alloc (.cells #[.int .u64 part] 22)).alloc (.cells #[.int .i64 g] 3)) (by simp)
  · exact heap_keep (w := (w.alloc (.cells #[.int .u64 part] 22)).alloc (.cells #[.int .i64 g] 3)) (heap_keep (heap_new rfl))
  · exact heap_keep (w := (w.alloc (.cells #[.int .u64 part] 22)).alloc (.cells #[.int .i64 g] 3)) (heap_new (by simp))
  · (repeat' (first | (with_reducible exact Mod.refl _ _) | (with_reducible refine Mod.alloc ?_ _) | (with_reducible refine Mod.drew ?_) | (with_reducible refine Mod.drewN ?_ _) | (with_reducible refine Mod.setCell ?_ ?_ _) | (refine Mod.then ?_ (by with_reducible assumption) ?_)))
set_option maxHeartbeats 400000 in
theorem ProbeAll_ok (part g : Nat) (w : World) (hg : Pow g) : Calls Tryz.prog 161 #[.int .u64 part, .int .i64 g] w (probePost w part g) := by
  have hq := fun W => check_ok g 0 W hg hg.pos
  have hend := Lib.hid (probe_end part g w)
  go_enter Tryz.func161, Tryz.ntmps161
  go_wp2
  go_region_with (go_at_call 181; refine Calls.mono (hq _) ?_; rintro e w1 ⟨rfl, rfl⟩)
  all_goals
    go_wp2
    go_ret2
    exact hend.out
end Go.Proofs.YtpafcocciggfpaaGreat
