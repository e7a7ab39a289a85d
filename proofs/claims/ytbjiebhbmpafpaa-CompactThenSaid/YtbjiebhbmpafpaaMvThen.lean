/- The reference's Then of layer 11. Conditions: rows owned, slot numbers rise and are below the lengths. -/
import Derived.Test.YtbjiebhbmpafpaaRefLog
import Derived.Test.YtbjiebhbmpafpaaMvFrom
namespace Go.Proofs.Ytbjiebhbmpafpaa
open Go.RowKit Go.Shelf
set_option maxRecDepth 100000

/-! ### plain -/
theorem mem_then {xs ys : List Nat} (h : xs.Pairwise (· < ·)) (hy : ∀ y ∈ ys, y < xs.length) (k : Nat) : k ∈ thenXs xs ys ↔ k ∈ xs ∧ below xs k ∈ ys := by
  unfold thenXs
  rw [List.mem_map]
  constructor
  · rintro ⟨y, hm, rfl⟩
    have hlt := hy y hm
    have e : xs[y]? = some (xs.getD y 0) := by simp [List.getD, List.getElem?_eq_getElem hlt]
    exact ⟨List.mem_of_getElem? e, by rw [below_at h e]; exact hm⟩
  · rintro ⟨hx, hb⟩
    exact ⟨_, hb, by simp [List.getD, at_below h hx]⟩
theorem below_then {xs ys : List Nat} (h : xs.Pairwise (· < ·)) (hy : ∀ y ∈ ys, y < xs.length) {k : Nat} (hk : k ∈ xs) : below (thenXs xs ys) k = below ys (below xs k) := by
  unfold thenXs
  show List.countP _ (List.map _ ys) = List.countP _ ys
  rw [List.countP_map]
  refine List.countP_congr (fun y hm => ?_)
  have hlt := hy y hm
  have e : xs[y]? = some (xs.getD y 0) := by simp [List.getD, List.getElem?_eq_getElem hlt]
  have e2 := at_below h hk
  simp only [Function.comp, decide_eq_true_eq]
  constructor
  · intro hl
    rcases Nat.lt_or_ge y (below xs k) with h1 | h1
    · exact h1
    · rcases Nat.lt_or_eq_of_le h1 with h2 | h2
      · have := rising_lt h h2 e2 e; omega
      · rw [h2] at e2; rw [e2] at e; cases e; omega
  · intro hl
    exact rising_lt h hl e e2
theorem newX_succ (zs : List Nat) (k : Nat) : newX zs (k + 1) = newX zs k ++ [if k ∈ zs then (below zs k : Int) else -1] := by
  simp [newX, List.range_succ]
theorem then_gone {xs ys : List Nat} (h : xs.Pairwise (· < ·)) (hy : ∀ y ∈ ys, y < xs.length) {k : Nat} (hk : k ∉ xs) : newX (thenXs xs ys) (k + 1) = newX (thenXs xs ys) k ++ [-1] := by
  rw [newX_succ, if_neg (fun hm => hk ((mem_then h hy k).1 hm).1)]
theorem then_live {xs ys : List Nat} (h : xs.Pairwise (· < ·)) (hy : ∀ y ∈ ys, y < xs.length) {k : Nat} (hk : k ∈ xs) :
    newX (thenXs xs ys) (k + 1) = newX (thenXs xs ys) k ++ [if below xs k ∈ ys then (below ys (below xs k) : Int) else -1] := by
  rw [newX_succ]
  by_cases hb : below xs k ∈ ys
  · rw [if_pos ((mem_then h hy k).2 ⟨hk, hb⟩), if_pos hb, below_then h hy hk]
  · rw [if_neg (fun hm => hb ((mem_then h hy k).1 hm).2), if_neg hb]

theorem ref_Then_arg {w : World} (a a2 : Option Addr) (c c2 n n2 : Nat) (m m2 : Int) (hk : ¬ ((n2 : Int) = m)) :
    Calls Try.prog 23 #[.agg #[.slice a n c, .int .i64 m], .agg #[.slice a2 n2 c2, .int .i64 m2]] w fun e w' => e = .returned (.tuple #[.agg #[.slice none 0 0, .int .i64 0], .int .i64 2]) ∧ Pure w w' := by
  go_enter Try.func23, Try.ntmps23
  go_wp2
  refine bodyPost_ret (v := .tuple #[.agg #[.slice none 0 0, .int .i64 0], .int .i64 2]) (by simp [results, Try.results23, go_sem]) rfl ⟨rfl, ?_⟩
  (repeat' (first | (with_reducible exact Mod.refl _ _) | (with_reducible refine Mod.alloc ?_ _) | (with_reducible refine Mod.drew ?_) | (with_reducible refine Mod.drewN ?_ _) | (with_reducible refine Mod.setCell ?_ ?_ _) | (refine Mod.then ?_ (by with_reducible assumption) ?_)))
  (all_goals (intros; first | (exfalso; assumption) | omega | (simp at *; done) | (simp at *; omega)))

structure RtInv (w : World) (b : Nat) (a a2 : Option Addr) (c c2 n n2 : Nat) (m2 : Int) (xs ys : List Nat) (k : Nat) (wr : World) : Prop where
  le : k ≤ n
  pu : Pure w wr
  r2 : wr.heap[b]? = some (.cells #[.slice a n c, .int .i64 n2] 40 (0, 0))
  r3 : wr.heap[b + 1]? = some (.cells #[.slice a2 n2 c2, .int .i64 m2] 40 (0, 0))
  r4 : wr.heap[b + 1 + 1]? = some (.cells #[.slice none 0 0, .int .i64 0] 40 (0, 0))
  r6 : ∃ aN cN, wr.heap[b + 1 + 1 + 1]? = some (.cells #[.slice aN k cN, .int .i64 m2] 40 (0, 0)) ∧ MvX wr aN cN k (thenXs xs ys) ∧ (∀ g, (Value.slice aN k cN).ownBlock = some g → b + 1 + 1 + 1 < g)
theorem rt_next {w wr w5 wg : World} {b : Nat} {a a2 aN a7 : Option Addr} {c c2 cN c7 n n2 : Nat} {m2 v : Int} {xs ys : List Nat} {k : Nat}
    (hb : w.heap.size = b) (h : k < n) (pu : Pure w wr) (r2 : wr.heap[b]? = some (.cells #[.slice a n c, .int .i64 n2] 40 (0, 0)))
    (r3 : wr.heap[b + 1]? = some (.cells #[.slice a2 n2 c2, .int .i64 m2] 40 (0, 0))) (r4 : wr.heap[b + 1 + 1]? = some (.cells #[.slice none 0 0, .int .i64 0] 40 (0, 0)))
    (r6 : wr.heap[b + 1 + 1 + 1]? = some (.cells #[.slice aN k cN, .int .i64 m2] 40 (0, 0))) (hN : MvX wr aN cN k (thenXs xs ys)) (fN : ∀ g, (Value.slice aN k cN).ownBlock = some g → b + 1 + 1 + 1 < g)
    (hp : Pure wr wg) (ho5 : w5.ownsRow 0 3 1 (.slice a7 (k + 1) c7) (k + 1) (ints (newX (thenXs xs ys) k) ++ [.int .i64 v])) (hn : newX (thenXs xs ys) (k + 1) = newX (thenXs xs ys) k ++ [v])
    (hg : wg.grownBy w5 (Value.slice aN k cN).ownBlock) (hat : (Value.slice a7 (k + 1) c7).ownBlock = (Value.slice aN k cN).ownBlock ∨ (Value.slice a7 (k + 1) c7).ownBlock = some wg.heap.size) :
    RtInv w b a a2 c c2 n n2 m2 xs ys (k + 1) (w5.setCell ⟨b + 1 + 1 + 1, 0, none⟩ (.slice a7 (k + 1) c7)) := by
  obtain ⟨L1, L2, L3, L4⟩ := lg_append (ys := thenXs xs ys) r6 hN hp ho5 hn hg hat
  have hn5 : ∀ g, g ≤ b + 1 + 1 → ¬ (g = b + 1 + 1 + 1 ∨ (Value.slice aN k cN).ownBlock = some g) := by
    rintro g hg (h | h)
    · omega
    · have := fN g h; omega
  have hsz := lt_of_block r6
  refine ⟨h, pu.then L3 (fun i hi h => hn5 i (by omega) h), L3.heap (hn5 _ (by omega)) r2, L3.heap (hn5 _ (by omega)) r3, L3.heap (hn5 _ (by omega)) r4, a7, c7, L1, L2, fun g hg => ?_⟩
  rcases L4 g hg with h | h
  · exact fN g h
  · omega

set_option maxHeartbeats 1000000 in
theorem ref_Then_ok {w : World} {a a2 : Option Addr} {c c2 n n2 : Nat} {xs ys : List Nat} (h : MvX w a c n xs) (h2 : MvX w a2 c2 n2 ys) (m2 : Int) (hr : Rising xs) (hx : ∀ x ∈ xs, x < n) (hl : xs.length = n2) (hy : ∀ y ∈ ys, y < xs.length) (hn : n ≤ 4194304) (hl2 : ys.length ≤ 4194304) :
    Calls Try.prog 23 #[.agg #[.slice a n c, .int .i64 n2], .agg #[.slice a2 n2 c2, .int .i64 m2]] w fun e w' =>
      ∃ a' c', e = .returned (.tuple #[.agg #[.slice a' n c', .int .i64 m2], .int .i64 0]) ∧ MvX w' a' c' n (thenXs xs ys) ∧ Pure w w' := by
  have H := Lib.hid h
  have H2 := Lib.hid h2
  have HY := Lib.hid hy
  have HX := Lib.hid hx
  have HR := Lib.hid hr
  have HL := Lib.hid hl
  have hl3 := hr.len
  have hn2 : n2 ≤ 4194304 := by omega
  clear h h2 hy hx hr hl
  go_enter Try.func23, Try.ntmps23
  go_wp2
  generalize hb : w.heap.size = b at *
  go_loopw [7] (fun i wr => ∃ k : Nat, i = .int .i64 k ∧ RtInv w b a a2 c c2 n n2 m2 xs ys k wr) (fun i _ => n - (intOf i).toNat)
  case atStart =>
    refine ⟨0, rfl, Nat.zero_le _, by (repeat' (first | (with_reducible exact Mod.refl _ _) | (with_reducible refine Mod.alloc ?_ _) | (with_reducible refine Mod.drew ?_) | (with_reducible refine Mod.drewN ?_ _) | (with_reducible refine Mod.setCell ?_ ?_ _) | (refine Mod.then ?_ (by with_reducible assumption) ?_))) <;> (all_goals (intros; first | (exfalso; assumption) | omega | (simp at *; done) | (simp at *; omega))), heap_keep (heap_keep (heap_keep (heap_new hb.symm))), heap_keep (heap_keep (heap_new (by simp [hb]))), heap_keep (heap_new (by simp [hb])), none, 0, heap_new (by simp [hb]), World.ownsRow_nil _ _ _ _, (fun g e => by cases e)⟩
  case round =>
    obtain ⟨k, rfl, hI⟩ := hrel
    obtain ⟨hk, hpu, hr2, hr3, hr4, aN, cN, hr6, hN, hfN⟩ := hI
    have HW := Lib.hid (H.out.pure hpu)
    have HW2 := Lib.hid (H2.out.pure hpu)
    have HPU := Lib.hid hpu
    have HN := Lib.hid hN; have HFN := Lib.hid hfN
    clear hpu hN hfN
    have hr2_0 := cell_of_row _ _ 0 _ _ _ hr2; have hr2_1 := cell_of_row _ _ 1 _ _ _ hr2; have hr2_f := (fun j => frozen_of_row _ _ j _ _ hr2); have hr2_l := lt_of_block hr2; simp at hr2_0 hr2_1; have H_hr2 := Lib.hid hr2; clear hr2
    have hr3_0 := cell_of_row _ _ 0 _ _ _ hr3; have hr3_1 := cell_of_row _ _ 1 _ _ _ hr3; have hr3_f := (fun j => frozen_of_row _ _ j _ _ hr3); have hr3_l := lt_of_block hr3; simp at hr3_0 hr3_1; have H_hr3 := Lib.hid hr3; clear hr3
    have HR4 := Lib.hid hr4
    clear hr4
    have hr6_0 := cell_of_row _ _ 0 _ _ _ hr6; have hr6_1 := cell_of_row _ _ 1 _ _ _ hr6; have hr6_f := (fun j => frozen_of_row _ _ j _ _ hr6); have hr6_l := lt_of_block hr6; simp at hr6_0 hr6_1; have H_hr6 := Lib.hid hr6; clear hr6
    obtain ⟨i0, hi, iz0, iz1, iz2⟩ := info_parts info_int
    by_cases hlt : k < n
    · have hk1 : (k : Int) < (n : Int) := by omega
      obtain ⟨g, hga, hg, hc⟩ := HW.out.cell hlt
      subst hga
      by_cases hm : k ∈ xs
      · rw [if_pos hm] at hc
        have hbl : below xs k < n2 := by have := (List.getElem?_eq_some_iff.1 (at_below HR.out.up hm)).1; rw [HL.out] at this; exact this
        obtain ⟨g2, hga, hg2, hc2⟩ := HW2.out.cell hbl
        subst hga
        have HS := Lib.hid (then_live HR.out.up HY.out hm)
        have hb1 : (below xs k : Int) < (n2 : Int) := by omega
        have hb0 : (0 : Int) ≤ (below xs k : Int) := by omega
        have hd : decide ((below xs k : Int) < 0) = false := by simp <;> omega
        clear hm hbl
        generalize below xs k = bl at *
        generalize (if bl ∈ ys then (below ys bl : Int) else -1) = v at *
        go_upto_region 9 with fail
        go_region_law ((refine step_append_read _ (by rfl) _ _ 38 (by rfl) 3 i0 _ 1 8 Try.underlying38 hi iz0 iz1 iz2 rfl (by decide) (.slice aN k cN) k (ints (newX (thenXs xs ys) k)) (by rfl) (owns_mod HN.out (S := fun _ => False) (((Mod.refl (fun _ => False) wr).alloc _).drew) (fun _ _ h => h)) _ [.int .i64 v] 1 (by rfl) (ReadAt.of_block 1 1 1 (heap_new (by simp)) (by rfl) (by simp [Value.oneCell'])) (by rfl) (by unfold maxLen; omega) (by omega) ?_; intro a7 c7 w5 hr7 hg7 hb7; have m7 := Mod.heap (Mod.of_grown (S := fun k' => (Value.slice aN k cN).ownBlock = some k') hg7 (fun k e _ => e)) (fun e => (by have := HFN.out _ e; omega)) (heap_keep H_hr6.out); have m7_0 := cell_of_row _ _ 0 _ _ _ m7; have m7_1 := cell_of_row _ _ 1 _ _ _ m7; have m7_f := (fun j => frozen_of_row _ _ j _ _ m7); have m7_l := lt_of_block m7; simp at m7_0 m7_1; have H_m7 := Lib.hid m7; clear m7))
        all_goals
          have L := Lib.hid (rt_next hb hlt HPU.out H_hr2.out H_hr3.out HR4.out H_hr6.out HN.out HFN.out (((Mod.refl _ wr).alloc _).drew) hr7 HS.out hg7 (by simpa using hb7))
          clear m7_0 m7_1 m7_f m7_l H_m7 hr7 hg7 hb7 hr2_0 hr2_1 hr3_0 hr3_1 hr6_0 hr6_1 hr6_f hc hc2
          go_wp2
          go_roundw
          case rel => exact ⟨k + 1, by go_num, L.out⟩
          case measure => simp [intOf]; omega
      · rw [if_neg hm] at hc
        have HS := Lib.hid (then_gone HR.out.up HY.out hm)
        clear hm
        go_upto_region 6 with (at_builtin; refine wpList_append_read _ rfl _ _ 38 rfl 3 i0 _ 1 8 Try.underlying38 hi iz0 iz1 iz2 rfl (by decide) (.slice aN k cN) k (ints (newX (thenXs xs ys) k)) rfl (owns_mod HN.out ((Mod.refl (fun _ => False) wr).alloc _) (fun _ _ h => h)) _ [.int .i64 (-1)] 1 rfl (ReadAt.of_block 1 1 1 (heap_new rfl) (by rfl) (by simp [Value.oneCell'])) rfl (by unfold maxLen; omega) (by omega) ?_; intro a7 c7 w5 hr7 hg7 hb7; have m7 := Mod.heap (Mod.of_grown (S := fun k' => (Value.slice aN k cN).ownBlock = some k') hg7 (fun k e _ => e)) (fun e => (by have := HFN.out _ e; omega)) (heap_keep H_hr6.out); have m7_0 := cell_of_row _ _ 0 _ _ _ m7; have m7_1 := cell_of_row _ _ 1 _ _ _ m7; have m7_f := (fun j => frozen_of_row _ _ j _ _ m7); have m7_l := lt_of_block m7; simp at m7_0 m7_1; have H_m7 := Lib.hid m7; clear m7)
        have L := Lib.hid (rt_next hb hlt HPU.out H_hr2.out H_hr3.out HR4.out H_hr6.out HN.out HFN.out ((Mod.refl _ wr).alloc _) hr7 HS.out hg7 hb7)
        clear m7_0 m7_1 m7_f m7_l H_m7 hr7 hg7 hb7 hr2_0 hr2_1 hr3_0 hr3_1 hr6_0 hr6_1 hr6_f hc
        go_wp2
        go_roundw
        case rel => exact ⟨k + 1, by go_num, L.out⟩
        case measure => simp [intOf]; omega
    · have hkk : n = k := by omega
      have hk1 : (n : Int) ≤ (k : Int) := by omega
      have HKK := Lib.hid hkk
      clear hkk
      have hr4 := HR4.out
      have hr4_0 := cell_of_row _ _ 0 _ _ _ hr4; have hr4_1 := cell_of_row _ _ 1 _ _ _ hr4; have hr4_f := (fun j => frozen_of_row _ _ j _ _ hr4); have hr4_l := lt_of_block hr4; simp at hr4_0 hr4_1; have H_hr4 := Lib.hid hr4; clear hr4
      go_wp2
      refine bodyPost_ret (v := .tuple #[.agg #[.slice aN k cN, .int .i64 m2], .int .i64 0]) (by simp [results, Try.results23, go_sem, hr4_0, hr4_1, hr4_f]) rfl ?_
      rw [HKK.out]
      have hm : Mod (fun i => i = b + 1 + 1) wr ((wr.setCell ⟨b + 1 + 1, 0, none⟩ (.slice aN k cN)).setCell ⟨b + 1 + 1, 1, none⟩ (.int .i64 m2)) := Mod.set2 _ _ _ _ _
      exact ⟨aN, cN, rfl, owns_mod HN.out hm (fun g hg h => by have := HFN.out g hg; omega), HPU.out.then hm (fun i hi h => by omega)⟩
end Go.Proofs.Ytbjiebhbmpafpaa
