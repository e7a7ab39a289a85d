/- birth.Counter; birth.Sorted, Rank, first over whatever has entries. -/
import Derived.Test.YtpafcocciggfpaaGreatLogA
import Derived.Test.YtpafcocciggfpaaGreatRange2
import Derived.Test.YtpafcocciggfpaaGreatField
import Derived.Test.YtpafcocciggfpaaGreatBits
import Derived.Test.YtpafcocciggfpaaGreatRegHeld
namespace Go.Proofs.YtpafcocciggfpaaGreat
open Go.RowKit Go.Shelf
set_option maxRecDepth 100000
attribute [local go_sem] Oper.semAt_some

/-! ### the counter -/
abbrev cPtr (b : Nat) : Value := .pointer (some ⟨b, 0, none⟩)
def Ctr (w : World) (b : Nat) (n : Nat) : Prop := w.heap[b]? = some (.cells #[.bool true, .int .u64 n] 179 (0, 0))
/-- A counter that is nil or zero. -/
def NilC (w : World) (v : Value) : Prop := v = .pointer none ∨ ∃ b, v = cPtr b ∧ w.heap[b]? = some (.cells #[.bool false, .int .u64 0] 179 (0, 0))
theorem NilC.pure {w w' : World} {v : Value} (h : NilC w v) (hp : Pure w w') : NilC w' v := by
  rcases h with h | ⟨b, h1, h2⟩
  · exact .inl h
  · exact .inr ⟨b, h1, hp.heap (fun h => h) h2⟩
theorem Ctr.pure {w w' : World} {b n : Nat} (h : Ctr w b n) (hp : Pure w w') : Ctr w' b n := hp.heap (fun h => h) h
theorem CNew_ok (n : Nat) (w : World) : Calls Tryz.prog 53 #[.int .u64 n] w fun e w' => e = .returned (cPtr w.heap.size) ∧ Ctr w' w.heap.size n ∧ Pure w w' ∧ w.heap.size < w'.heap.size := by
  go_enter Tryz.func53, Tryz.ntmps53
  go_wp2
  go_ret
  exact ⟨rfl, heap_new rfl, (Mod.refl _ w).alloc _, by simp⟩
theorem CZero_ok {w : World} {b n : Nat} (h : Ctr w b n) : Calls Tryz.prog 119 #[cPtr b] w fun e w' => e = .returned (.bool false) ∧ w = w' := by
  unfold Ctr at h
  have h_0 := cell_of_row _ _ 0 _ _ _ h; have h_1 := cell_of_row _ _ 1 _ _ _ h; have h_f := (fun j => frozen_of_row _ _ j _ _ h); have h_l := lt_of_block h; simp at h_0 h_1; have H_h := Lib.hid h; clear h
  go_enter Tryz.func119, Tryz.ntmps119
  go_wp2
  go_ret
  exact ⟨rfl, rfl⟩
theorem CZero_nil {w : World} {v : Value} (h : NilC w v) : Calls Tryz.prog 119 #[v] w fun e w' => e = .returned (.bool true) ∧ w = w' := by
  rcases h with rfl | ⟨b, rfl, h⟩
  · go_enter Tryz.func119, Tryz.ntmps119
    go_wp2
    go_ret
    exact ⟨rfl, rfl⟩
  · have h_0 := cell_of_row _ _ 0 _ _ _ h; have h_1 := cell_of_row _ _ 1 _ _ _ h; have h_f := (fun j => frozen_of_row _ _ j _ _ h); have h_l := lt_of_block h; simp at h_0 h_1; have H_h := Lib.hid h; clear h
    go_enter Tryz.func119, Tryz.ntmps119
    go_wp2
    go_ret
    exact ⟨rfl, rfl⟩
theorem CLast_ok {w : World} {b n : Nat} (h : Ctr w b n) : Calls Tryz.prog 118 #[cPtr b] w fun e w' => e = .returned (.int .u64 n) ∧ w = w' := by
  have HZ := Lib.hid (CZero_ok h)
  unfold Ctr at h
  have h_0 := cell_of_row _ _ 0 _ _ _ h; have h_1 := cell_of_row _ _ 1 _ _ _ h; have h_f := (fun j => frozen_of_row _ _ j _ _ h); have h_l := lt_of_block h; simp at h_0 h_1; have H_h := Lib.hid h; clear h
  go_enter Tryz.func118, Tryz.ntmps118
  go_wp2_with (go_at_call 119; refine Calls.mono HZ.out ?_; rintro e w' ⟨rfl, rfl⟩)
  go_ret
  exact ⟨rfl, rfl⟩
theorem CLast_nil {w : World} {v : Value} (h : NilC w v) : Calls Tryz.prog 118 #[v] w fun e w' => e = .returned (.int .u64 0) ∧ w = w' := by
  have HZ := Lib.hid (CZero_nil h)
  clear h
  go_enter Tryz.func118, Tryz.ntmps118
  go_wp2_with (go_at_call 119; refine Calls.mono HZ.out ?_; rintro e w' ⟨rfl, rfl⟩)
  go_ret
  exact ⟨rfl, rfl⟩
/-- The number that is given after one, and the error. -/
def nxV (n : Nat) : Nat × Nat := if n = 18446744073709551615 then (0, 7) else (n + 1, 0)
def nxS (n : Nat) : Nat := if n = 18446744073709551615 then n else n + 1
def nextPost (w : World) (b n : Nat) (e : Ending) (w' : World) : Prop :=
  e = .returned (.tuple #[.int .u64 ((nxV n).1 : Nat), .int .i64 ((nxV n).2 : Nat)]) ∧ Ctr w' b (nxS n) ∧ Mod (fun k => k = b) w w'
theorem CNext_ok {w : World} {b n : Nat} (h : Ctr w b n) (hn : n < 18446744073709551616) : Calls Tryz.prog 54 #[cPtr b] w (nextPost w b n) := by
  have HZ := Lib.hid (CZero_ok h)
  unfold Ctr at h
  have h_0 := cell_of_row _ _ 0 _ _ _ h; have h_1 := cell_of_row _ _ 1 _ _ _ h; have h_f := (fun j => frozen_of_row _ _ j _ _ h); have h_l := lt_of_block h; simp at h_0 h_1; have H_h := Lib.hid h; clear h
  unfold nextPost nxV nxS
  by_cases hc : n = 18446744073709551615
  · rw [if_pos hc, if_pos hc]
    have d1 : ((n : Int) == 18446744073709551615) = true := by simp; omega
    clear hc hn
    go_enter Tryz.func54, Tryz.ntmps54
    go_wp2_with (go_at_call 119; refine Calls.mono HZ.out ?_; rintro e w' ⟨rfl, rfl⟩)
    go_ret2
    exact ⟨rfl, H_h.out, Mod.refl _ _⟩
  · rw [if_neg hc, if_neg hc]
    have d1 : ((n : Int) == 18446744073709551615) = false := by simp; omega
    have wn : IntKind.u64.wrap ((n : Int) + 1) = (n : Int) + 1 := by
      have := u64_wrap (n + 1) (by omega)
      rw [show (((n + 1 : Nat)) : Int) = (n : Int) + 1 by omega] at this
      exact this
    have hc2 : (n : Int) ≠ 18446744073709551615 := by omega
    clear hc hn
    go_enter Tryz.func54, Tryz.ntmps54
    go_wp2_with (go_at_call 119; refine Calls.mono HZ.out ?_; rintro e w' ⟨rfl, rfl⟩)
    go_ret2
    refine ⟨by simp, ?_, Mod.set1 _ _ _⟩
    have := heap_set1 (j := 1) (v := .int .u64 ((n : Int) + 1)) H_h.out
    simpa [Ctr] using this
theorem CNext_nil {w : World} {v : Value} (h : NilC w v) : Calls Tryz.prog 54 #[v] w fun e w' => e = .returned (.tuple #[.int .u64 0, .int .i64 1]) ∧ w = w' := by
  have HZ := Lib.hid (CZero_nil h)
  clear h
  go_enter Tryz.func54, Tryz.ntmps54
  go_wp2_with (go_at_call 119; refine Calls.mono HZ.out ?_; rintro e w' ⟨rfl, rfl⟩)
  go_ret2
  exact ⟨rfl, rfl⟩

/-! ### the entries in order -/
/-- v is something whose entries are those of L. -/
def AllOf (w : World) (v : Value) (L : List (Option Ent)) : Prop := ∀ W, Pure w W → Calls Tryz.prog 39 #[v] W (allA W L)
theorem AllOf.pure {w w' : World} {v : Value} {L : List (Option Ent)} (h : AllOf w v L) (hp : Pure w w') : AllOf w' v L := fun W hW => h W (hp.trans hW)
theorem iter_not {w3 : World} {B : Nat} {sv : Value} {M : List (Option Ent × Value)} (hit : IterAt w3 B sv M) {N k : Nat} {cs : Array Value} {T : TypeId} {fz : Nat × Nat} (hB : N ≤ B) (hfr : ∀ g, sv.ownBlock = some g → N ≤ g) (hk : k < N)
    (hb : w3.heap[k]? = some (.cells cs T fz)) (hT : T ≠ 5) : ¬ iterBlocks B sv M k := by
  rintro (h | h | ⟨e, v, hm, h⟩)
  · omega
  · have := hfr _ h; omega
  · obtain ⟨cc, e2⟩ := owns_type (hit.vals e v hm) h
    rw [hb] at e2; cases e2; exact hT rfl
def sortedF (last : Int) : List (Nat × Ent) → Bool
  | [] => true
  | g :: r => if g.2.birth ≤ last then false else sortedF g.2.birth r
def lastB (pre : List (Nat × Ent)) : Int := pre.foldl (fun _ g => g.2.birth) 0
theorem lastB_snoc (pre : List (Nat × Ent)) (g : Nat × Ent) : lastB (pre ++ [g]) = g.2.birth := by unfold lastB; rw [List.foldl_append]; rfl
structure SInv (w : World) (pre : List Given) (W : World) : Prop where
  r2 : W.heap[w.heap.size]? = some (.cells #[.bool false] 4 (0, 0))
  r3 : W.heap[w.heap.size + 1]? = some (.cells #[.int .u64 (lastB (pre.map keyG))] 22 (0, 0))
  pu : Pure w W
  so : ∀ r, sortedF 0 (pre.map keyG ++ r) = sortedF (lastB (pre.map keyG)) r
theorem SInv.quiet {w : World} {pre : List Given} {A B : World} (h : SInv w pre A) {N : Nat} (hN : w.heap.size ≤ N) (hq : Quiet N A B) : SInv w pre B := ⟨hq.cells h.r2, hq.cells h.r3, hq.mod h.pu hN, h.so⟩
set_option maxHeartbeats 1000000 in
theorem Sorted_ok {w : World} {v : Value} {L : List (Option Ent)} (h : AllOf w v L) : Calls Tryz.prog 56 #[v] w fun e w' => e = .returned (.bool (sortedF 0 (live L))) ∧ Pure w w' := by
  have HL := Lib.hid h
  clear h
  (refine (callsIn_wide (n := 0)).1 (callsIn_of_wp_marks Tryz.func56 rfl trivial (wpIn_wide.2 ?_) rfl); simp only [Tryz.ntmps56, List.size_toArray, List.length_cons, List.length_nil, Nat.reduceAdd, Nat.reduceSub, Array.replicate_succ, Array.replicate_zero, List.push_toArray, List.append_toArray, List.nil_append, List.cons_append])
  go_upto_region 2 with fail
  have h2 := heap_keep (o := .cells #[.int .u64 0] 22) (heap_new (w := w) (o := .cells #[.bool false] 4 (0, 0)) rfl)
  have h3 := heap_new (w := w.alloc (.cells #[.bool false] 4)) (o := .cells #[.int .u64 0] 22 (0, 0)) (n := w.heap.size + 1) (by simp)
  have hp0 : Pure w ((w.alloc (.cells #[.bool false] 4)).alloc (.cells #[.int .u64 0] 22)) := ((Mod.refl _ w).alloc _).alloc _
  generalize ((w.alloc (.cells #[.bool false] 4)).alloc (.cells #[.int .u64 0] 22)) = W1 at *
  have HA := Lib.hid (HL.out W1 hp0)
  go_wp2_with (go_at_call 39; refine Calls.mono HA.out ?_; rintro e w3 ⟨M, B, a, c, rfl, rfl, hit, hp3, hB, hfr⟩)
  have HIT := Lib.hid hit
  have hItlt : ∀ k, iterBlocks B (.slice a M.length c) M k → k < w3.heap.size := by
    rintro k (rfl | h | ⟨e, v, hm, h⟩)
    · exact lt_of_block hit.box
    · exact owns_lt hit.row h
    · exact owns_lt (hit.vals e v hm) h
  have hI0 : SInv w [] w3 := ⟨hp3.heap (fun h => h) h2, hp3.heap (fun h => h) h3, hp0.trans hp3, fun r => rfl⟩
  have hw3 : w.heap.size + 1 < w3.heap.size := lt_of_block hI0.r3
  have hw1 : w.heap.size + 1 < W1.heap.size := lt_of_block h3
  have n2 := Lib.hid (iter_not hit hB hfr (by omega) hI0.r2 (by decide))
  have n3 := Lib.hid (iter_not hit hB hfr (by omega) hI0.r3 (by decide))
  clear hit hp3 hB hfr h2 h3 hp0 HA HL
  generalize hItd : iterBlocks B (.slice a M.length c) M = It at *
  refine wpIn_wide.1 (wp_range2 (gf := 149) (lb := #[.pointer (some ⟨B, 0, none⟩)]) rfl (enters_of Tryz.func149 (by kernel_rfl) rfl) (It := It) (hItd ▸ All_iter HIT.out w3.heap.size (Nat.le_refl _)) hItlt (fun _ => rfl)
    (fun pre W => SInv w pre W ∧ w3.heap.size ≤ W.heap.size) (fun cd pre W => cd = .ret ∧ W.heap[w.heap.size]? = some (.cells #[.bool false] 4 (0, 0)) ∧ sortedF 0 (live (M.map Prod.fst)) = false ∧ Pure w W) ?hI ?hIx ⟨hI0, Nat.le_refl _⟩ ?round ?done ?stop)
  case hI => exact fun pre A B ⟨h, hz⟩ hq => ⟨h.quiet (by omega) hq, Nat.le_trans hz (Mod.size hq)⟩
  case hIx => exact fun cd pre A B ⟨h1, h2, h3, h4⟩ hq => ⟨h1, hq.cells h2, h3, hq.mod h4 (by omega)⟩
  case stop =>
    rintro l cd pre W hl ⟨rfl, h1, h2, h3⟩ hK
    have hq : Quiet w3.heap.size _ _ := Quiet.putObj (.deferred none) hl hK rfl
    have y6 := cell_of_row _ _ 0 _ _ _ (hq.cells h1)
    simp at y6
    refine wpIn_wide.2 ?_
    go_wp2
    exact bodyPostM_drained (v := .bool false) hK (by simp [results, Tryz.results56, go_sem, y6]) ⟨by rw [h2], hq.mod h3 (by omega)⟩
  case done =>
    rintro l xs W hl hS ⟨hI, hWs⟩ hK
    have hs := hI.so []
    rw [List.append_nil, show xs.map keyG = live (M.map Prod.fst) from hS] at hs
    have z6 := hI.r2
    have HI := Lib.hid hI
    have HS := Lib.hid hs
    have HWS := Lib.hid hWs
    clear hI hI0 hItlt hs hS hWs
    have z6_0 := cell_of_row _ _ 0 _ _ _ z6; have z6_f := (fun j => frozen_of_row _ _ j _ _ z6); have z6_l := lt_of_block z6; simp at z6_0; have H_z6 := Lib.hid z6; clear z6
    go_wp2
    have hm : Mod (fun k => k = w.heap.size) W (W.setCell ⟨w.heap.size, 0, none⟩ (.bool true)) := Mod.set1 _ _ _
    have hk := hm.heap (by omega) hK
    have hq : Quiet w3.heap.size _ _ := Quiet.putObj (.deferred none) hl hk rfl
    have y6 := cell_of_row _ _ 0 _ _ _ (hq.cells (heap_set1 (j := 0) (v := .bool true) H_z6.out))
    simp at y6
    exact bodyPostM_drained (v := .bool true) hk (by simp [results, Tryz.results56, go_sem, y6]) ⟨by rw [HS.out]; rfl, hq.mod (HI.out.pu.then hm (fun i hi e => by omega)) (by omega)⟩
  case round =>
    rintro l pre ⟨i, x, v⟩ W K ⟨hI, hWs⟩ hG hK
    obtain ⟨va, vc, hv, _⟩ := owns_form hG.2.1
    dsimp only at hv
    subst hv
    dsimp only [encG]
    obtain ⟨⟨post, hpost⟩, _, _⟩ := hG
    have HPO := Lib.hid hpost
    have HCI := Lib.hid hI; have HK := Lib.hid hK
    clear hI hK hI0 HIT hItlt hpost
    gi_wp2
    have hP : Pure W (W.alloc (.cells #[.string x.key, .slice va (bytesOf x.val).length vc, .int .u64 x.dl, .int .u64 x.birth] 42)) := (Mod.refl _ W).alloc _
    have z5 := heap_new (w := W) (o := .cells #[.string x.key, .slice va (bytesOf x.val).length vc, .int .u64 x.dl, .int .u64 x.birth] 42 (0, 0)) rfl
    refine HK.out _ _ hP (fun l' W2 hl hr hq => ?_)
    replace HCI := Lib.hid ((HCI.out.quiet (N := w3.heap.size) (by omega) (Quiet.of_pure hP)).quiet (by omega) hq)
    have zz5 := hq.cells z5
    have hsz2 : w3.heap.size ≤ W2.heap.size := by have := Mod.size hq; have := hP.size; omega
    have hpre : ∀ r, sortedF 0 ((pre ++ [(i, x, Value.slice va (bytesOf x.val).length vc)]).map keyG ++ r) = sortedF (lastB (pre.map keyG)) ((i, x) :: r) := fun r => by
      have := HCI.out.so ((i, x) :: r)
      rw [← this]
      simp [keyG]
    have hlast : lastB ((pre ++ [(i, x, Value.slice va (bytesOf x.val).length vc)]).map keyG) = x.birth := by
      rw [List.map_append]
      exact lastB_snoc _ _
    have HPR := Lib.hid hpre; have HLA := Lib.hid hlast
    clear HK hP hq z5 hpre hlast
    generalize W.heap.size = b5 at zz5 ⊢
    have r2 := HCI.out.r2; have r3 := HCI.out.r3
    generalize lastB (pre.map keyG) = lb at *
    have zz5_0 := cell_of_row _ _ 0 _ _ _ zz5; have zz5_1 := cell_of_row _ _ 1 _ _ _ zz5; have zz5_2 := cell_of_row _ _ 2 _ _ _ zz5; have zz5_3 := cell_of_row _ _ 3 _ _ _ zz5; have zz5_f := (fun j => frozen_of_row _ _ j _ _ zz5); have zz5_l := lt_of_block zz5; simp at zz5_0 zz5_1 zz5_2 zz5_3; have H_zz5 := Lib.hid zz5; clear zz5
    have r2_0 := cell_of_row _ _ 0 _ _ _ r2; have r2_f := (fun j => frozen_of_row _ _ j _ _ r2); have r2_l := lt_of_block r2; simp at r2_0; have H_r2 := Lib.hid r2; clear r2
    have r3_0 := cell_of_row _ _ 0 _ _ _ r3; have r3_f := (fun j => frozen_of_row _ _ j _ _ r3); have r3_l := lt_of_block r3; simp at r3_0; have H_r3 := Lib.hid r3; clear r3
    by_cases hc : x.birth ≤ lb
    · have d1 : decide (x.birth ≤ lb) = true := decide_eq_true hc
      gi_wp2
      have hm : Mod (fun k => k = w.heap.size) W2 (W2.setCell ⟨w.heap.size, 0, none⟩ (.bool false)) := Mod.set1 _ _ _
      refine ⟨KeepsRec.of_mod hm (fun k hk h => by omega), rfl, heap_set1 (j := 0) H_r2.out, ?_, HCI.out.pu.then hm (fun k hk h => by omega)⟩
      rw [HPO.out]
      have := HPR.out post
      rw [List.map_append] at this
      simp only [List.map_cons, List.map_nil, List.append_assoc, List.cons_append, List.nil_append] at this
      rw [this]
      simp [sortedF, hc]
    · have d1 : decide (x.birth ≤ lb) = false := decide_eq_false hc
      gi_wp2
      have hm : Mod (fun k => k = w.heap.size + 1) W2 (W2.setCell ⟨w.heap.size + 1, 0, none⟩ (.int .u64 x.birth)) := Mod.set1 _ _ _
      refine ⟨KeepsRec.of_mod hm (fun k hk h => by omega), KeepsIt.of_mod hm (fun k hk h => by subst h; exact n3.out hk), ⟨hm.heap (by omega) H_r2.out, ?_, HCI.out.pu.then hm (fun k hk h => by omega), fun r => ?_⟩, Nat.le_trans hsz2 hm.size⟩
      · rw [HLA.out]
        exact heap_set1 (j := 0) H_r3.out
      · rw [HPR.out, HLA.out]
        simp [sortedF, hc]

/-! ### Rank -/
def NotZ (w : World) (v : Value) : Prop := ∀ W, Pure w W → Calls Tryz.prog 122 #[v] W fun e w' => e = .returned (.bool false) ∧ Pure W w'
def IsZ (w : World) (v : Value) : Prop := ∀ W, Pure w W → Calls Tryz.prog 122 #[v] W fun e w' => e = .returned (.bool true) ∧ Pure W w'
def rankL (G : List (Nat × Ent)) (b : Int) : Nat := G.countP (fun g => decide (g.2.birth < b))
theorem rankL_le (G : List (Nat × Ent)) (b : Int) : rankL G b ≤ G.length := List.countP_le_length
structure RInv (w : World) (b : Int) (b6 : Nat) (pre : List Given) (W : World) : Prop where
  r3 : W.heap[w.heap.size]? = some (.cells #[.int .u64 b] 22 (0, 0))
  r6 : W.heap[b6]? = some (.cells #[.int .i64 (rankL (pre.map keyG) b)] 3 (0, 0))
  pu : Pure w W
  w6 : w.heap.size < b6
theorem RInv.quiet {w : World} {b : Int} {b6 : Nat} {pre : List Given} {A B : World} (h : RInv w b b6 pre A) {N : Nat} (hN : w.heap.size ≤ N) (hq : Quiet N A B) : RInv w b b6 pre B := ⟨hq.cells h.r3, hq.cells h.r6, hq.mod h.pu hN, h.w6⟩
set_option maxHeartbeats 1000000 in
theorem Rank_ok {w : World} {v : Value} {L : List (Option Ent)} (h : AllOf w v L) (hz : NotZ w v) (b : Int) : Calls Tryz.prog 121 #[v, .int .u64 b] w fun e w' => e = .returned (.tuple #[.int .i64 (rankL (live L) b), .int .i64 0]) ∧ Pure w w' := by
  have HL := Lib.hid h
  have hp0 : Pure w (w.alloc (.cells #[.int .u64 b] 22)) := (Mod.refl _ w).alloc _
  have h3 := heap_new (w := w) (o := .cells #[.int .u64 b] 22 (0, 0)) rfl
  have HZ := Lib.hid (hz _ hp0)
  have HP0 := Lib.hid hp0
  clear h hz hp0
  (refine (callsIn_wide (n := 0)).1 (callsIn_of_wp_marks Tryz.func121 rfl trivial (wpIn_wide.2 ?_) rfl); simp only [Tryz.ntmps121, List.size_toArray, List.length_cons, List.length_nil, Nat.reduceAdd, Nat.reduceSub, Array.replicate_succ, Array.replicate_zero, List.push_toArray, List.append_toArray, List.nil_append, List.cons_append])
  go_upto_region 1 with fail
  generalize w.alloc (.cells #[.int .u64 b] 22) = W1 at *
  go_upto_region 3 with (go_at_call 122; refine Calls.mono HZ.out ?_; rintro e w2 ⟨rfl, hp2⟩)
  go_upto_region 4 with fail
  have h6 := heap_new (w := w2) (o := .cells #[.int .i64 0] 3 (0, 0)) rfl
  have hp3 : Pure w2 (w2.alloc (.cells #[.int .i64 0] 3)) := (Mod.refl _ w2).alloc _
  have h3' := (hp2.trans hp3).heap (fun h => h) h3
  have hp4 := (HP0.out.trans hp2).trans hp3
  have hb6 : w.heap.size < w2.heap.size := Nat.lt_of_lt_of_le (lt_of_block h3) hp2.size
  clear h3 hp2 hp3 HZ HP0
  generalize w2.alloc (.cells #[.int .i64 0] 3) = W3 at *
  generalize w2.heap.size = b6 at *
  have hl6 := lt_of_block h6
  have HA := Lib.hid (HL.out W3 hp4)
  go_wp2_with (go_at_call 39; refine Calls.mono HA.out ?_; rintro e w3 ⟨M, B, a, c, rfl, rfl, hit, hp3, hB, hfr⟩)
  have HIT := Lib.hid hit
  have hItlt : ∀ k, iterBlocks B (.slice a M.length c) M k → k < w3.heap.size := by
    rintro k (rfl | h | ⟨e, v, hm, h⟩)
    · exact lt_of_block hit.box
    · exact owns_lt hit.row h
    · exact owns_lt (hit.vals e v hm) h
  have hI0 : RInv w b b6 [] w3 := ⟨hp3.heap (fun h => h) h3', hp3.heap (fun h => h) h6, hp4.trans hp3, hb6⟩
  have hw3 : b6 < w3.heap.size := lt_of_block hI0.r6
  have n6 := Lib.hid (iter_not hit hB hfr (by omega) hI0.r6 (by decide))
  clear hit hp3 hB hfr h3' h6 hp4 HA HL
  generalize hItd : iterBlocks B (.slice a M.length c) M = It at *
  refine wpIn_wide.1 (wp_range2 (gf := 149) (lb := #[.pointer (some ⟨B, 0, none⟩)]) rfl (enters_of Tryz.func149 (by kernel_rfl) rfl) (It := It) (hItd ▸ All_iter HIT.out w3.heap.size (Nat.le_refl _)) hItlt (fun _ => rfl)
    (fun pre W => RInv w b b6 pre W ∧ w3.heap.size ≤ W.heap.size) (fun _ _ _ => False) ?hI ?hIx ⟨hI0, Nat.le_refl _⟩ ?round ?done ?stop)
  case hI => exact fun pre A B ⟨h, hz⟩ hq => ⟨h.quiet (by omega) hq, Nat.le_trans hz (Mod.size hq)⟩
  case hIx => exact fun _ _ _ _ h _ => h
  case stop => exact fun _ _ _ _ _ h _ => h.elim
  case done =>
    rintro l xs W hl hS ⟨hI, hWs⟩ hK
    have z6 := hI.r6
    rw [show xs.map keyG = live (M.map Prod.fst) from hS] at z6
    have HI := Lib.hid hI
    have HWS := Lib.hid hWs
    clear hI hI0 hItlt hS hWs
    obtain ⟨r, hr⟩ : ∃ r, rankL (live (M.map Prod.fst)) b = r := ⟨_, rfl⟩
    rw [hr] at z6
    have HR := Lib.hid hr
    clear hr
    have hq : Quiet w3.heap.size _ _ := Quiet.putObj (.deferred none) hl hK rfl
    have z6_0 := cell_of_row _ _ 0 _ _ _ z6; have z6_f := (fun j => frozen_of_row _ _ j _ _ z6); have z6_l := lt_of_block z6; simp at z6_0; have H_z6 := Lib.hid z6; clear z6
    go_wp2
    exact bodyPostM_drained (v := .tuple #[.int .i64 r, .int .i64 0]) hK (by simp [results, Tryz.results121, go_sem]) ⟨by rw [HR.out], hq.mod HI.out.pu (by omega)⟩
  case round =>
    rintro l pre ⟨i, x, v⟩ W K ⟨hI, hWs⟩ hG hK
    obtain ⟨va, vc, hv, _⟩ := owns_form hG.2.1
    dsimp only at hv
    subst hv
    dsimp only [encG]
    obtain ⟨⟨post, hpost⟩, _, _⟩ := hG
    have hpl : pre.length ≤ 4194304 := by have := Nat.le_trans (live_length _) HIT.out.ok.len; rw [hpost] at this; simp at this; omega
    have HCI := Lib.hid hI; have HK := Lib.hid hK
    clear hI hK hI0 HIT hItlt hpost
    gi_wp2
    have hP : Pure W (W.alloc (.cells #[.string x.key, .slice va (bytesOf x.val).length vc, .int .u64 x.dl, .int .u64 x.birth] 42)) := (Mod.refl _ W).alloc _
    have z5 := heap_new (w := W) (o := .cells #[.string x.key, .slice va (bytesOf x.val).length vc, .int .u64 x.dl, .int .u64 x.birth] 42 (0, 0)) rfl
    refine HK.out _ _ hP (fun l' W2 hl hr hq => ?_)
    replace HCI := Lib.hid ((HCI.out.quiet (N := w3.heap.size) (by omega) (Quiet.of_pure hP)).quiet (by omega) hq)
    have zz5 := hq.cells z5
    have hsz2 : w3.heap.size ≤ W2.heap.size := by have := Mod.size hq; have := hP.size; omega
    have hnext : rankL ((pre ++ [(i, x, Value.slice va (bytesOf x.val).length vc)]).map keyG) b = rankL (pre.map keyG) b + (if x.birth < b then 1 else 0) := by
      unfold rankL
      rw [List.map_append, List.countP_append]
      simp [keyG]
    have hrl : rankL (pre.map keyG) b ≤ 4194304 := by have := rankL_le (pre.map keyG) b; rw [List.length_map] at this; omega
    have HN := Lib.hid hnext
    clear HK hP hq z5 hnext
    generalize W.heap.size = b8 at zz5 ⊢
    have r3 := HCI.out.r3; have r6 := HCI.out.r6
    have hw6 := HCI.out.w6
    generalize rankL (pre.map keyG) b = r at *
    have wr : IntKind.i64.wrap ((r : Int) + 1) = (r : Int) + 1 := IntWalk.i64_in _ (by omega)
    have zz5_0 := cell_of_row _ _ 0 _ _ _ zz5; have zz5_1 := cell_of_row _ _ 1 _ _ _ zz5; have zz5_2 := cell_of_row _ _ 2 _ _ _ zz5; have zz5_3 := cell_of_row _ _ 3 _ _ _ zz5; have zz5_f := (fun j => frozen_of_row _ _ j _ _ zz5); have zz5_l := lt_of_block zz5; simp at zz5_0 zz5_1 zz5_2 zz5_3; have H_zz5 := Lib.hid zz5; clear zz5
    have r3_0 := cell_of_row _ _ 0 _ _ _ r3; have r3_f := (fun j => frozen_of_row _ _ j _ _ r3); have r3_l := lt_of_block r3; simp at r3_0; have H_r3 := Lib.hid r3; clear r3
    have r6_0 := cell_of_row _ _ 0 _ _ _ r6; have r6_f := (fun j => frozen_of_row _ _ j _ _ r6); have r6_l := lt_of_block r6; simp at r6_0; have H_r6 := Lib.hid r6; clear r6
    by_cases hc : x.birth < b
    · have d1 : decide (x.birth < b) = true := decide_eq_true hc
      have hn := HN.out
      rw [if_pos hc] at hn
      have HNN := Lib.hid hn
      clear hn
      gi_wp2
      have hm : Mod (fun k => k = b6) W2 (W2.setCell ⟨b6, 0, none⟩ (.int .i64 ((r : Int) + 1))) := Mod.set1 _ _ _
      refine ⟨KeepsRec.of_mod hm (fun k hk h => by omega), KeepsIt.of_mod hm (fun k hk h => by subst h; exact n6.out hk), ⟨hm.heap (by omega) H_r3.out, ?_, HCI.out.pu.then hm (fun k hk h => by omega), hw6⟩, Nat.le_trans hsz2 hm.size⟩
      rw [HNN.out]
      have := heap_set1 (j := 0) (v := .int .i64 ((r : Int) + 1)) H_r6.out
      simpa using this
    · have d1 : decide (x.birth < b) = false := decide_eq_false hc
      have hn := HN.out
      rw [if_neg hc] at hn
      have HNN := Lib.hid hn
      clear hn
      gi_wp2
      refine ⟨KeepsRec.of_mod (S := fun _ => False) (Mod.refl _ _) (fun k hk h => h.elim), KeepsIt.of_mod (S := fun _ => False) (Mod.refl _ _) (fun k hk h => h), ⟨H_r3.out, ?_, HCI.out.pu, hw6⟩, hsz2⟩
      rw [HNN.out]
      exact H_r6.out

/-! ### first -/
/-- The entry with the least birth from one to another one, as far as one has gone. -/
def firstS (fr up : Int) (o : Option (Nat × Int)) (g : Nat × Ent) : Option (Nat × Int) :=
  if fr ≤ g.2.birth then (if g.2.birth ≤ up then (match o with
    | none => some (g.1, g.2.birth)
    | some x => if g.2.birth < x.2 then some (g.1, g.2.birth) else some x) else o) else o
def firstM (fr up : Int) (G : List (Nat × Ent)) : Option (Nat × Int) := G.foldl (firstS fr up) none
theorem firstM_snoc (fr up : Int) (G : List (Nat × Ent)) (g : Nat × Ent) : firstM fr up (G ++ [g]) = firstS fr up (firstM fr up G) g := by unfold firstM; rw [List.foldl_append]; rfl
def slotO (o : Option (Nat × Int)) : Nat := match o with | some x => x.1 | none => 0
def leastO (o : Option (Nat × Int)) : Int := match o with | some x => x.2 | none => 0
def firstV (o : Option (Nat × Int)) : Value := .tuple #[.int .u32 (slotO o : Nat), .bool o.isSome]
structure FInv (w : World) (fr up : Int) (b8 : Nat) (pre : List Given) (W : World) : Prop where
  r4 : W.heap[w.heap.size]? = some (.cells #[.int .u64 fr] 22 (0, 0))
  r5 : W.heap[w.heap.size + 1]? = some (.cells #[.int .u64 up] 22 (0, 0))
  r8 : W.heap[b8]? = some (.cells #[.int .u32 (slotO (firstM fr up (pre.map keyG)) : Nat)] 43 (0, 0))
  r9 : W.heap[b8 + 1]? = some (.cells #[.int .u64 (leastO (firstM fr up (pre.map keyG)))] 22 (0, 0))
  r10 : W.heap[b8 + 1 + 1]? = some (.cells #[.bool (firstM fr up (pre.map keyG)).isSome] 4 (0, 0))
  pu : Pure w W
  w8 : w.heap.size + 1 < b8
theorem FInv.quiet {w : World} {fr up : Int} {b8 : Nat} {pre : List Given} {A B : World} (h : FInv w fr up b8 pre A) {N : Nat} (hN : w.heap.size ≤ N) (hq : Quiet N A B) : FInv w fr up b8 pre B := ⟨hq.cells h.r4, hq.cells h.r5, hq.cells h.r8, hq.cells h.r9, hq.cells h.r10, hq.mod h.pu hN, h.w8⟩
set_option maxHeartbeats 2000000 in
theorem first_ok {w : World} {d : Nat} {L : List (Option Ent)} (v : Value) (h : AllOf w v L) (fr up : Int) : Calls Tryz.prog 123 #[.iface 24 v, .int .u64 fr, .int .u64 up] w fun e w' => e = .returned (firstV (firstM fr up (live L))) ∧ Pure w w' := by
  have HL := Lib.hid h
  clear h
  (refine (callsIn_wide (n := 0)).1 (callsIn_of_wp_marks Tryz.func123 rfl trivial (wpIn_wide.2 ?_) rfl); simp only [Tryz.ntmps123, List.size_toArray, List.length_cons, List.length_nil, Nat.reduceAdd, Nat.reduceSub, Array.replicate_succ, Array.replicate_zero, List.push_toArray, List.append_toArray, List.nil_append, List.cons_append])
  go_upto_region 2 with fail
  have h4 := heap_keep (o := .cells #[.bool false] 4) (heap_keep (o := .cells #[.int .u64 0] 22) (heap_keep (o := .cells #[.int .u32 0] 43) (heap_keep (o := .cells #[.int .u64 up] 22) (heap_new (w := w) (o := .cells #[.int .u64 fr] 22 (0, 0)) rfl))))
  have h5 := heap_keep (o := .cells #[.bool false] 4) (heap_keep (o := .cells #[.int .u64 0] 22) (heap_keep (o := .cells #[.int .u32 0] 43) (heap_new (w := w.alloc (.cells #[.int .u64 fr] 22)) (o := .cells #[.int .u64 up] 22 (0, 0)) (n := w.heap.size + 1) (by simp))))
  have h8 := heap_keep (o := .cells #[.bool false] 4) (heap_keep (o := .cells #[.int .u64 0] 22) (heap_new (w := (w.alloc (.cells #[.int .u64 fr] 22)).alloc (.cells #[.int .u64 up] 22)) (o := .cells #[.int .u32 0] 43 (0, 0)) (n := w.heap.size + 1 + 1) (by simp)))
  have h9 := heap_keep (o := .cells #[.bool false] 4) (heap_new (w := ((w.alloc (.cells #[.int .u64 fr] 22)).alloc (.cells #[.int .u64 up] 22)).alloc (.cells #[.int .u32 0] 43)) (o := .cells #[.int .u64 0] 22 (0, 0)) (n := w.heap.size + 1 + 1 + 1) (by simp))
  have h10 := heap_new (w := (((w.alloc (.cells #[.int .u64 fr] 22)).alloc (.cells #[.int .u64 up] 22)).alloc (.cells #[.int .u32 0] 43)).alloc (.cells #[.int .u64 0] 22)) (o := .cells #[.bool false] 4 (0, 0)) (n := w.heap.size + 1 + 1 + 1 + 1) (by simp)
  have hp0 : Pure w (((((w.alloc (.cells #[.int .u64 fr] 22)).alloc (.cells #[.int .u64 up] 22)).alloc (.cells #[.int .u32 0] 43)).alloc (.cells #[.int .u64 0] 22)).alloc (.cells #[.bool false] 4)) := (((((Mod.refl _ w).alloc _).alloc _).alloc _).alloc _).alloc _
  generalize (((((w.alloc (.cells #[.int .u64 fr] 22)).alloc (.cells #[.int .u64 up] 22)).alloc (.cells #[.int .u32 0] 43)).alloc (.cells #[.int .u64 0] 22)).alloc (.cells #[.bool false] 4)) = W1 at *
  obtain ⟨b8, hb8⟩ : ∃ b8, w.heap.size + 1 + 1 = b8 := ⟨_, rfl⟩
  rw [hb8] at h8 h9 h10 ⊢
  have hb8' : w.heap.size + 1 < b8 := by omega
  clear hb8
  have HA := Lib.hid (HL.out W1 hp0)
  go_wp2_with (go_at_call 39; refine Calls.mono HA.out ?_; rintro e w3 ⟨M, B, a, c, rfl, rfl, hit, hp3, hB, hfr⟩)
  have HIT := Lib.hid hit
  have hItlt : ∀ k, iterBlocks B (.slice a M.length c) M k → k < w3.heap.size := by
    rintro k (rfl | h | ⟨e, v, hm, h⟩)
    · exact lt_of_block hit.box
    · exact owns_lt hit.row h
    · exact owns_lt (hit.vals e v hm) h
  have hI0 : FInv w fr up b8 [] w3 := ⟨hp3.heap (fun h => h) h4, hp3.heap (fun h => h) h5, hp3.heap (fun h => h) h8, hp3.heap (fun h => h) h9, hp3.heap (fun h => h) h10, hp0.trans hp3, hb8'⟩
  have hw1 : b8 + 1 + 1 < W1.heap.size := lt_of_block h10
  have hw3 : b8 + 1 + 1 < w3.heap.size := lt_of_block hI0.r10
  have n8 := Lib.hid (iter_not hit hB hfr (by omega) hI0.r8 (by decide))
  have n9 := Lib.hid (iter_not hit hB hfr (by omega) hI0.r9 (by decide))
  have n10 := Lib.hid (iter_not hit hB hfr (by omega) hI0.r10 (by decide))
  clear hit hp3 hB hfr h4 h5 h8 h9 h10 hp0 HA HL
  generalize hItd : iterBlocks B (.slice a M.length c) M = It at *
  refine wpIn_wide.1 (wp_range2 (gf := 149) (lb := #[.pointer (some ⟨B, 0, none⟩)]) rfl (enters_of Tryz.func149 (by kernel_rfl) rfl) (It := It) (hItd ▸ All_iter HIT.out w3.heap.size (Nat.le_refl _)) hItlt (fun _ => rfl)
    (fun pre W => FInv w fr up b8 pre W ∧ w3.heap.size ≤ W.heap.size) (fun _ _ _ => False) ?hI ?hIx ⟨hI0, Nat.le_refl _⟩ ?round ?done ?stop)
  case hI => exact fun pre A B ⟨h, hz⟩ hq => ⟨h.quiet (by omega) hq, Nat.le_trans hz (Mod.size hq)⟩
  case hIx => exact fun _ _ _ _ h _ => h
  case stop => exact fun _ _ _ _ _ h _ => h.elim
  case done =>
    rintro l xs W hl hS ⟨hI, hWs⟩ hK
    have z8 := hI.r8; have z10 := hI.r10
    rw [show xs.map keyG = live (M.map Prod.fst) from hS] at z8 z10
    have HI := Lib.hid hI
    clear hI hI0 hItlt hS hWs
    obtain ⟨r, hr⟩ : ∃ r, firstM fr up (live (M.map Prod.fst)) = r := ⟨_, rfl⟩
    rw [hr] at z8 z10
    have HR := Lib.hid hr
    clear hr
    have hk : W.drew.heap[l]? = some (.deferred (some [])) := hK
    have hq : Quiet w3.heap.size _ _ := Quiet.putObj (.deferred none) hl hk rfl
    have z8_0 := cell_of_row _ _ 0 _ _ _ z8; have z8_f := (fun j => frozen_of_row _ _ j _ _ z8); have z8_l := lt_of_block z8; simp at z8_0; have H_z8 := Lib.hid z8; clear z8
    have z10_0 := cell_of_row _ _ 0 _ _ _ z10; have z10_f := (fun j => frozen_of_row _ _ j _ _ z10); have z10_l := lt_of_block z10; simp at z10_0; have H_z10 := Lib.hid z10; clear z10
    obtain ⟨s8, hs8⟩ : ∃ s, slotO r = s := ⟨_, rfl⟩
    obtain ⟨s10, hs10⟩ : ∃ s, r.isSome = s := ⟨_, rfl⟩
    rw [hs8] at z8_0; rw [hs10] at z10_0
    go_wp2
    go_region_held3 (fun w' => w'.cell? ⟨b8, 0, none⟩ = some (.int .u32 s8) ∧ w'.cell? ⟨b8 + 1 + 1, 0, none⟩ = some (.bool s10))
      (first | exact ⟨z8_0, z10_0⟩)
      (fail)
    go_wp2
    exact bodyPostM_drained (v := firstV (firstM fr up (live (M.map Prod.fst)))) hk (by simp [results, Tryz.results123, go_sem, HR.out, firstV, hs8, hs10]) ⟨rfl, hq.mod (Mod.drew HI.out.pu) (by omega)⟩
  case round =>
    rintro l pre ⟨i, x, v⟩ W K ⟨hI, hWs⟩ hG hK
    obtain ⟨va, vc, hv, _⟩ := owns_form hG.2.1
    dsimp only at hv
    subst hv
    dsimp only [encG]
    have HCI := Lib.hid hI; have HK := Lib.hid hK
    clear hI hK hI0 HIT hItlt hG
    gi_wp2
    have hP : Pure W (W.alloc (.cells #[.string x.key, .slice va (bytesOf x.val).length vc, .int .u64 x.dl, .int .u64 x.birth] 42)) := (Mod.refl _ W).alloc _
    have z5 := heap_new (w := W) (o := .cells #[.string x.key, .slice va (bytesOf x.val).length vc, .int .u64 x.dl, .int .u64 x.birth] 42 (0, 0)) rfl
    refine HK.out _ _ hP (fun l' W2 hl hr hq => ?_)
    replace HCI := Lib.hid ((HCI.out.quiet (N := w3.heap.size) (by omega) (Quiet.of_pure hP)).quiet (by omega) hq)
    have zz5 := hq.cells z5
    have hsz2 : w3.heap.size ≤ W2.heap.size := by have := Mod.size hq; have := hP.size; omega
    have hnext : firstM fr up ((pre ++ [(i, x, Value.slice va (bytesOf x.val).length vc)]).map keyG) = firstS fr up (firstM fr up (pre.map keyG)) (i, x) := by
      rw [List.map_append]; exact firstM_snoc _ _ _ _
    have HN := Lib.hid hnext
    have hb12 : w3.heap.size ≤ W.heap.size := hWs
    clear HK hP hq z5 hnext
    generalize W.heap.size = b12 at zz5 hb12 ⊢
    have r4 := HCI.out.r4; have r5 := HCI.out.r5; have r8 := HCI.out.r8; have r9 := HCI.out.r9; have r10 := HCI.out.r10
    have hw8 := HCI.out.w8
    generalize firstM fr up (pre.map keyG) = o at *
    have zz5_0 := cell_of_row _ _ 0 _ _ _ zz5; have zz5_1 := cell_of_row _ _ 1 _ _ _ zz5; have zz5_2 := cell_of_row _ _ 2 _ _ _ zz5; have zz5_3 := cell_of_row _ _ 3 _ _ _ zz5; have zz5_f := (fun j => frozen_of_row _ _ j _ _ zz5); have zz5_l := lt_of_block zz5; simp at zz5_0 zz5_1 zz5_2 zz5_3; have H_zz5 := Lib.hid zz5; clear zz5
    have r4_0 := cell_of_row _ _ 0 _ _ _ r4; have r4_f := (fun j => frozen_of_row _ _ j _ _ r4); have r4_l := lt_of_block r4; simp at r4_0; have H_r4 := Lib.hid r4; clear r4
    have r5_0 := cell_of_row _ _ 0 _ _ _ r5; have r5_f := (fun j => frozen_of_row _ _ j _ _ r5); have r5_l := lt_of_block r5; simp at r5_0; have H_r5 := Lib.hid r5; clear r5
    have r8_0 := cell_of_row _ _ 0 _ _ _ r8; have r8_f := (fun j => frozen_of_row _ _ j _ _ r8); have r8_l := lt_of_block r8; simp at r8_0; have H_r8 := Lib.hid r8; clear r8
    have r9_0 := cell_of_row _ _ 0 _ _ _ r9; have r9_f := (fun j => frozen_of_row _ _ j _ _ r9); have r9_l := lt_of_block r9; simp at r9_0; have H_r9 := Lib.hid r9; clear r9
    have r10_0 := cell_of_row _ _ 0 _ _ _ r10; have r10_f := (fun j => frozen_of_row _ _ j _ _ r10); have r10_l := lt_of_block r10; simp at r10_0; have H_r10 := Lib.hid r10; clear r10
    have HOLD : Hid (firstS fr up o (i, x) = o → roundEnd w3.heap.size It (fun pre W => FInv w fr up b8 pre W ∧ w3.heap.size ≤ W.heap.size) (fun _ _ _ => False) (pre ++ [(i, x, Value.slice va (bytesOf x.val).length vc)]) W2 .normal { tmps := #[], defers := [] } W2) := fun he =>
      ⟨KeepsRec.of_mod (S := fun _ => False) (Mod.refl _ _) (fun k hk h => h.elim), KeepsIt.of_mod (S := fun _ => False) (Mod.refl _ _) (fun k hk h => h), ⟨H_r4.out, H_r5.out, by rw [HN.out, he]; exact H_r8.out, by rw [HN.out, he]; exact H_r9.out, by rw [HN.out, he]; exact H_r10.out, HCI.out.pu, hw8⟩, hsz2⟩
    have HPUT : Hid (firstS fr up o (i, x) = some (i, x.birth) → roundEnd w3.heap.size It (fun pre W => FInv w fr up b8 pre W ∧ w3.heap.size ≤ W.heap.size) (fun _ _ _ => False) (pre ++ [(i, x, Value.slice va (bytesOf x.val).length vc)]) W2 .normal { tmps := #[], defers := [] }
        (((W2.drew.setCell ⟨b8, 0, none⟩ (.int .u32 i)).setCell ⟨b8 + 1, 0, none⟩ (.int .u64 x.birth)).setCell ⟨b8 + 1 + 1, 0, none⟩ (.bool true))) := fun he => by
      have hm : Mod (fun k => k = b8 ∨ k = b8 + 1 ∨ k = b8 + 1 + 1) W2 (((W2.drew.setCell ⟨b8, 0, none⟩ (.int .u32 i)).setCell ⟨b8 + 1, 0, none⟩ (.int .u64 x.birth)).setCell ⟨b8 + 1 + 1, 0, none⟩ (.bool true)) :=
        ((((Mod.refl _ W2).drew).setCell (p := ⟨b8, 0, none⟩) (fun _ => .inl rfl) _).setCell (p := ⟨b8 + 1, 0, none⟩) (fun _ => .inr (.inl rfl)) _).setCell (p := ⟨b8 + 1 + 1, 0, none⟩) (fun _ => .inr (.inr rfl)) _
      refine ⟨KeepsRec.of_mod hm (fun k hk h => by omega), KeepsIt.of_mod hm (fun k hk h => by rcases h with rfl | rfl | rfl; exact n8.out hk; exact n9.out hk; exact n10.out hk), ⟨hm.heap (by omega) H_r4.out, hm.heap (by omega) H_r5.out, ?_, ?_, ?_, HCI.out.pu.then hm (fun k hk h => by omega), hw8⟩, Nat.le_trans hsz2 hm.size⟩
      · rw [HN.out, he]
        have h1 : W2.drew.heap[b8]? = _ := H_r8.out
        exact heap_set_other (heap_set_other (heap_set1 (j := 0) (v := .int .u32 i) h1) (by show b8 ≠ b8 + 1; omega)) (by show b8 ≠ b8 + 1 + 1; omega)
      · rw [HN.out, he]
        have h1 : W2.drew.heap[b8 + 1]? = _ := H_r9.out
        exact heap_set_other (heap_set1 (j := 0) (v := .int .u64 x.birth) (heap_set_other h1 (by show b8 + 1 ≠ b8; omega))) (by show b8 + 1 ≠ b8 + 1 + 1; omega)
      · rw [HN.out, he]
        have h1 : W2.drew.heap[b8 + 1 + 1]? = _ := H_r10.out
        exact heap_set1 (j := 0) (v := .bool true) (heap_set_other (heap_set_other h1 (by show b8 + 1 + 1 ≠ b8; omega)) (by show b8 + 1 + 1 ≠ b8 + 1; omega))
    by_cases c1 : fr ≤ x.birth
    · have d1 : decide (fr ≤ x.birth) = true := decide_eq_true c1
      have HC1 := Lib.hid c1
      by_cases c2 : x.birth ≤ up
      · have d2 : decide (x.birth ≤ up) = true := decide_eq_true c2
        have HC2 := Lib.hid c2
        cases o with
        | none =>
          dsimp only [leastO, slotO, Option.isSome] at r8_0 r9_0 r10_0
          clear c1 c2
          gi_wp2
          refine region_held (fun X => X.cell? ⟨b12, 3, none⟩ = some (.int .u64 x.birth)) (by kernel_rfl) (by kernel_rfl) ?hL zz5_3 (fun hHeld => ?_)
          case hL => rintro ⟨a, w, h⟩; exact h
          (refine wpAnyH_take (i := 0) (v := ?_) rfl (by kernel_rfl) (by kernel_rfl) (by kernel_rfl) (fun _ _ _ h => h) (Yields.yieldsIf (Or.inl ⟨by rfl, ?_⟩)) hHeld ?_; rotate_left 1; focus (intro w; go_simp; try with_reducible rfl))
          (refine wpAnyH_take (i := 1) (v := ?_) rfl (by kernel_rfl) (by kernel_rfl) (by kernel_rfl) (fun _ _ _ h => h) (Yields.yieldsIf (Or.inl ⟨by rfl, ?_⟩)) hHeld ?_; rotate_left 1; focus (intro w; go_simp; try with_reducible rfl))
          (refine wpAnyH_take (i := 2) (v := ?_) rfl (by kernel_rfl) (by kernel_rfl) (by kernel_rfl) (fun _ _ _ h => h) (Or.inl ⟨by rfl, ?_⟩) hHeld ?_; rotate_left 1; focus (intro w hS; obtain s12 := hS; go_simp; try with_reducible rfl))
          (refine wpAnyH_ready (rs := [3]) (by kernel_rfl) (by simp) ?_; refine AllReadyH.cons rfl (fun K hK => ?_) AllReadyH.nil; go_simp; skip; refine hK.out _ _ ?_ (fun hHeld => ?_); (· exact (Mod.set1 _ _ _).cell (fun e => by have e' : b12 = b8 := e; omega) hHeld); clear hK K)
          (refine wpAnyH_ready (rs := [4]) (by kernel_rfl) (by simp) ?_; refine AllReadyH.cons rfl (fun K hK => ?_) AllReadyH.nil; go_simp; skip; refine hK.out _ _ ?_ (fun hHeld => ?_); (· exact (Mod.set1 _ _ _).cell (fun e => by have e' : b12 = b8 + 1 := e; omega) hHeld); clear hK K)
          (refine wpAnyH_ready (rs := [5]) (by kernel_rfl) (by simp) ?_; refine AllReadyH.cons rfl (fun K hK => ?_) AllReadyH.nil; go_simp; skip; refine hK.out _ _ ?_ (fun hHeld => ?_); (· exact (Mod.set1 _ _ _).cell (fun e => by have e' : b12 = b8 + 1 + 1 := e; omega) hHeld); clear hK K)
          refine wpAnyH_done (by kernel_rfl) ?_ _
          exact HPUT.out (by unfold firstS; rw [if_pos HC1.out, if_pos HC2.out])
        | some y =>
          by_cases c3 : x.birth < y.2
          · have d3 : decide (x.birth < y.2) = true := decide_eq_true c3
            have HC3 := Lib.hid c3
            dsimp only [leastO, slotO, Option.isSome] at r8_0 r9_0 r10_0
            clear c1 c2 c3
            gi_wp2
            refine region_held (fun X => X.cell? ⟨b12, 3, none⟩ = some (.int .u64 x.birth)) (by kernel_rfl) (by kernel_rfl) ?hL zz5_3 (fun hHeld => ?_)
            case hL => rintro ⟨a, w, h⟩; exact h
            (refine wpAnyH_take (i := 0) (v := ?_) rfl (by kernel_rfl) (by kernel_rfl) (by kernel_rfl) (fun _ _ _ h => h) (Yields.yieldsIf (Or.inl ⟨by rfl, ?_⟩)) hHeld ?_; rotate_left 1; focus (intro w; go_simp; try with_reducible rfl))
            (refine wpAnyH_take (i := 1) (v := ?_) rfl (by kernel_rfl) (by kernel_rfl) (by kernel_rfl) (fun _ _ _ h => h) (Yields.yieldsIf (Or.inl ⟨by rfl, ?_⟩)) hHeld ?_; rotate_left 1; focus (intro w; go_simp; try with_reducible rfl))
            (refine wpAnyH_take (i := 2) (v := ?_) rfl (by kernel_rfl) (by kernel_rfl) (by kernel_rfl) (fun _ _ _ h => h) (Or.inl ⟨by rfl, ?_⟩) hHeld ?_; rotate_left 1; focus (intro w hS; obtain s12 := hS; go_simp; try with_reducible rfl))
            (refine wpAnyH_ready (rs := [3]) (by kernel_rfl) (by simp) ?_; refine AllReadyH.cons rfl (fun K hK => ?_) AllReadyH.nil; go_simp; skip; refine hK.out _ _ ?_ (fun hHeld => ?_); (· exact (Mod.set1 _ _ _).cell (fun e => by have e' : b12 = b8 := e; omega) hHeld); clear hK K)
            (refine wpAnyH_ready (rs := [4]) (by kernel_rfl) (by simp) ?_; refine AllReadyH.cons rfl (fun K hK => ?_) AllReadyH.nil; go_simp; skip; refine hK.out _ _ ?_ (fun hHeld => ?_); (· exact (Mod.set1 _ _ _).cell (fun e => by have e' : b12 = b8 + 1 := e; omega) hHeld); clear hK K)
            (refine wpAnyH_ready (rs := [5]) (by kernel_rfl) (by simp) ?_; refine AllReadyH.cons rfl (fun K hK => ?_) AllReadyH.nil; go_simp; skip; refine hK.out _ _ ?_ (fun hHeld => ?_); (· exact (Mod.set1 _ _ _).cell (fun e => by have e' : b12 = b8 + 1 + 1 := e; omega) hHeld); clear hK K)
            refine wpAnyH_done (by kernel_rfl) ?_ _
            exact HPUT.out (by unfold firstS; rw [if_pos HC1.out, if_pos HC2.out]; dsimp only; rw [if_pos HC3.out])
          · have d3 : decide (x.birth < y.2) = false := decide_eq_false c3
            have hf : firstS fr up (some y) (i, x) = some y := by unfold firstS; rw [if_pos c1, if_pos c2]; dsimp only; rw [if_neg c3]
            have HF := Lib.hid hf
            clear hf c1 c2 c3
            dsimp only [leastO, slotO, Option.isSome] at r8_0 r9_0 r10_0
            gi_wp2
            exact HOLD.out HF.out
      · have d2 : decide (x.birth ≤ up) = false := decide_eq_false c2
        have hf : firstS fr up o (i, x) = o := by unfold firstS; rw [if_pos c1, if_neg c2]
        have HF := Lib.hid hf
        clear hf c1 c2
        gi_wp2
        exact HOLD.out HF.out
    · have d1 : decide (fr ≤ x.birth) = false := decide_eq_false c1
      have hf : firstS fr up o (i, x) = o := by unfold firstS; rw [if_neg c1]
      have HF := Lib.hid hf
      clear hf c1
      gi_wp2
      exact HOLD.out HF.out
end Go.Proofs.YtpafcocciggfpaaGreat
