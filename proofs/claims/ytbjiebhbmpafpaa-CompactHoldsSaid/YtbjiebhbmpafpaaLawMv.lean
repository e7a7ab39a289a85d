/- law11.moves answers true where the reference's list is that of the moves; law11.many. Conditions: rows owned, slot numbers rise and are below the length. -/
import Derived.Test.YtbjiebhbmpafpaaMvFrom
namespace Go.Proofs.Ytbjiebhbmpafpaa
open Go.RowKit Go.Shelf
set_option maxRecDepth 100000

theorem many_any (n : Int) (a : Option Addr) (l c : Nat) (w : World) (hl : l ≤ 9223372036854775807) (r : Bool) (hr : (decide (n < 0) || decide (100 < n) || decide (100 < (l : Int))) = r) :
    Calls Try.prog 16 #[.int .i64 n, .slice a l c] w fun e w' => e = .returned (.bool r) ∧ w = w' := by
  have HR := Lib.hid hr
  clear hr
  by_cases h1 : n < 0
  · have h2 : decide (n < 0) = true := by simp [h1]
    go_enter Try.func16, Try.ntmps16
    go_wp2
    go_ret
    exact ⟨by rw [← HR.out]; simp [h1], rfl⟩
  · by_cases h3 : 100 < n
    · have h4 : decide (100 < n) = true := by simp [h3]
      go_enter Try.func16, Try.ntmps16
      go_wp2
      go_ret
      exact ⟨by rw [← HR.out]; simp [h1, h3], rfl⟩
    · go_enter Try.func16, Try.ntmps16
      go_wp2
      go_ret
      exact ⟨by rw [← HR.out]; simp [h1, h3]; try omega, rfl⟩

structure MvInv (w : World) (b : Nat) (a a2 : Option Addr) (c c2 n : Nat) (xs : List Nat) (wr : World) : Prop where
  pu : Pure w wr
  r2 : wr.heap[b]? = some (.cells #[.slice a xs.length c, .int .i64 n] 34 (0, 0))
  r3 : wr.heap[b + 1]? = some (.cells #[.slice a2 n c2, .int .i64 xs.length] 40 (0, 0))
theorem MvInv.pure {w : World} {b : Nat} {a a2 : Option Addr} {c c2 n : Nat} {xs : List Nat} {wr wr' : World} (h : MvInv w b a a2 c c2 n xs wr) (hq : Pure wr wr') : MvInv w b a a2 c c2 n xs wr' :=
  ⟨h.pu.trans hq, hq.heap (fun h => h) h.r2, hq.heap (fun h => h) h.r3⟩
theorem toM_u32 (xs : List Nat) (hl : ∀ x ∈ xs, x < 4194304) : toM xs 4294967295 = (0, 9) := by
  have : 4294967295 ∉ xs := fun h => by have := hl _ h; omega
  simp [toM, this]
theorem fromM_u32 (xs : List Nat) (hl : xs.length ≤ 4194304) : fromM xs 4294967295 = (0, 9) := by
  have : ¬ 4294967295 < xs.length := by omega
  simp [fromM, this]
theorem toM_le (xs : List Nat) (o : Nat) : (toM xs o).1 ≤ xs.length ∧ (toM xs o).2 ≤ 9 := by
  unfold toM; split
  · exact ⟨below_le _ _, by simp⟩
  · simp
theorem fromM_le {xs : List Nat} (h : ∀ x ∈ xs, x ≤ 4294967295) (o : Nat) : (fromM xs o).1 ≤ 4294967295 ∧ (fromM xs o).2 ≤ 9 := by
  unfold fromM; split
  · rename_i hlt
    exact ⟨by have := h _ (List.getElem_mem hlt); simpa [List.getD, List.getElem?_eq_getElem hlt] using this, by simp⟩
  · simp

theorem ref_ToE {w : World} {a : Option Addr} {c n : Nat} {xs : List Nat} (h : MvX w a c n xs) (hn : n ≤ 4194304) (hx : ∀ x ∈ xs, x < n) (hl : xs.length ≤ 4194304) (m : Int) (o : Nat) (ho : o ≤ 4294967295) (t1 t2 : Nat) (ht : toM xs o = (t1, t2)) :
    Calls Try.prog 66 #[.agg #[.slice a n c, .int .i64 m], .int .u32 o] w fun e w' => e = .returned (.tuple #[.int .u32 t1, .int .i64 t2]) ∧ Pure w w' := by
  have := ref_To h hn hx hl m o ho
  rw [ht] at this
  exact this
theorem ref_FromE {w : World} {a : Option Addr} {c n : Nat} {xs : List Nat} (h : MvX w a c n xs) (hr : Rising xs) (hn : n ≤ 4194304) (hx : ∀ x ∈ xs, x < n) (m : Int) (o : Nat) (ho : o ≤ 4294967295) (t1 t2 : Nat) (ht : fromM xs o = (t1, t2)) :
    Calls Try.prog 67 #[.agg #[.slice a n c, .int .i64 m], .int .u32 o] w fun e w' => e = .returned (.tuple #[.int .u32 t1, .int .i64 t2]) ∧ Pure w w' := by
  have := ref_From h hr hn hx m o ho
  rw [ht] at this
  exact this
theorem law_toE {w : World} {a : Option Addr} {c : Nat} {xs : List Nat} (h : U32Row w a c xs) (hr : Rising xs) (n : Int) (o t1 t2 : Nat) (ho : o ≤ 4294967295) (ht : toM xs o = (t1, t2)) :
    Calls Try.prog 30 #[.agg #[.slice a xs.length c, .int .i64 n], .int .u32 o, .int .u32 t1, .int .i64 t2] w fun e w' => e = .returned (.bool true) ∧ Pure w w' := by
  have := law_to h hr n o t1 t2 ho
  rw [ht] at this
  simpa using this
theorem law_fromE {w : World} {a : Option Addr} {c : Nat} {xs : List Nat} (h : U32Row w a c xs) (hr : Rising xs) (n : Int) (o t1 t2 : Nat) (ho : o ≤ 4294967295) (ht : fromM xs o = (t1, t2)) :
    Calls Try.prog 31 #[.agg #[.slice a xs.length c, .int .i64 n], .int .u32 o, .int .u32 t1, .int .i64 t2] w fun e w' => e = .returned (.bool true) ∧ Pure w w' := by
  have := law_from h hr.len n o t1 t2 ho
  rw [ht] at this
  simpa using this

set_option maxHeartbeats 1000000 in
theorem moves_true {w : World} {a a2 : Option Addr} {c c2 n : Nat} {xs : List Nat} (h : U32Row w a c xs) (hr : Rising xs) (h2 : MvX w a2 c2 n xs) (hn : n ≤ 4194300) (hx : ∀ x ∈ xs, x < n) :
    Calls Try.prog 24 #[.agg #[.slice a xs.length c, .int .i64 n], .agg #[.slice a2 n c2, .int .i64 xs.length]] w fun e w' => e = .returned (.bool true) ∧ Pure w w' := by
  have H := Lib.hid h
  have H2 := Lib.hid h2
  have HR := Lib.hid hr
  have HX := Lib.hid hx
  have hl : xs.length ≤ 4194304 := hr.len
  clear h h2 hr hx
  have hp : Pure w ((w.alloc (.cells #[.slice a xs.length c, .int .i64 n] 34)).alloc (.cells #[.slice a2 n c2, .int .i64 xs.length] 40)) := ((Mod.refl _ w).alloc _).alloc _
  have hI : MvInv w w.heap.size a a2 c c2 n xs ((w.alloc (.cells #[.slice a xs.length c, .int .i64 n] 34)).alloc (.cells #[.slice a2 n c2, .int .i64 xs.length] 40)) := ⟨hp, heap_keep (heap_new rfl), heap_new (by simp)⟩
  have HI := Lib.hid hI
  clear hI hp
  go_enter Try.func24, Try.ntmps24
  go_upto_region 1 with fail
  generalize (w.alloc (.cells #[.slice a xs.length c, .int .i64 n] 34)).alloc (.cells #[.slice a2 n c2, .int .i64 xs.length] 40) = W at HI ⊢
  generalize w.heap.size = b at HI ⊢
  have hr2 := HI.out.r2; have hr3 := HI.out.r3
  have hr2_0 := cell_of_row _ _ 0 _ _ _ hr2; have hr2_1 := cell_of_row _ _ 1 _ _ _ hr2; have hr2_f := (fun j => frozen_of_row _ _ j _ _ hr2); have hr2_l := lt_of_block hr2; simp at hr2_0 hr2_1; have H_hr2 := Lib.hid hr2; clear hr2
  have hr3_0 := cell_of_row _ _ 0 _ _ _ hr3; have hr3_1 := cell_of_row _ _ 1 _ _ _ hr3; have hr3_f := (fun j => frozen_of_row _ _ j _ _ hr3); have hr3_l := lt_of_block hr3; simp at hr3_0 hr3_1; have H_hr3 := Lib.hid hr3; clear hr3
  go_upto_region 3 with (go_at_call 32; refine Calls.mono (lensZ _ _ xs.length n xs.length n true (by simp)) ?_; rintro e W2 ⟨rfl, hq⟩; replace HI := Lib.hid (HI.out.pure hq); clear hq)
  clear hr2_0 hr2_1 hr2_f hr2_l
  clear hr3_0 hr3_1 hr3_f hr3_l
  go_wp2
  go_loopw [5] (fun i wr => ∃ k : Nat, k ≤ n + 2 ∧ i = .int .i64 k ∧ MvInv w b a a2 c c2 n xs wr) (fun i _ => n + 2 - (intOf i).toNat)
  case atStart => exact ⟨0, by omega, rfl, HI.out⟩
  case round =>
    obtain ⟨k, hk, rfl, hI⟩ := hrel
    have HI := Lib.hid hI
    clear hI
    have hr2 := HI.out.r2; have hr3 := HI.out.r3
    have hr2_0 := cell_of_row _ _ 0 _ _ _ hr2; have hr2_1 := cell_of_row _ _ 1 _ _ _ hr2; have hr2_f := (fun j => frozen_of_row _ _ j _ _ hr2); have hr2_l := lt_of_block hr2; simp at hr2_0 hr2_1; have H_hr2 := Lib.hid hr2; clear hr2
    have hr3_0 := cell_of_row _ _ 0 _ _ _ hr3; have hr3_1 := cell_of_row _ _ 1 _ _ _ hr3; have hr3_f := (fun j => frozen_of_row _ _ j _ _ hr3); have hr3_l := lt_of_block hr3; simp at hr3_0 hr3_1; have H_hr3 := Lib.hid hr3; clear hr3
    by_cases hlt : k < n + 2
    · have hk1 : (k : Int) ≤ (n : Int) + 1 := by omega
      have hk2 : (k : Int) ≤ 4294967295 := by omega
      obtain ⟨t1, t2, ht⟩ : ∃ t1 t2, toM xs k = (t1, t2) := ⟨_, _, rfl⟩
      obtain ⟨f1, f2, hf⟩ : ∃ t1 t2, fromM xs k = (t1, t2) := ⟨_, _, rfl⟩
      have ht1 := toM_le xs k; have hf1 := fromM_le HR.out.lt k
      rw [ht] at ht1
      rw [hf] at hf1
      obtain ⟨ht1, ht2⟩ := ht1
      obtain ⟨hf1, hf2⟩ := hf1
      have q1 : (t1 : Int) ≤ 4294967295 := by simp only at ht1; omega
      have q2 : (t2 : Int) ≤ 9 := by simp only at ht2; omega
      have q3 : (f1 : Int) ≤ 4294967295 := by simp only at hf1; omega
      have q4 : (f2 : Int) ≤ 9 := by simp only at hf2; omega
      have HT := Lib.hid ht; have HF := Lib.hid hf
      clear ht hf ht1 ht2 hf1 hf2
      go_upto_region 5 with (first
        | (go_at_call 66; refine Calls.mono (ref_ToE (H2.out.pure HI.out.pu) (by omega) HX.out hl _ k (by omega) t1 t2 HT.out) ?_; rintro e W2 ⟨rfl, hq⟩; replace HI := Lib.hid (HI.out.pure hq); have hr2 := HI.out.r2; have hr3 := HI.out.r3; clear hr2_0 hr2_1 hr2_f hr2_l H_hr2 hr3_0 hr3_1 hr3_f hr3_l H_hr3 hq; have hr2_0 := cell_of_row _ _ 0 _ _ _ hr2; have hr2_1 := cell_of_row _ _ 1 _ _ _ hr2; have hr2_f := (fun j => frozen_of_row _ _ j _ _ hr2); have hr2_l := lt_of_block hr2; simp at hr2_0 hr2_1; have H_hr2 := Lib.hid hr2; clear hr2; have hr3_0 := cell_of_row _ _ 0 _ _ _ hr3; have hr3_1 := cell_of_row _ _ 1 _ _ _ hr3; have hr3_f := (fun j => frozen_of_row _ _ j _ _ hr3); have hr3_l := lt_of_block hr3; simp at hr3_0 hr3_1; have H_hr3 := Lib.hid hr3; clear hr3)
        | (go_at_call 67; refine Calls.mono (ref_FromE (H2.out.pure HI.out.pu) HR.out (by omega) HX.out _ k (by omega) f1 f2 HF.out) ?_; rintro e W2 ⟨rfl, hq⟩; replace HI := Lib.hid (HI.out.pure hq); have hr2 := HI.out.r2; have hr3 := HI.out.r3; clear hr2_0 hr2_1 hr2_f hr2_l H_hr2 hr3_0 hr3_1 hr3_f hr3_l H_hr3 hq; have hr2_0 := cell_of_row _ _ 0 _ _ _ hr2; have hr2_1 := cell_of_row _ _ 1 _ _ _ hr2; have hr2_f := (fun j => frozen_of_row _ _ j _ _ hr2); have hr2_l := lt_of_block hr2; simp at hr2_0 hr2_1; have H_hr2 := Lib.hid hr2; clear hr2; have hr3_0 := cell_of_row _ _ 0 _ _ _ hr3; have hr3_1 := cell_of_row _ _ 1 _ _ _ hr3; have hr3_f := (fun j => frozen_of_row _ _ j _ _ hr3); have hr3_l := lt_of_block hr3; simp at hr3_0 hr3_1; have H_hr3 := Lib.hid hr3; clear hr3)
        | (go_at_call 30; refine Calls.mono (law_toE (owns_mod H.out HI.out.pu (fun _ _ h => h)) HR.out n k t1 t2 (by omega) HT.out) ?_; rintro e W2 ⟨rfl, hq⟩; replace HI := Lib.hid (HI.out.pure hq); have hr2 := HI.out.r2; have hr3 := HI.out.r3; clear hr2_0 hr2_1 hr2_f hr2_l H_hr2 hr3_0 hr3_1 hr3_f hr3_l H_hr3 hq; have hr2_0 := cell_of_row _ _ 0 _ _ _ hr2; have hr2_1 := cell_of_row _ _ 1 _ _ _ hr2; have hr2_f := (fun j => frozen_of_row _ _ j _ _ hr2); have hr2_l := lt_of_block hr2; simp at hr2_0 hr2_1; have H_hr2 := Lib.hid hr2; clear hr2; have hr3_0 := cell_of_row _ _ 0 _ _ _ hr3; have hr3_1 := cell_of_row _ _ 1 _ _ _ hr3; have hr3_f := (fun j => frozen_of_row _ _ j _ _ hr3); have hr3_l := lt_of_block hr3; simp at hr3_0 hr3_1; have H_hr3 := Lib.hid hr3; clear hr3)
        | (go_at_call 31; refine Calls.mono (law_fromE (owns_mod H.out HI.out.pu (fun _ _ h => h)) HR.out n k f1 f2 (by omega) HF.out) ?_; rintro e W2 ⟨rfl, hq⟩; replace HI := Lib.hid (HI.out.pure hq); have hr2 := HI.out.r2; have hr3 := HI.out.r3; clear hr2_0 hr2_1 hr2_f hr2_l H_hr2 hr3_0 hr3_1 hr3_f hr3_l H_hr3 hq; have hr2_0 := cell_of_row _ _ 0 _ _ _ hr2; have hr2_1 := cell_of_row _ _ 1 _ _ _ hr2; have hr2_f := (fun j => frozen_of_row _ _ j _ _ hr2); have hr2_l := lt_of_block hr2; simp at hr2_0 hr2_1; have H_hr2 := Lib.hid hr2; clear hr2; have hr3_0 := cell_of_row _ _ 0 _ _ _ hr3; have hr3_1 := cell_of_row _ _ 1 _ _ _ hr3; have hr3_f := (fun j => frozen_of_row _ _ j _ _ hr3); have hr3_l := lt_of_block hr3; simp at hr3_0 hr3_1; have H_hr3 := Lib.hid hr3; clear hr3))
      go_wp2
      go_roundw
      case rel => exact ⟨k + 1, by omega, by go_num, HI.out⟩
      case measure => simp [intOf]; omega
    · have hk1 : ¬ ((k : Int) ≤ (n : Int) + 1) := by omega
      have hk2 : (n : Int) + 1 < (k : Int) := by omega
      go_wp2_with (first
        | (go_at_call 30; refine Calls.mono (law_toE (owns_mod H.out HI.out.pu (fun _ _ h => h)) HR.out n 4294967295 0 9 (by omega) (toM_u32 xs (fun x hx => by have := HX.out x hx; omega))) ?_; rintro e W2 ⟨rfl, hq⟩; replace HI := Lib.hid (HI.out.pure hq); have hr2 := HI.out.r2; have hr3 := HI.out.r3; clear hr2_0 hr2_1 hr2_f hr2_l H_hr2 hr3_0 hr3_1 hr3_f hr3_l H_hr3 hq; have hr2_0 := cell_of_row _ _ 0 _ _ _ hr2; have hr2_1 := cell_of_row _ _ 1 _ _ _ hr2; have hr2_f := (fun j => frozen_of_row _ _ j _ _ hr2); have hr2_l := lt_of_block hr2; simp at hr2_0 hr2_1; have H_hr2 := Lib.hid hr2; clear hr2; have hr3_0 := cell_of_row _ _ 0 _ _ _ hr3; have hr3_1 := cell_of_row _ _ 1 _ _ _ hr3; have hr3_f := (fun j => frozen_of_row _ _ j _ _ hr3); have hr3_l := lt_of_block hr3; simp at hr3_0 hr3_1; have H_hr3 := Lib.hid hr3; clear hr3)
        | (go_at_call 31; refine Calls.mono (law_fromE (owns_mod H.out HI.out.pu (fun _ _ h => h)) HR.out n 4294967295 0 9 (by omega) (fromM_u32 xs hl)) ?_; rintro e W2 ⟨rfl, hq⟩; replace HI := Lib.hid (HI.out.pure hq); have hr2 := HI.out.r2; have hr3 := HI.out.r3; clear hr2_0 hr2_1 hr2_f hr2_l H_hr2 hr3_0 hr3_1 hr3_f hr3_l H_hr3 hq; have hr2_0 := cell_of_row _ _ 0 _ _ _ hr2; have hr2_1 := cell_of_row _ _ 1 _ _ _ hr2; have hr2_f := (fun j => frozen_of_row _ _ j _ _ hr2); have hr2_l := lt_of_block hr2; simp at hr2_0 hr2_1; have H_hr2 := Lib.hid hr2; clear hr2; have hr3_0 := cell_of_row _ _ 0 _ _ _ hr3; have hr3_1 := cell_of_row _ _ 1 _ _ _ hr3; have hr3_f := (fun j => frozen_of_row _ _ j _ _ hr3); have hr3_l := lt_of_block hr3; simp at hr3_0 hr3_1; have H_hr3 := Lib.hid hr3; clear hr3))
      go_ret
      exact ⟨rfl, HI.out.pu⟩
end Go.Proofs.Ytbjiebhbmpafpaa
