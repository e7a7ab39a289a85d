/- dict: what nil and zero dictionaries say; Of of nil and zero logs. -/
import Derived.Test.YtpafcocciggfpaaGreatBirth2
namespace Go.Proofs.YtpafcocciggfpaaGreat
open Go.RowKit Go.Shelf
set_option maxRecDepth 100000
def zeroE : Value := .agg #[.string ⟨#[]⟩, .slice none 0 0, .int .u64 0, .int .u64 0]
theorem dins_nil {w : World} {v : Value} (h : NilD w v) (k s : Value) (dl b : Value) : Calls Tryz.prog 14 #[v, .agg #[k, s, dl, b]] w fun e w' => e = .returned (.tuple #[.int .u32 0, .int .i64 1]) ∧ Pure w w' := by
  have hp0 : Pure w (w.alloc (.cells #[k, s, dl, b] 42)) := (Mod.refl _ w).alloc _
  have HZ := Lib.hid (dzero_nil (h.pure hp0))
  have HP := Lib.hid hp0
  clear h hp0
  go_enter Tryz.func14, Tryz.ntmps14
  go_wp2_with (go_at_call 64; refine Calls.mono HZ.out ?_; rintro e w' ⟨rfl, rfl⟩)
  go_ret2
  exact ⟨rfl, HP.out⟩
theorem dget_nil {w : World} {v : Value} (h : NilD w v) (s : Value) : Calls Tryz.prog 35 #[v, s] w fun e w' => e = .returned (.tuple #[.agg #[.string ⟨#[]⟩, .slice none 0 0, .int .u64 0, .int .u64 0], .int .i64 1]) ∧ Pure w w' := by
  have hp0 : Pure w (w.alloc (.cells #[.string ⟨#[]⟩, .slice none 0 0, .int .u64 0, .int .u64 0] 42)) := (Mod.refl _ w).alloc _
  have HZ := Lib.hid (dzero_nil (h.pure hp0))
  clear h hp0
  go_enter Tryz.func35, Tryz.ntmps35
  go_wp2_with (go_at_call 64; refine Calls.mono HZ.out ?_; rintro e w' ⟨rfl, rfl⟩)
  refine bodyPost_ret (v := .tuple #[.agg #[.string ⟨#[]⟩, .slice none 0 0, .int .u64 0, .int .u64 0], .int .i64 1]) (by simp [results, Tryz.results35, go_sem]) rfl ⟨rfl, ?_⟩
  (repeat' (first | (with_reducible exact Mod.refl _ _) | (with_reducible refine Mod.alloc ?_ _) | (with_reducible refine Mod.drew ?_) | (with_reducible refine Mod.drewN ?_ _) | (with_reducible refine Mod.setCell ?_ ?_ _) | (refine Mod.then ?_ (by with_reducible assumption) ?_)))
  (all_goals (intros; first | (exfalso; assumption) | omega | (simp at *; done) | (simp at *; omega)))
theorem drem_nil {w : World} {v : Value} (h : NilD w v) (s : Value) : Calls Tryz.prog 19 #[v, s] w fun e w' => e = .returned (.tuple #[.agg #[.string ⟨#[]⟩, .slice none 0 0, .int .u64 0, .int .u64 0], .int .i64 1]) ∧ Pure w w' := by
  have hp0 : Pure w (w.alloc (.cells #[.string ⟨#[]⟩, .slice none 0 0, .int .u64 0, .int .u64 0] 42)) := (Mod.refl _ w).alloc _
  have HZ := Lib.hid (dzero_nil (h.pure hp0))
  clear h hp0
  go_enter Tryz.func19, Tryz.ntmps19
  go_wp2_with (go_at_call 64; refine Calls.mono HZ.out ?_; rintro e w' ⟨rfl, rfl⟩)
  refine bodyPost_ret (v := .tuple #[.agg #[.string ⟨#[]⟩, .slice none 0 0, .int .u64 0, .int .u64 0], .int .i64 1]) (by simp [results, Tryz.results19, go_sem]) rfl ⟨rfl, ?_⟩
  (repeat' (first | (with_reducible exact Mod.refl _ _) | (with_reducible refine Mod.alloc ?_ _) | (with_reducible refine Mod.drew ?_) | (with_reducible refine Mod.drewN ?_ _) | (with_reducible refine Mod.setCell ?_ ?_ _) | (refine Mod.then ?_ (by with_reducible assumption) ?_)))
  (all_goals (intros; first | (exfalso; assumption) | omega | (simp at *; done) | (simp at *; omega)))
theorem dnext_nil {w : World} {v : Value} (h : NilD w v) (s : Value) : Calls Tryz.prog 36 #[v, s] w fun e w' => e = .returned (.tuple #[.int .u32 0, .int .i64 1]) ∧ w = w' := by
  have HZ := Lib.hid (dzero_nil h)
  clear h
  go_enter Tryz.func36, Tryz.ntmps36
  go_wp2_with (go_at_call 64; refine Calls.mono HZ.out ?_; rintro e w' ⟨rfl, rfl⟩)
  go_ret2
  exact ⟨rfl, rfl⟩
theorem dset_nil {w : World} {v : Value} (h : NilD w v) (s x dl : Value) : Calls Tryz.prog 38 #[v, s, x, dl] w fun e w' => e = .returned (.int .i64 1) ∧ w = w' := by
  have HZ := Lib.hid (dzero_nil h)
  clear h
  go_enter Tryz.func38, Tryz.ntmps38
  go_wp2_with (go_at_call 64; refine Calls.mono HZ.out ?_; rintro e w' ⟨rfl, rfl⟩)
  go_ret
  exact ⟨rfl, rfl⟩
theorem dlen_nil {w : World} {v : Value} (h : NilD w v) : Calls Tryz.prog 22 #[v] w fun e w' => e = .returned (.int .i64 0) ∧ w = w' := by
  have HZ := Lib.hid (dzero_nil h)
  clear h
  go_enter Tryz.func22, Tryz.ntmps22
  go_wp2_with (go_at_call 64; refine Calls.mono HZ.out ?_; rintro e w' ⟨rfl, rfl⟩)
  go_ret
  exact ⟨rfl, rfl⟩
theorem dcopy_nil {w : World} {v : Value} (h : NilD w v) : Calls Tryz.prog 42 #[v] w fun e w' => e = .returned (.pointer none) ∧ w = w' := by
  have HZ := Lib.hid (dzero_nil h)
  clear h
  go_enter Tryz.func42, Tryz.ntmps42
  go_wp2_with (go_at_call 64; refine Calls.mono HZ.out ?_; rintro e w' ⟨rfl, rfl⟩)
  go_ret
  exact ⟨rfl, rfl⟩
theorem dhash_nil {w : World} {v : Value} (h : NilD w v) : Calls Tryz.prog 41 #[v] w fun e w' => e = .returned (.agg #[.int .u64 0, .bool false]) ∧ Pure w w' := by
  have hp0 : Pure w (w.alloc (.cells #[.int .u64 0, .bool false] 27)) := (Mod.refl _ w).alloc _
  have HZ := Lib.hid (dzero_nil (h.pure hp0))
  clear h hp0
  go_enter Tryz.func41, Tryz.ntmps41
  go_wp2_with (go_at_call 64; refine Calls.mono HZ.out ?_; rintro e w' ⟨rfl, rfl⟩)
  refine bodyPost_ret (v := .agg #[.int .u64 0, .bool false]) (by simp [results, Tryz.results41, go_sem]) rfl ⟨rfl, ?_⟩
  (repeat' (first | (with_reducible exact Mod.refl _ _) | (with_reducible refine Mod.alloc ?_ _) | (with_reducible refine Mod.drew ?_) | (with_reducible refine Mod.drewN ?_ _) | (with_reducible refine Mod.setCell ?_ ?_ _) | (refine Mod.then ?_ (by with_reducible assumption) ?_)))
  (all_goals (intros; first | (exfalso; assumption) | omega | (simp at *; done) | (simp at *; omega)))
theorem dfind_nil {w : World} {v : Value} (h : NilD w v) (k : Value) (hk : ∃ s, k = .string s) : Calls Tryz.prog 51 #[v, k] w fun e w' => e = .returned (.tuple #[.int .u32 0, .int .i64 1]) ∧ Pure w w' := by
  obtain ⟨s, rfl⟩ := hk
  have hv : ∃ p, v = .pointer p := by rcases h with rfl | ⟨b, rfl, _⟩ <;> exact ⟨_, rfl⟩
  obtain ⟨p, rfl⟩ := hv
  have hp0 : Pure w ((w.alloc (.cells #[.pointer p] 24)).alloc (.cells #[.string s] 9)) := ((Mod.refl _ w).alloc _).alloc _
  have HZ := Lib.hid (dzero_nil (h.pure hp0))
  have HP := Lib.hid hp0
  clear h hp0
  go_enter Tryz.func51, Tryz.ntmps51
  go_wp2_with (go_at_call 64; refine Calls.mono HZ.out ?_; rintro e w' ⟨rfl, rfl⟩)
  go_ret2
  exact ⟨rfl, HP.out⟩
theorem dsizes_nil {w : World} {v : Value} (h : NilD w v) : Calls Tryz.prog 50 #[v] w fun e w' => e = .returned (.tuple #[.int .i64 0, .int .i64 0, .int .i64 0]) ∧ w = w' := by
  have HZ := Lib.hid (dzero_nil h)
  clear h
  go_enter Tryz.func50, Tryz.ntmps50
  go_wp2_with (go_at_call 64; refine Calls.mono HZ.out ?_; rintro e w' ⟨rfl, rfl⟩)
  refine bodyPost_ret (v := .tuple #[.int .i64 0, .int .i64 0, .int .i64 0]) (by simp [results, Tryz.results50, go_sem]) rfl ⟨rfl, rfl⟩
theorem finds10_nil {w : World} {v : Value} (h : NilD w v) (s : ByteArray) : Calls Tryz.prog 37 #[v, .string s, .int .u32 0, .int .i64 1] w fun e w' => e = .returned (.bool true) ∧ Pure w w' := by
  have HI := Lib.hid (dfind_nil h (.string s) ⟨s, rfl⟩)
  clear h
  go_enter Tryz.func37, Tryz.ntmps37
  go_wp2_with (go_at_call 51; refine Calls.mono HI.out ?_; rintro e w1 ⟨rfl, hp⟩)
  go_ret
  exact ⟨rfl, hp⟩
theorem sizes10_nil {w : World} {v : Value} (h : NilD w v) : Calls Tryz.prog 16 #[v, .int .i64 0, .int .i64 0, .int .i64 0] w fun e w' => e = .returned (.bool true) ∧ w = w' := by
  have HI := Lib.hid (dsizes_nil h)
  clear h
  go_enter Tryz.func16, Tryz.ntmps16
  go_wp2_with (go_at_call 50; refine Calls.mono HI.out ?_; rintro e w1 ⟨rfl, rfl⟩)
  go_ret
  exact ⟨rfl, rfl⟩

/-! ### logs -/
/-- A log that is nil or zero. -/
def NilL (w : World) (v : Value) : Prop := v = .pointer none ∨ ∃ q, v = .pointer (some ⟨q, 0, none⟩) ∧ w.heap[q]? = some (.cells #[.bool false, .slice none 0 0, .int .i64 0] 92 (0, 0))
theorem NilL.pure {w w' : World} {v : Value} (h : NilL w v) (hp : Pure w w') : NilL w' v := by
  rcases h with h | ⟨b, h1, h2⟩
  · exact .inl h
  · exact .inr ⟨b, h1, hp.heap (fun h => h) h2⟩
theorem lcopy_nil {w : World} {v : Value} (h : NilL w v) : Calls Tryz.prog 91 #[v] w fun e w' => e = .returned (.pointer none) ∧ w = w' := by
  rcases h with rfl | ⟨q, rfl, h⟩
  · go_enter Tryz.func91, Tryz.ntmps91
    go_wp2_with (go_at_call 86; refine Calls.mono (zero_nil _) ?_; rintro e w' ⟨rfl, rfl⟩)
    go_ret
    exact ⟨rfl, rfl⟩
  · have h_0 := cell_of_row _ _ 0 _ _ _ h; have h_1 := cell_of_row _ _ 1 _ _ _ h; have h_2 := cell_of_row _ _ 2 _ _ _ h; have h_f := (fun j => frozen_of_row _ _ j _ _ h); have h_l := lt_of_block h; simp at h_0 h_1 h_2; have H_h := Lib.hid h; clear h
    go_enter Tryz.func91, Tryz.ntmps91
    go_wp2_with (go_at_call 86; refine Calls.mono (zero_made q false _ h_0) ?_; rintro e w' ⟨rfl, rfl⟩)
    go_ret
    exact ⟨rfl, rfl⟩
set_option maxHeartbeats 800000 in
theorem of_nil {w : World} {v : Value} (h : NilL w v) (seed : Int) (same : Bool) : Calls Tryz.prog 29 #[.agg #[.int .u64 seed, .bool same], v] w fun e w' => e = .returned (.tuple #[.pointer none, .int .i64 1]) ∧ Pure w w' := by
  have hp0 : Pure w (((w.alloc (.cells #[.int .u64 seed, .bool same] 27)).alloc (.cells #[.pointer none] 24)).alloc (.cells #[.int .i64 0] 44)) := (((Mod.refl _ w).alloc _).alloc _).alloc _
  have z4 := heap_keep (o := .cells #[.int .i64 0] 44) (heap_new (w := w.alloc (.cells #[.int .u64 seed, .bool same] 27)) (o := .cells #[.pointer none] 24 (0, 0)) (n := w.heap.size + 1) (by simp))
  have z5 := heap_new (w := (w.alloc (.cells #[.int .u64 seed, .bool same] 27)).alloc (.cells #[.pointer none] 24)) (o := .cells #[.int .i64 0] 44 (0, 0)) (n := w.heap.size + 1 + 1) (by simp)
  have HC := Lib.hid (lcopy_nil (h.pure hp0))
  have HP := Lib.hid hp0
  clear h hp0
  (refine (callsIn_wide (n := 0)).1 (callsIn_of_wp_marks Tryz.func29 rfl trivial (wpIn_wide.2 ?_) rfl); simp only [Tryz.ntmps29, List.size_toArray, List.length_cons, List.length_nil, Nat.reduceAdd, Nat.reduceSub, Array.replicate_succ, Array.replicate_zero, List.push_toArray, List.append_toArray, List.nil_append, List.cons_append])
  go_upto_region 1 with fail
  generalize (((w.alloc (.cells #[.int .u64 seed, .bool same] 27)).alloc (.cells #[.pointer none] 24)).alloc (.cells #[.int .i64 0] 44)) = W1 at *
  obtain ⟨b4, hb4⟩ : ∃ b, w.heap.size + 1 = b := ⟨_, rfl⟩
  rw [hb4] at z4 z5 ⊢
  have hb4w : w.heap.size < b4 := by omega
  clear hb4
  have Z4 := Lib.hid z4; have Z5 := Lib.hid z5
  have z4_0 := cell_of_row _ _ 0 _ _ _ z4; have z4_f := (fun j => frozen_of_row _ _ j _ _ z4); have z4_l := lt_of_block z4; simp at z4_0; have H_z4 := Lib.hid z4; clear z4
  have z5_0 := cell_of_row _ _ 0 _ _ _ z5; have z5_f := (fun j => frozen_of_row _ _ j _ _ z5); have z5_l := lt_of_block z5; simp at z5_0; have H_z5 := Lib.hid z5; clear z5
  go_wp2_with (go_at_call 91; refine Calls.mono HC.out ?_; rintro e w2 ⟨rfl, rfl⟩)
  have hm2 : Mod (fun k => k = b4 ∨ k = b4 + 1) W1 ((W1.setCell ⟨b4, 0, none⟩ (.pointer none)).setCell ⟨b4 + 1, 0, none⟩ (.int .i64 1)) := ((Mod.set1 b4 0 _).mono (fun _ _ h => .inl h)).trans ((Mod.set1 (b4 + 1) 0 _).mono (fun _ _ h => .inr h))
  have e4 := heap_set_other (a := ⟨b4 + 1, 0, none⟩) (v := .int .i64 1) (heap_set1 (j := 0) (v := .pointer none) Z4.out) (by show b4 ≠ b4 + 1; omega)
  have e5 := heap_set1 (j := 0) (v := .int .i64 1) (heap_set_other (a := ⟨b4, 0, none⟩) (v := .pointer none) Z5.out (by show b4 + 1 ≠ b4; omega))
  have y4 := cell_of_row _ _ 0 _ _ _ e4; have y5 := cell_of_row _ _ 0 _ _ _ e5
  simp at y4 y5
  exact ⟨.tuple #[.pointer none, .int .i64 1], by simp [results, Tryz.results29, go_sem, y4, y5], rfl, HP.out.then hm2 (fun k hk e => by omega)⟩
end Go.Proofs.YtpafcocciggfpaaGreat
