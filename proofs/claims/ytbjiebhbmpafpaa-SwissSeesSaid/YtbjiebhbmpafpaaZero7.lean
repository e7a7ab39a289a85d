/- The contracts of a nil and of a zero index; functions that are nil. -/
import Derived.Test.YtbjiebhbmpafpaaOps
namespace Go.Proofs.Ytbjiebhbmpafpaa
open Go.RowKit Go.Shelf
set_option maxRecDepth 100000

/-- A nil index, or a zero one. -/
def ZIx (W : World) (v : Value) : Prop := v = .pointer none ∨ ∃ p, v = .pointer (some ⟨p, 0, none⟩) ∧ W.heap[p]? = some (.cells #[.slice none 0 0, .int .i64 0, .int .i64 0] 98 (0, 0))
theorem ZIx.pure {W W' : World} {v : Value} (h : ZIx W v) (hp : Pure W W') : ZIx W' v := by
  rcases h with h | ⟨p, e, hb⟩
  · exact .inl h
  · exact .inr ⟨p, e, hp.heap (fun h => h) hb⟩
theorem zzero_ok {W : World} {v : Value} (h : ZIx W v) : Calls Try.prog 79 #[v] W fun e w' => e = .returned (.bool true) ∧ W = w' := by
  rcases h with rfl | ⟨p, rfl, hb⟩
  · go_enter Try.func79, Try.ntmps79
    go_wp2
    all_goals go_ret
    all_goals exact ⟨rfl, rfl⟩
  · have hb_0 := cell_of_row _ _ 0 _ _ _ hb; have hb_1 := cell_of_row _ _ 1 _ _ _ hb; have hb_2 := cell_of_row _ _ 2 _ _ _ hb; have hb_f := (fun j => frozen_of_row _ _ j _ _ hb); have hb_l := lt_of_block hb; simp at hb_0 hb_1 hb_2; have H_hb := Lib.hid hb; clear hb
    go_enter Try.func79, Try.ntmps79
    go_wp2
    all_goals go_ret
    all_goals exact ⟨rfl, rfl⟩
/-- The end of a function that holds a range over a function, ahead of it. -/
theorem bodyPostM_plain {P : Program} {fn : Func} {R : Ending → World → Prop} {tmps : Array Value} {w : World} (v : Value) (hr : (results fn tmps).run P w = .ok v w) (hR : R (.returned v) w) : bodyPostM Fence.wide 0 P fn R .ret { tmps := tmps, defers := [] } w := ⟨v, hr, hR⟩
section
variable {W : World} {v : Value}
theorem zFind_ok (h : ZIx W v) (s : Int) : Calls Try.prog 49 #[v, .int .u64 s, Value.nilFunc] W fun e w' => e = .returned (.tuple #[.int .u32 0, .int .i64 1]) ∧ Pure W w' := by
  have HZ := Lib.hid (zzero_ok h)
  clear h
  go_enter Try.func49, Try.ntmps49
  go_wp2_with (go_at_call 79; refine Calls.mono HZ.out ?_; rintro e w' ⟨rfl, rfl⟩)
  exact bodyPost_ret (v := .tuple #[.int .u32 0, .int .i64 1]) (by simp [results, Try.results49, go_sem]) rfl ⟨rfl, Mod.refl _ _⟩
theorem zRehash_ok (h : ZIx W v) (g : Int) : Calls Try.prog 42 #[v, .int .i64 g, Value.nilFunc] W fun e w' => e = .returned (.tuple #[.pointer none, .int .i64 1]) ∧ Pure W w' := by
  have hp : Pure W (W.alloc (.cells #[Value.nilFunc] 76)) := (Mod.refl _ W).alloc _
  have HZ := Lib.hid (zzero_ok (h.pure hp))
  clear h
  (refine (callsIn_wide (n := 0)).1 (callsIn_of_wp_marks Try.func42 rfl trivial (wpIn_wide.2 ?_) rfl); simp only [Try.ntmps42, List.size_toArray, List.length_cons, List.length_nil, Nat.reduceAdd, Nat.reduceSub, Array.replicate_succ, Array.replicate_zero, List.push_toArray, List.append_toArray, List.nil_append, List.cons_append])
  go_wp2_with (go_at_call 79; refine Calls.mono HZ.out ?_; rintro e w' ⟨rfl, rfl⟩)
  exact bodyPostM_plain (.tuple #[.pointer none, .int .i64 1]) (by simp [results, Try.results42, go_sem]) ⟨rfl, hp⟩
theorem zLayout_ok (h : ZIx W v) : Calls Try.prog 52 #[v] W fun e w' => e = .returned (.tuple #[.slice none 0 0, .slice none 0 0]) ∧ Pure W w' := by
  have HZ := Lib.hid (zzero_ok h)
  clear h
  go_enter Try.func52, Try.ntmps52
  go_wp2_with (go_at_call 79; refine Calls.mono HZ.out ?_; rintro e w' ⟨rfl, rfl⟩)
  exact bodyPost_ret (v := .tuple #[.slice none 0 0, .slice none 0 0]) (by simp [results, Try.results52, go_sem]) rfl ⟨rfl, Mod.refl _ _⟩
theorem zInsert_ok (h : ZIx W v) (s l : Int) : Calls Try.prog 37 #[v, .int .u64 s, .int .u32 l] W fun e w' => e = .returned (.int .i64 1) ∧ Pure W w' := by
  obtain ⟨z, rfl⟩ : ∃ z, v = .pointer z := by
    rcases h with rfl | ⟨p, rfl, _⟩ <;> exact ⟨_, rfl⟩
  have hp : Pure W ((((W.alloc (.cells #[.pointer z] 69)).alloc (.cells #[.int .u64 s] 45)).alloc (.cells #[.int .u32 l] 43)).alloc (.cells #[.int .i64 0] 35)) := by (repeat' (first | (with_reducible exact Mod.refl _ _) | (with_reducible refine Mod.alloc ?_ _) | (with_reducible refine Mod.drew ?_) | (with_reducible refine Mod.drewN ?_ _) | (with_reducible refine Mod.setCell ?_ ?_ _) | (refine Mod.then ?_ (by with_reducible assumption) ?_)))
  have z3 : ((((W.alloc (.cells #[.pointer z] 69)).alloc (.cells #[.int .u64 s] 45)).alloc (.cells #[.int .u32 l] 43)).alloc (.cells #[.int .i64 0] 35)).heap[W.heap.size]? = some (.cells #[.pointer z] 69 (0, 0)) := heap_keep (heap_keep (heap_keep (heap_new rfl)))
  have z6 : ((((W.alloc (.cells #[.pointer z] 69)).alloc (.cells #[.int .u64 s] 45)).alloc (.cells #[.int .u32 l] 43)).alloc (.cells #[.int .i64 0] 35)).heap[W.heap.size + 1 + 1 + 1]? = some (.cells #[.int .i64 0] 35 (0, 0)) := heap_new (by simp)
  have hz := h.pure hp
  (refine (callsIn_wide (n := 0)).1 (callsIn_of_wp_marks Try.func37 rfl trivial (wpIn_wide.2 ?_) rfl); simp only [Try.ntmps37, List.size_toArray, List.length_cons, List.length_nil, Nat.reduceAdd, Nat.reduceSub, Array.replicate_succ, Array.replicate_zero, List.push_toArray, List.append_toArray, List.nil_append, List.cons_append])
  go_upto_region 1 with fail
  generalize (((W.alloc (.cells #[.pointer z] 69)).alloc (.cells #[.int .u64 s] 45)).alloc (.cells #[.int .u32 l] 43)).alloc (.cells #[.int .i64 0] 35) = W1 at *
  have hb : W.heap.size < W1.heap.size := lt_of_block z3
  obtain ⟨b, hbe⟩ : ∃ b, W.heap.size = b := ⟨_, rfl⟩
  rw [hbe] at z3 z6 ⊢
  have HB := Lib.hid hbe
  clear hbe
  have HZ := Lib.hid (zzero_ok hz)
  have HP := Lib.hid hp
  clear h hz hp
  have z3_0 := cell_of_row _ _ 0 _ _ _ z3; have z3_f := (fun j => frozen_of_row _ _ j _ _ z3); have z3_l := lt_of_block z3; simp at z3_0; have H_z3 := Lib.hid z3; clear z3
  have z6_0 := cell_of_row _ _ 0 _ _ _ z6; have z6_f := (fun j => frozen_of_row _ _ j _ _ z6); have z6_l := lt_of_block z6; simp at z6_0; have H_z6 := Lib.hid z6; clear z6
  go_wp2_with (go_at_call 79; refine Calls.mono HZ.out ?_; rintro e w' ⟨rfl, rfl⟩)
  have hm : Mod (fun k => k = b + 1 + 1 + 1) W1 (W1.setCell ⟨b + 1 + 1 + 1, 0, none⟩ (.int .i64 1)) := Mod.set1 _ _ _
  have y6 := cell_of_row _ _ 0 _ _ _ (heap_set1 (j := 0) (v := .int .i64 1) H_z6.out)
  simp at y6
  exact bodyPostM_plain (.int .i64 1) (by simp [results, Try.results37, go_sem, y6]) ⟨rfl, HP.out.then hm (fun k hk e => by have := HB.out; omega)⟩
theorem zRemove_ok (h : ZIx W v) (s l : Int) : Calls Try.prog 41 #[v, .int .u64 s, .int .u32 l] W fun e w' => e = .returned (.int .i64 1) ∧ Pure W w' := by
  have hp : Pure W (W.alloc (.cells #[.int .u32 l] 43)) := (Mod.refl _ W).alloc _
  have HZ := Lib.hid (zzero_ok (h.pure hp))
  clear h
  go_enter Try.func41, Try.ntmps41
  go_wp2_with (go_at_call 79; refine Calls.mono HZ.out ?_; rintro e w' ⟨rfl, rfl⟩)
  go_ret
  exact ⟨rfl, hp⟩
theorem zReplace_ok (h : ZIx W v) (s l m : Int) : Calls Try.prog 53 #[v, .int .u64 s, .int .u32 l, .int .u32 m] W fun e w' => e = .returned (.int .i64 1) ∧ Pure W w' := by
  have hp : Pure W (W.alloc (.cells #[.int .u32 l] 43)) := (Mod.refl _ W).alloc _
  have HZ := Lib.hid (zzero_ok (h.pure hp))
  clear h
  go_enter Try.func53, Try.ntmps53
  go_wp2_with (go_at_call 79; refine Calls.mono HZ.out ?_; rintro e w' ⟨rfl, rfl⟩)
  go_ret
  exact ⟨rfl, hp⟩
theorem zGroups_ok (h : ZIx W v) : Calls Try.prog 54 #[v] W fun e w' => e = .returned (.int .i64 0) ∧ Pure W w' := by
  have HZ := Lib.hid (zzero_ok h)
  clear h
  go_enter Try.func54, Try.ntmps54
  go_wp2_with (go_at_call 79; refine Calls.mono HZ.out ?_; rintro e w' ⟨rfl, rfl⟩)
  go_ret
  exact ⟨rfl, Mod.refl _ _⟩
theorem zLen_ok (h : ZIx W v) : Calls Try.prog 39 #[v] W fun e w' => e = .returned (.int .i64 0) ∧ Pure W w' := by
  have HZ := Lib.hid (zzero_ok h)
  clear h
  go_enter Try.func39, Try.ntmps39
  go_wp2_with (go_at_call 79; refine Calls.mono HZ.out ?_; rintro e w' ⟨rfl, rfl⟩)
  go_ret
  exact ⟨rfl, Mod.refl _ _⟩
theorem zTombs_ok (h : ZIx W v) : Calls Try.prog 44 #[v] W fun e w' => e = .returned (.int .i64 0) ∧ Pure W w' := by
  have HZ := Lib.hid (zzero_ok h)
  clear h
  go_enter Try.func44, Try.ntmps44
  go_wp2_with (go_at_call 79; refine Calls.mono HZ.out ?_; rintro e w' ⟨rfl, rfl⟩)
  go_ret
  exact ⟨rfl, Mod.refl _ _⟩
theorem zCopy_ok (h : ZIx W v) : Calls Try.prog 55 #[v] W fun e w' => e = .returned (.pointer none) ∧ Pure W w' := by
  have HZ := Lib.hid (zzero_ok h)
  clear h
  go_enter Try.func55, Try.ntmps55
  go_wp2_with (go_at_call 79; refine Calls.mono HZ.out ?_; rintro e w' ⟨rfl, rfl⟩)
  go_ret
  exact ⟨rfl, Mod.refl _ _⟩
end
/-! ### functions that are nil -/
theorem run_equal_nil {P : Program} (w : World) (d : Nat) (t : TypeId) {ps rs : Array TypeId} {v : Bool} (h : P.underlying t = some (.func ps rs v)) : (Op.equalIn (d + 1) t Value.nilFunc Value.nilFunc).run P w = .ok true w := by
  simp [Op.equalIn, run_underlying h]
@[go_sem] theorem eql_nil1 (w : World) : (binOp .eql 92 Value.nilFunc Value.nilFunc).run Try.prog w = .ok (.bool true) w := by
  simp only [binOp]
  simp [Op.equal, Op.maxDepth, run_equal_nil w 9999 _ Try.underlying92]
@[go_sem] theorem eql_nil2 (w : World) : (binOp .eql 76 Value.nilFunc Value.nilFunc).run Try.prog w = .ok (.bool true) w := by
  simp only [binOp]
  simp [Op.equal, Op.maxDepth, run_equal_nil w 9999 _ Try.underlying76]
theorem nFind_ok {w W : World} {p : Nat} {sv : Value} {Gs : List Grp} (h : Has w p sv Gs W) (s : Int) : Calls Try.prog 49 #[.pointer (some ⟨p, 0, none⟩), .int .u64 s, Value.nilFunc] W fun e w' => e = .returned (.tuple #[.int .u32 0, .int .i64 2]) ∧ W = w' := by
  obtain ⟨B, c, rfl, hc, hB, hDB, hBf, hcells⟩ := h.ix.at
  have zp := h.ix.box
  have HZ := Lib.hid (fun (hW : W.cell? ⟨p, 0, none⟩ = _) => izero_ok (w := W) (c := c) (a := some ⟨B, 0, none⟩) hW h.ix.ok.pow.pos h.ix.ok.pow.le)
  clear hcells h hBf
  have zp_0 := cell_of_row _ _ 0 _ _ _ zp; have zp_1 := cell_of_row _ _ 1 _ _ _ zp; have zp_2 := cell_of_row _ _ 2 _ _ _ zp; have zp_f := (fun j => frozen_of_row _ _ j _ _ zp); have zp_l := lt_of_block zp; simp at zp_0 zp_1 zp_2; have H_zp := Lib.hid zp; clear zp
  go_enter Try.func49, Try.ntmps49
  go_wp2_with (go_at_call 79; refine Calls.mono (HZ.out zp_0) ?_; rintro e w' ⟨rfl, rfl⟩)
  exact bodyPost_ret (v := .tuple #[.int .u32 0, .int .i64 2]) (by simp [results, Try.results49, go_sem]) rfl ⟨rfl, rfl⟩
theorem nRehash_ok {w W : World} {p : Nat} {sv : Value} {Gs : List Grp} (h : Has w p sv Gs W) (g : Nat) (hg : Pow g) : Calls Try.prog 42 #[.pointer (some ⟨p, 0, none⟩), .int .i64 g, Value.nilFunc] W fun e w' => e = .returned (.tuple #[.pointer none, .int .i64 2]) ∧ Pure W w' := by
  have hp : Pure W (W.alloc (.cells #[Value.nilFunc] 76)) := (Mod.refl _ W).alloc _
  have hb5 := heap_new (w := W) (o := (.cells #[Value.nilFunc] 76 (0, 0))) rfl
  obtain ⟨B, c, rfl, hc, hB, hDB, hBf, hcells⟩ := h.ix.at
  have zp := hp.heap (fun h => h) h.ix.box
  have HZ := Lib.hid (fun (W : World) (hW : W.cell? ⟨p, 0, none⟩ = _) => izero_ok (w := W) (c := c) (a := some ⟨B, 0, none⟩) hW h.ix.ok.pow.pos h.ix.ok.pow.le)
  have HN := Lib.hid (fun W => New_ok g W hg)
  have HP := Lib.hid hp
  clear hcells h hBf hp
  (refine (callsIn_wide (n := 0)).1 (callsIn_of_wp_marks Try.func42 rfl trivial (wpIn_wide.2 ?_) rfl); simp only [Try.ntmps42, List.size_toArray, List.length_cons, List.length_nil, Nat.reduceAdd, Nat.reduceSub, Array.replicate_succ, Array.replicate_zero, List.push_toArray, List.append_toArray, List.nil_append, List.cons_append])
  go_upto_region 1 with fail
  generalize W.alloc (.cells #[Value.nilFunc] 76) = W1 at *
  generalize W.heap.size = b at *
  have zp_0 := cell_of_row _ _ 0 _ _ _ zp; have zp_1 := cell_of_row _ _ 1 _ _ _ zp; have zp_2 := cell_of_row _ _ 2 _ _ _ zp; have zp_f := (fun j => frozen_of_row _ _ j _ _ zp); have zp_l := lt_of_block zp; simp at zp_0 zp_1 zp_2; have H_zp := Lib.hid zp; clear zp
  go_upto_region 3 with (go_at_call 79; refine Calls.mono (HZ.out _ zp_0) ?_; rintro e w' ⟨rfl, rfl⟩)
  go_upto_region 4 with (go_at_call 36; refine Calls.mono (HN.out _) ?_; rintro e w2 ⟨p2, sv2, rfl, hix2, hp2, _⟩)
  have hp3 : Pure w2 (w2.alloc (.cells #[.pointer (some ⟨p2, 0, none⟩)] 69)) := (Mod.refl _ w2).alloc _
  have z5 := (hp2.trans hp3).heap (fun h => h) hb5
  have HP2 := Lib.hid (HP.out.trans (hp2.trans hp3))
  clear hix2 hp2 hp3 hb5
  generalize w2.alloc (.cells #[.pointer (some ⟨p2, 0, none⟩)] 69) = W3 at *
  have z5_0 := cell_of_row _ _ 0 _ _ _ z5; have z5_f := (fun j => frozen_of_row _ _ j _ _ z5); have z5_l := lt_of_block z5; simp at z5_0; have H_z5 := Lib.hid z5; clear z5
  go_wp2
  exact bodyPostM_plain (.tuple #[.pointer none, .int .i64 2]) (by simp [results, Try.results42, go_sem]) ⟨rfl, HP2.out⟩
end Go.Proofs.Ytbjiebhbmpafpaa
