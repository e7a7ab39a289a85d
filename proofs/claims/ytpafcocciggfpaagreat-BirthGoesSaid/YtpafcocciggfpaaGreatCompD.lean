/- compact.Dict of a dictionary. -/
import Derived.Test.YtpafcocciggfpaaGreatOf2
import Derived.Test.YtpafcocciggfpaaGreatCompact
namespace Go.Proofs.YtpafcocciggfpaaGreat
open Go.RowKit Go.Shelf
set_option maxRecDepth 100000

/-! ### the log without tombstones -/
def packL (L : List (Option Ent)) : List (Option Ent) := (live L).map (fun g => some g.2)
theorem packL_get {L : List (Option Ent)} {i : Nat} {e : Ent} (h : (packL L)[i]? = some (some e)) : ∃ s, (live L)[i]? = some (s, e) ∧ L[s]? = some (some e) := by
  unfold packL at h
  rw [List.getElem?_map] at h
  cases hg : (live L)[i]? with
  | none => rw [hg] at h; cases h
  | some g =>
    rw [hg] at h
    simp at h
    subst h
    exact ⟨g.1, rfl, live_mem (List.mem_of_getElem? hg)⟩
theorem live_idx {L : List (Option Ent)} {i j s : Nat} {e f : Ent} (h1 : (live L)[i]? = some (s, e)) (h2 : (live L)[j]? = some (s, f)) : i = j := by
  have hup := liveFrom_up' L 0
  rw [show liveFrom 0 L = live L from rfl, List.pairwise_iff_getElem] at hup
  obtain ⟨hi, ei⟩ := List.getElem?_eq_some_iff.1 h1
  obtain ⟨hj, ej⟩ := List.getElem?_eq_some_iff.1 h2
  rcases Nat.lt_trichotomy i j with h | h | h
  · have := hup i j (by simpa using hi) (by simpa using hj) h
    simp [ei, ej] at this
  · exact h
  · have := hup j i (by simpa using hj) (by simpa using hi) h
    simp [ei, ej] at this
theorem packL_keys {L : List (Option Ent)} (h : KeysOk L) : KeysOk (packL L) := by
  intro i j e f hi hj hk
  obtain ⟨s, h1, h2⟩ := packL_get hi
  obtain ⟨t, h3, h4⟩ := packL_get hj
  have := h s t e f h2 h4 hk
  subst this
  exact live_idx h1 h3
theorem dhash_ok {w : World} {D : Nat → Prop} {d seed : Nat} {same : Bool} {L : List (Option Ent)} {Gs : List Grp} (h : DictAt w D d seed same L Gs) : Calls Tryz.prog 41 #[dPtr d] w fun e w' => e = .returned (.agg #[.int .u64 seed, .bool same]) ∧ Pure w w' := by
  obtain ⟨q, p, sv, Dl, h1, h2, h3⟩ := h
  have hp0 : Pure w (w.alloc (.cells #[.int .u64 0, .bool false] 27)) := (Mod.refl _ w).alloc _
  have z := heap_new (w := w) (o := .cells #[.int .u64 0, .bool false] 27 (0, 0)) rfl
  have HZ := Lib.hid (dzero_ok (h1.pure hp0))
  have hb := (h1.pure hp0).box
  have HP := Lib.hid hp0
  clear h1 h2 h3 hp0
  go_enter Tryz.func41, Tryz.ntmps41
  go_upto_region 1 with fail
  generalize w.alloc (.cells #[.int .u64 0, .bool false] 27) = W1 at *
  obtain ⟨b, hbe⟩ : ∃ b, w.heap.size = b := ⟨_, rfl⟩
  rw [hbe] at z ⊢
  have HB := Lib.hid hbe
  clear hbe
  have hb_0 := cell_of_row _ _ 0 _ _ _ hb; have hb_1 := cell_of_row _ _ 1 _ _ _ hb; have hb_2 := cell_of_row _ _ 2 _ _ _ hb; have hb_3 := cell_of_row _ _ 3 _ _ _ hb; have hb_f := (fun j => frozen_of_row _ _ j _ _ hb); have hb_l := lt_of_block hb; simp at hb_0 hb_1 hb_2 hb_3; have H_hb := Lib.hid hb; clear hb
  have z_0 := cell_of_row _ _ 0 _ _ _ z; have z_1 := cell_of_row _ _ 1 _ _ _ z; have z_f := (fun j => frozen_of_row _ _ j _ _ z); have z_l := lt_of_block z; simp at z_0 z_1; have H_z := Lib.hid z; clear z
  go_wp2_with (go_at_call 64; refine Calls.mono HZ.out ?_; rintro e w' ⟨rfl, rfl⟩)
  obtain ⟨f1, x0, x1⟩ := gfin (v0 := .int .u64 seed) (v1 := .bool same) H_z.out HP.out (by have := HB.out; omega) rfl
  obtain ⟨Y, hY⟩ : ∃ Y, (W1.setCell ⟨b, 0, none⟩ (.int .u64 seed)).setCell ⟨b, 1, none⟩ (.bool same) = Y := ⟨_, rfl⟩
  rw [hY] at f1 x0 x1 ⊢
  exact bodyPost_ret (v := .agg #[.int .u64 seed, .bool same]) (by simp [results, Tryz.results41, go_sem, x0, x1]) rfl ⟨rfl, f1⟩
def compAPost (w : World) (L : List (Option Ent)) (e : Ending) (w' : World) : Prop :=
  ∃ q a c D, e = .returned (.tuple #[.pointer (some ⟨q, 0, none⟩), .agg #[.slice a (live L).length c, .int .i64 L.length], .int .i64 0]) ∧ LogAt w' D q (packL L) ∧
    w'.ownsRow 0 43 1 (.slice a (live L).length c) (live L).length ((live L).map fun g => .int .u32 g.1) ∧ Pure w w' ∧ (∀ k, D k → w.heap.size ≤ k) ∧ Fresh w (.slice a (live L).length c)
theorem compA_ok {w : World} {D : Nat → Prop} {p : Nat} {L : List (Option Ent)} (h : LogAt w D p L) : Calls Tryz.prog 103 #[.pointer (some ⟨p, 0, none⟩)] w (compAPost w L) := by
  obtain ⟨sv, M, rfl, h⟩ := h
  refine Calls.mono (compact_Log h) ?_
  rintro e w' ⟨q, a, c, D', sv', M', rfl, h1, h2, h3, h4, h5, h6⟩
  exact ⟨q, a, c, D', by rw [List.length_map], ⟨sv', M', h2, h1⟩, h3, h4, h5, h6⟩
def compDPost (w : World) (seed : Nat) (same : Bool) (L : List (Option Ent)) (e : Ending) (w' : World) : Prop :=
  ∃ d2 D2 a c, e = .returned (.tuple #[.pointer (some ⟨d2, 0, none⟩), .agg #[.slice a (live L).length c, .int .i64 L.length], .int .i64 0]) ∧ DictAt w' D2 d2 seed same (packL L) (ofM seed same (packL L) (live (packL L))) ∧
    w'.ownsRow 0 43 1 (.slice a (live L).length c) (live L).length ((live L).map fun g => .int .u32 g.1) ∧ Pure w w' ∧ (∀ k, D2 k → w.heap.size ≤ k) ∧ Fresh w (.slice a (live L).length c)
set_option maxHeartbeats 2000000 in
theorem compD_ok {w : World} {D : Nat → Prop} {d seed : Nat} {same : Bool} {L : List (Option Ent)} {Gs : List Grp} (h : DictAt w D d seed same L Gs) : Calls Tryz.prog 46 #[dPtr d] w (compDPost w seed same L) := by
  have HD := Lib.hid h
  have hsd := h.sd
  have HKO := Lib.hid (packL_keys h.keeps.keys)
  have hp0 : Pure w (w.alloc (.cells #[.slice none 0 0, .int .i64 0] 98)) := (Mod.refl _ w).alloc _
  have z3 := heap_new (w := w) (o := .cells #[.slice none 0 0, .int .i64 0] 98 (0, 0)) rfl
  have HLg := Lib.hid (dlog_ok (h.pure hp0))
  have HP := Lib.hid hp0
  clear h hp0
  go_enter Tryz.func46, Tryz.ntmps46
  go_upto_region 1 with fail
  generalize w.alloc (.cells #[.slice none 0 0, .int .i64 0] 98) = W1 at *
  obtain ⟨b3, hb3⟩ : ∃ b, w.heap.size = b := ⟨_, rfl⟩
  rw [hb3] at z3 ⊢
  have HB3 := Lib.hid hb3
  clear hb3
  go_upto_region 2 with (first
    | (go_at_call 40; refine Calls.mono HLg.out ?_; rintro e w2 ⟨q, Dq, rfl, hq, hp2, hDq⟩; dsimp only [logPtr] at *; have HCL := Lib.hid (compA_ok hq))
    | (go_at_call 103; refine Calls.mono HCL.out ?_; rintro e w3 ⟨q3, a, c, D3, rfl, hlog3, hrow3, hp3, hD3, hfr3⟩))
  have hpa : Pure w3 (w3.alloc (.cells #[.slice a (live L).length c, .int .i64 L.length] 98)) := (Mod.refl _ w3).alloc _
  have z6 := heap_new (w := w3) (o := .cells #[.slice a (live L).length c, .int .i64 L.length] 98 (0, 0)) rfl
  have hpw := ((hp2.trans hp3).trans hpa)
  have HL3 := Lib.hid (hlog3.pure hpa)
  have HROW := Lib.hid (owns_mod (show w3.ownsRow 0 43 1 (.slice a (live L).length c) (live L).length ((live L).map fun g => .int .u32 g.1) from hrow3) hpa (fun _ _ h => h))
  have h12 : W1.heap.size ≤ w2.heap.size := hp2.size
  have h23 : w2.heap.size ≤ w3.heap.size := hp3.size
  have h01 : w.heap.size ≤ W1.heap.size := HP.out.size
  have hfr : Hid (Fresh w (.slice a (live L).length c)) := fun g e => by have := hfr3 g e; omega
  have zz3 := hpw.heap (fun h => h) z3
  have hb3l : b3 < w2.heap.size := Nat.lt_of_lt_of_le (lt_of_block z3) h12
  replace HP := Lib.hid (HP.out.trans hpw)
  clear hlog3 hrow3 hpa hpw hp2 hp3 hfr3 hD3 hq HCL HLg z3 hDq
  generalize hW4 : w3.alloc (.cells #[.slice a (live L).length c, .int .i64 L.length] 98) = W4 at *
  clear hW4
  obtain ⟨b6, hb6⟩ : ∃ b, w3.heap.size = b := ⟨_, rfl⟩
  rw [hb6] at z6 h23 ⊢
  clear hb6
  have HH := Lib.hid (dhash_ok (HD.out.pure HP.out))
  have HO := Lib.hid (fun (W : World) (hW : Pure W4 W) => of_ok (HL3.out.pure hW) seed same hsd)
  go_upto_region 5 with (first
    | (go_at_call 41; refine Calls.mono HH.out ?_; rintro e w5 ⟨rfl, hp5⟩)
    | (go_at_call 29; refine Calls.mono (HO.out _ hp5) ?_; rintro e w7 (⟨_, ⟨d2, D2, rfl, hd2, hD2⟩, hp7⟩ | ⟨hbad, _, _⟩); rotate_left 1; exact absurd HKO.out hbad))
  have hpx := hp5.trans hp7
  have y3 := hpx.heap (fun h => h) zz3; have y6 := hpx.heap (fun h => h) z6
  have HDD := Lib.hid hd2; have HD2 := Lib.hid hD2
  have HROW2 := Lib.hid (owns_mod HROW.out hpx (fun _ _ h => h))
  have HP7 := Lib.hid (HP.out.trans hpx)
  have h45 : W4.heap.size ≤ w5.heap.size := hp5.size
  have h04 : w.heap.size ≤ W4.heap.size := HP.out.size
  have Y3 := Lib.hid y3
  have hb36 : b3 ≠ b6 := by omega
  clear hd2 hD2 hp5 hp7 hpx HH HO HROW HP zz3 z6 HKO HL3
  have y3_0 := cell_of_row _ _ 0 _ _ _ y3; have y3_1 := cell_of_row _ _ 1 _ _ _ y3; have y3_f := (fun j => frozen_of_row _ _ j _ _ y3); have y3_l := lt_of_block y3; simp at y3_0 y3_1; have H_y3 := Lib.hid y3; clear y3
  have y6_0 := cell_of_row _ _ 0 _ _ _ y6; have y6_1 := cell_of_row _ _ 1 _ _ _ y6; have y6_f := (fun j => frozen_of_row _ _ j _ _ y6); have y6_l := lt_of_block y6; simp at y6_0 y6_1; have H_y6 := Lib.hid y6; clear y6
  go_upto_region 7 with fail
  go_region_held3 (fun w' => w'.cell? ⟨b6, 0, none⟩ = some (.slice a (live L).length c) ∧ w'.cell? ⟨b6, 1, none⟩ = some (.int .i64 L.length))
    (first | exact ⟨y6_0, y6_1⟩ | exact ⟨(Mod.set2 _ _ _ _ _).cell (fun e => hb36 e.symm) y6_0, (Mod.set2 _ _ _ _ _).cell (fun e => hb36 e.symm) y6_1⟩)
    (fail)
  all_goals
    try go_wp2
    obtain ⟨f1, x0, x1⟩ := gfin (w := w) (X := w7) (v0 := .slice a (live L).length c) (v1 := .int .i64 L.length) Y3.out HP7.out (by have := HB3.out; omega) rfl
    have hm : Mod (fun k => k = b3) w7 ((w7.setCell ⟨b3, 0, none⟩ (.slice a (live L).length c)).setCell ⟨b3, 1, none⟩ (.int .i64 L.length)) := Mod.set2 b3 0 1 _ _
    obtain ⟨Y, hY⟩ : ∃ Y, (w7.setCell ⟨b3, 0, none⟩ (.slice a (live L).length c)).setCell ⟨b3, 1, none⟩ (.int .i64 L.length) = Y := ⟨_, rfl⟩
    rw [hY] at f1 x0 x1 hm ⊢
    replace hm := hm.drew
    have x0' : Y.drew.cell? ⟨b3, 0, none⟩ = _ := x0
    have x1' : Y.drew.cell? ⟨b3, 1, none⟩ = _ := x1
    refine bodyPost_ret (v := .tuple #[.pointer (some ⟨d2, 0, none⟩), .agg #[.slice a (live L).length c, .int .i64 L.length], .int .i64 0]) (by simp [results, Tryz.results46, go_sem, x0, x1, x0', x1']) rfl ⟨d2, D2, a, c, rfl, HDD.out.frame hm (fun k hk e => ?_) (fun k _ e cs fz e2 => ?_), owns_mod HROW2.out hm (fun g hg e => ?_), f1.drew, fun k hk => ?_, hfr.out⟩
    · subst e
      rcases HDD.out.types hk Y3.out with e | e | e | e | e <;> cases e
    · subst e; rw [Y3.out] at e2; cases e2
    · subst e
      obtain ⟨cc, e2⟩ := owns_type HROW2.out hg
      rw [Y3.out] at e2; cases e2
    · have := HD2.out k hk; omega
end Go.Proofs.YtpafcocciggfpaaGreat
