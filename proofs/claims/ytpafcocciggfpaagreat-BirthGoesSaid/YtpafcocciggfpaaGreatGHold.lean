/- dict.Get of an entry; what BirthGoes keeps. -/
import Derived.Test.YtpafcocciggfpaaGreatGPlain
namespace Go.Proofs.YtpafcocciggfpaaGreat
open Go.RowKit Go.Shelf
set_option maxRecDepth 100000

theorem infoU64 : (Tryz.prog.info? 22).map (fun i => (i.zero, i.size, i.bytes)) = some (some (.int .u64 0), 1, 8) := by kernel_rfl
theorem infoBool : (Tryz.prog.info? 4).map (fun i => (i.zero, i.size, i.bytes)) = some (some (.bool false), 1, 1) := by kernel_rfl
def dgetPost (w : World) (x : Ent) (e : Ending) (w' : World) : Prop :=
  ∃ a n c, e = .returned (.tuple #[.agg #[.string x.key, .slice a n c, .int .u64 x.dl, .int .u64 x.birth], .int .i64 0]) ∧ BytesAt w' (.slice a n c) (bytesOf x.val) ∧ Fresh w (.slice a n c) ∧ Pure w w'
set_option maxHeartbeats 1000000 in
theorem dget_ok {w : World} {D : Nat → Prop} {d seed : Nat} {same : Bool} {L : List (Option Ent)} {Gs : List Grp} (h : DictAt w D d seed same L Gs) {s : Nat} {x : Ent} (hx : L[s]? = some (some x)) : Calls Tryz.prog 35 #[dPtr d, .int .u32 s] w (dgetPost w x) := by
  obtain ⟨q, p, sv, Dl, h1, h2, h3⟩ := h
  have hsl : s < L.length := (List.getElem?_eq_some_iff.1 hx).1
  have hs : s ≤ 4294967295 := by have := h1.log.ok.len; omega
  have hp0 : Pure w (w.alloc (.cells #[.string ⟨#[]⟩, .slice none 0 0, .int .u64 0, .int .u64 0] 42)) := (Mod.refl _ w).alloc _
  have z4 := heap_new (w := w) (o := .cells #[.string ⟨#[]⟩, .slice none 0 0, .int .u64 0, .int .u64 0] 42 (0, 0)) rfl
  have HZ := Lib.hid (dzero_ok (h1.pure hp0))
  have HG := Lib.hid (Get_any (h1.log.pure hp0) s hs)
  unfold getA at HG
  rw [hx] at HG
  have hb := (h1.pure hp0).box
  have HP := Lib.hid hp0
  clear h1 h2 h3 hp0 hx
  go_enter Tryz.func35, Tryz.ntmps35
  go_upto_region 1 with fail
  generalize w.alloc (.cells #[.string ⟨#[]⟩, .slice none 0 0, .int .u64 0, .int .u64 0] 42) = W1 at *
  obtain ⟨b4, hb4⟩ : ∃ b, w.heap.size = b := ⟨_, rfl⟩
  rw [hb4] at z4 ⊢
  have HB := Lib.hid hb4
  clear hb4
  have Z4 := Lib.hid z4
  have hb_0 := cell_of_row _ _ 0 _ _ _ hb; have hb_1 := cell_of_row _ _ 1 _ _ _ hb; have hb_2 := cell_of_row _ _ 2 _ _ _ hb; have hb_3 := cell_of_row _ _ 3 _ _ _ hb; have hb_f := (fun j => frozen_of_row _ _ j _ _ hb); have hb_l := lt_of_block hb; simp at hb_0 hb_1 hb_2 hb_3; have H_hb := Lib.hid hb; clear hb
  have z4_0 := cell_of_row _ _ 0 _ _ _ z4; have z4_1 := cell_of_row _ _ 1 _ _ _ z4; have z4_2 := cell_of_row _ _ 2 _ _ _ z4; have z4_3 := cell_of_row _ _ 3 _ _ _ z4; have z4_f := (fun j => frozen_of_row _ _ j _ _ z4); have z4_l := lt_of_block z4; simp at z4_0 z4_1 z4_2 z4_3; have H_z4 := Lib.hid z4; clear z4
  go_wp2_with (first
    | (go_at_call 64; refine Calls.mono HZ.out ?_; rintro e w' ⟨rfl, rfl⟩)
    | (go_at_call 99; refine Calls.mono HG.out ?_; rintro e w2 ⟨a, n, c, rfl, hby, hfr, hp2⟩; have k0 := hp2.cell (fun h => h) z4_0; have k1 := hp2.cell (fun h => h) z4_1; have k2 := hp2.cell (fun h => h) z4_2; have k3 := hp2.cell (fun h => h) z4_3; have kf : ∀ j, w2.frozen? ⟨b4, j, none⟩ = false := (fun j => (hp2.cells.2 b4 j z4_l).trans (z4_f j)); have kl := hp2.lt z4_l))
  obtain ⟨Y, hY⟩ : ∃ Y, (((w2.setCell ⟨b4, 0, none⟩ (.string x.key)).setCell ⟨b4, 1, none⟩ (.slice a n c)).setCell ⟨b4, 2, none⟩ (.int .u64 x.dl)).setCell ⟨b4, 3, none⟩ (.int .u64 x.birth) = Y := ⟨_, rfl⟩
  have y4 := hp2.heap (fun h => h) Z4.out
  obtain ⟨g1, g2⟩ := fin4 y4 hY
  rw [hY]
  have x0 := cell_of_row _ _ 0 _ _ _ g2; have x1 := cell_of_row _ _ 1 _ _ _ g2; have x2 := cell_of_row _ _ 2 _ _ _ g2; have x3 := cell_of_row _ _ 3 _ _ _ g2
  simp at x0 x1 x2 x3
  refine bodyPost_ret (v := .tuple #[.agg #[.string x.key, .slice a n c, .int .u64 x.dl, .int .u64 x.birth], .int .i64 0]) (by simp [results, Tryz.results35, go_sem, x0, x1, x2, x3]) rfl ⟨a, n, c, rfl, ?_, ?_, ?_⟩
  · exact bytes_frame hby g1 (fun k _ e cs fz e2 => by subst e; rw [y4] at e2; cases e2)
  · intro g e; have := hfr g e; have := HP.out.size; omega
  · exact (HP.out.trans hp2).then g1 (fun i hi e => by have := HB.out; omega)
section
variable {w W W' : World} {d seed : Nat} {same : Bool} {L : List (Option Ent)}
theorem getT (h : DF w W d seed same L) {s : Nat} {x : Ent} (hx : L[s]? = some (some x)) : Calls Tryz.prog 35 #[dPtr d, .int .u32 s] W (dgetPost W x) := by
  obtain ⟨D, Gs, h1, h2, h3⟩ := h
  exact dget_ok h1 hx
def remT2Post (w W : World) (d seed : Nat) (same : Bool) (L : List (Option Ent)) (s : Nat) (e : Ending) (w' : World) : Prop :=
  (∃ x a n c, L[s]? = some (some x) ∧ e = .returned (.tuple #[.agg #[.string x.key, .slice a n c, .int .u64 x.dl, .int .u64 x.birth], .int .i64 0]) ∧ DF w w' d seed same (L.set s none) ∧ TKeep W w') ∨
  (e = .returned (.tuple #[.agg #[.string ⟨#[]⟩, .slice none 0 0, .int .u64 0, .int .u64 0], .int .i64 9]) ∧ DF w w' d seed same L ∧ Pure W w')
theorem remT2 (h : DF w W d seed same L) (s : Nat) (hs : s ≤ 4294967295) : Calls Tryz.prog 19 #[dPtr d, .int .u32 s] W (remT2Post w W d seed same L s) := by
  obtain ⟨D, Gs, h1, h2, h3⟩ := h
  cases hb : hasL L s with
  | false =>
    refine Calls.mono (drem_miss h1 hs hb) ?_
    rintro e w' ⟨rfl, hp⟩
    exact .inr ⟨rfl, ⟨D, Gs, h1.pure hp, h2.trans hp, h3⟩, hp⟩
  | true =>
    obtain ⟨x, hx⟩ := hasL_iff.1 hb
    refine Calls.mono (drem_ok h1 hx) ?_
    rintro e w' ⟨a, n, c, rfl, _, _, D', g1, g2, g3⟩
    refine .inl ⟨x, a, n, c, hx, rfl, ⟨D', _, g1, h2.then g2 (fun i hi e => by have := h3 i e; omega), fun k hk => ?_⟩, TKeep.of (w := W) h1 g2⟩
    rcases g3 k hk with e | e
    · exact h3 k e
    · exact Nat.le_trans h2.size e
theorem TKeep.row (h : TKeep W W') {T k n : Nat} {v : Value} {xs : List Value} (ho : W.ownsRow 0 T k v n xs) (ht : T ≠ 81 ∧ T ≠ 92 ∧ T ≠ 42 ∧ T ≠ 187 ∧ T ≠ 190) : W'.ownsRow 0 T k v n xs :=
  owns_heap ho (fun g hg _ => by
    obtain ⟨cc, e2⟩ := owns_type ho hg
    rw [h.box e2 ht, e2])
end
end Go.Proofs.YtpafcocciggfpaaGreat
