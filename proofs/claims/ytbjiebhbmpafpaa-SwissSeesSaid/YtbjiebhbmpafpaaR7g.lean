/- The reference of layer 7: Rehash where it fails. -/
import Derived.Test.YtbjiebhbmpafpaaR7f
namespace Go.Proofs.Ytbjiebhbmpafpaa
open Go.RowKit Go.Shelf
set_option maxRecDepth 100000

def badR (w : World) (z : Int) (e : Ending) (w' : World) : Prop := e = .returned (.tuple #[.agg #[.slice none 0 0, .slice none 0 0], .int .i64 z]) ∧ Pure w w'
set_option maxHeartbeats 2000000 in
theorem rRehash_bad {w : World} {aC : Option Addr} {cC : Nat} {aS : Option Addr} {cS : Nat} {n : Nat} (z f m : Int) (hz : validM z = false) : Calls Try.prog 98 #[.agg #[.slice aC n cC, .slice aS n cS], .int .i64 z, .int .u64 f, .int .u64 m] w (badR w 2) := by
  have hp : Pure w ((w.alloc (.cells #[.slice aC n cC, .slice aS n cS] 82)).alloc (.cells #[.slice none 0 0, .slice none 0 0] 82)) := ((Mod.refl _ w).alloc _).alloc _
  have h8 := heap_new (w := w.alloc (.cells #[.slice aC n cC, .slice aS n cS] 82)) (o := .cells #[.slice none 0 0, .slice none 0 0] 82 (0, 0)) (n := w.heap.size + 1) (by simp)
  have HN := Lib.hid (fun W => rNew_bad z hz W)
  go_enter Try.func98, Try.ntmps98
  go_upto_region 1 with fail
  generalize (w.alloc (.cells #[.slice aC n cC, .slice aS n cS] 82)).alloc (.cells #[.slice none 0 0, .slice none 0 0] 82) = W at *
  obtain ⟨b, hb⟩ : ∃ b, w.heap.size = b := ⟨_, rfl⟩
  rw [hb] at h8 ⊢
  have HB := Lib.hid hb; have HP := Lib.hid hp; have H8 := Lib.hid h8
  clear hb hp h8
  go_upto_region 2 with (go_at_call 46; refine Calls.mono (HN.out _) ?_; rintro e w2 ⟨rfl, hp2⟩)
  have hp3 := hp2.trans ((Mod.refl (fun _ => False) w2).alloc (.cells #[.slice none 0 0, .slice none 0 0] 82))
  have z8 := hp3.heap (fun h => h) H8.out
  have HP3 := Lib.hid (HP.out.trans hp3)
  clear hp2 hp3
  generalize w2.alloc (.cells #[.slice none 0 0, .slice none 0 0] 82) = W3 at *
  have z8_0 := cell_of_row _ _ 0 _ _ _ z8; have z8_1 := cell_of_row _ _ 1 _ _ _ z8; have z8_f := (fun j => frozen_of_row _ _ j _ _ z8); have z8_l := lt_of_block z8; simp at z8_0 z8_1; have H_z8 := Lib.hid z8; clear z8
  go_wp2
  have m2 := heap_set12 (v0 := .slice none 0 0) (v1 := .slice none 0 0) H_z8.out
  have hm : Mod (fun i => i = b + 1) W3 ((W3.setCell ⟨b + 1, 0, none⟩ (.slice none 0 0)).setCell ⟨b + 1, 1, none⟩ (.slice none 0 0)) := Mod.set2 (b + 1) 0 1 _ _
  have x0 := cell_of_row _ (b + 1) 0 _ _ _ m2; have x1 := cell_of_row _ (b + 1) 1 _ _ _ m2
  simp at x0 x1
  exact bodyPost_ret (v := .tuple #[.agg #[.slice none 0 0, .slice none 0 0], .int .i64 2]) (by simp [results, Try.results98, go_sem, x0, x1]) rfl ⟨rfl, HP3.out.then hm (fun i hi e => by have := HB.out; omega)⟩
set_option maxHeartbeats 2000000 in
theorem rRehash_full {w : World} {aC : Option Addr} {cC : Nat} {aS : Option Addr} {cS : Nat} {Gs : List Grp} (h : RefI w aC cC aS cS Gs) (g : Nat) (f m : Int) (hg : Pow g) (hu : 8 * g < usedN Gs) : Calls Try.prog 98 #[.agg #[.slice aC (8 * Gs.length) cC, .slice aS (8 * Gs.length) cS], .int .i64 g, .int .u64 f, .int .u64 m] w (badR w 7) := by
  have hgg := hg.le
  have hul := h.ok.used_le
  have hR0 := RBox.new h
  have HOK := Lib.hid h.ok
  have hal : Pure (w.alloc (.cells #[.slice aC (8 * Gs.length) cC, .slice aS (8 * Gs.length) cS] 82)) ((w.alloc (.cells #[.slice aC (8 * Gs.length) cC, .slice aS (8 * Gs.length) cS] 82)).alloc (.cells #[.slice none 0 0, .slice none 0 0] 82)) := (Mod.refl _ _).alloc _
  have hR := hR0.pure hal
  have h6 := heap_new (w := w.alloc (.cells #[.slice aC (8 * Gs.length) cC, .slice aS (8 * Gs.length) cS] 82)) (o := .cells #[.slice none 0 0, .slice none 0 0] 82 (0, 0)) (n := w.heap.size + 1) (by simp)
  clear h hR0 hal
  have HNw := Lib.hid (fun W => rNew_ok g hg W)
  go_enter Try.func98, Try.ntmps98
  go_upto_region 1 with fail
  generalize (w.alloc (.cells #[.slice aC (8 * Gs.length) cC, .slice aS (8 * Gs.length) cS] 82)).alloc (.cells #[.slice none 0 0, .slice none 0 0] 82) = W at *
  obtain ⟨b, hb⟩ : ∃ b, w.heap.size = b := ⟨_, rfl⟩
  rw [hb] at hR h6 ⊢
  have HR := Lib.hid (RRh.mk (o := []) hR.pu hR.bx h6 hR.rf)
  have HB := Lib.hid hb
  clear hR h6 hb
  unfold refI at HNw
  rw [newG_length] at HNw
  go_upto_region 2 with (go_at_call 46; refine Calls.mono (HNw.out _) ?_; rintro e w2 ⟨a2, c2, a3, c3, rfl, hri, hp2, _⟩)
  have hp3 := hp2.trans ((Mod.refl (fun _ => False) w2).alloc (.cells #[.slice a2 (8 * g) c2, .slice a3 (8 * g) c3] 82))
  replace HR := Lib.hid (HR.out.pure hp3)
  have hcn := rCount_ok HR.out.ro 0 127 (by decide) (by decide)
  rw [cnt_used HOK.out] at hcn
  unfold refI at hcn
  have hbx := HR.out.hb
  have HCn := Lib.hid hcn
  clear hcn hri hp2 hp3 HNw
  generalize w2.alloc (.cells #[.slice a2 (8 * g) c2, .slice a3 (8 * g) c3] 82) = W3 at *
  have w8 : IntKind.i64.wrap (8 * (g : Int)) = 8 * (g : Int) := IntWalk.i64_in _ (by omega)
  have hu' : 8 * (g : Int) < (usedN Gs : Int) := by omega
  have hbx_0 := cell_of_row _ _ 0 _ _ _ hbx; have hbx_1 := cell_of_row _ _ 1 _ _ _ hbx; have hbx_f := (fun j => frozen_of_row _ _ j _ _ hbx); have hbx_l := lt_of_block hbx; simp at hbx_0 hbx_1; have H_hbx := Lib.hid hbx; clear hbx
  go_upto_region 5 with (go_at_call 104; refine Calls.mono HCn.out ?_; rintro e w4 ⟨rfl, hp4⟩)
  replace HR := Lib.hid (HR.out.pure hp4)
  have z8 := HR.out.h8
  clear hbx_0 hbx_1 hbx_f hbx_l
  clear H_hbx hp4 HCn
  have z8_0 := cell_of_row _ _ 0 _ _ _ z8; have z8_1 := cell_of_row _ _ 1 _ _ _ z8; have z8_f := (fun j => frozen_of_row _ _ j _ _ z8); have z8_l := lt_of_block z8; simp at z8_0 z8_1; have H_z8 := Lib.hid z8; clear z8
  go_wp2
  have m2 := heap_set12 (v0 := .slice none 0 0) (v1 := .slice none 0 0) H_z8.out
  have hm : Mod (fun i => i = b + 1) w4 ((w4.setCell ⟨b + 1, 0, none⟩ (.slice none 0 0)).setCell ⟨b + 1, 1, none⟩ (.slice none 0 0)) := Mod.set2 (b + 1) 0 1 _ _
  have x0 := cell_of_row _ (b + 1) 0 _ _ _ m2; have x1 := cell_of_row _ (b + 1) 1 _ _ _ m2
  simp at x0 x1
  exact bodyPost_ret (v := .tuple #[.agg #[.slice none 0 0, .slice none 0 0], .int .i64 7]) (by simp [results, Try.results98, go_sem, x0, x1]) rfl ⟨rfl, HR.out.pu.then hm (fun i hi e => by have := HB.out; omega)⟩
end Go.Proofs.Ytbjiebhbmpafpaa
