/- swiss.Index.Copy; the hashes of law07.do. -/
import Derived.Test.YtbjiebhbmpafpaaSw2
namespace Go.Proofs.Ytbjiebhbmpafpaa
open Go.RowKit Go.Shelf
set_option maxRecDepth 100000

def clonedAs (T k : Nat) (xs : List Value) (w : World) (e : Ending) (w' : World) : Prop :=
  ∃ a n c, e = .returned (.slice a n c) ∧ w'.ownsRow 0 T k (.slice a n c) n xs ∧ (∀ g, (Value.slice a n c).ownBlock = some g → w.heap.size ≤ g) ∧ Pure w w'
theorem owns_none (w : World) (T k : Nat) : (w.alloc (.cells #[] T)).ownsRow 0 T k (.slice (some ⟨w.heap.size, 0, none⟩) 0 0) 0 [] :=
  ⟨by simp, .inr ⟨_, _, #[], rfl, Nat.zero_le _, heap_alloc_new w _, Nat.le_refl _, by simp [maxLen], by simp, by simp⟩⟩
theorem cloned_end (T k : Nat) (xs : List Value) (w w' : World) (a : Option Addr) (m c : Nat)
    (ho : w'.ownsRow 0 T k (.slice a m c) m xs) (hg : (w.alloc (.cells #[] T)).grownBy w' (some w.heap.size)) (hb : (Value.slice a m c).ownBlock = some w.heap.size ∨ (Value.slice a m c).ownBlock = some (w.heap.size + 1)) :
    clonedAs T k xs w (.returned (.slice a m c)) w' := by
  exact ⟨a, m, c, rfl, ho, fun g e => by rcases hb with hb | hb <;> (rw [hb] at e; cases e; omega),
    ((Mod.refl _ w).alloc _).trans' (Mod.of_grown (S := fun k => w.heap.size ≤ k) hg (fun k e _ => by cases e; exact Nat.le_refl _)) (fun _ _ h => h) (fun i hi h => by omega)⟩
theorem read_len {w : World} {a : Option Addr} {n c k : Nat} {xs : List Value} (h : ReadAt w (.slice a n c) k xs) : xs.length = n * k := by
  obtain ⟨a', n', c', he, hl, _⟩ := h
  cases he
  exact hl
@[go_sem] theorem eql_nil_groups (w : World) (a : Option Addr) (n c : Nat) : (binOp .eql 96 (.slice a n c) (.slice none 0 0)).run Try.prog w = .ok (.bool a.isNone) w :=
  Lib.run_eql_slice_nil w _ _ a n c 0 0 Try.underlying96
set_option maxHeartbeats 400000 in
theorem clone_groups (ad : Addr) (n c : Nat) (xs : List Value) (w : World) (hx : ReadAt w (.slice (some ad) n c) 9 xs) (hn : n ≤ 1048576) :
    Calls Try.prog 107 #[.slice (some ad) n c] w (clonedAs 140 9 xs w) := by
  obtain ⟨i0, hi, hz0, hz1, hz2⟩ := info_parts infoGroup
  have hlen : xs.length = n * 9 := read_len hx
  have H := Lib.hid (hx.frame ((Mod.refl (fun _ => False) w).alloc (.cells #[] 140)) (fun _ _ h => h)); clear hx
  have HO := Lib.hid (owns_none w 140 9)
  go_enter Try.func107, Try.ntmps107
  go_wp2_with (at_builtin; refine wpList_append_read _ rfl _ _ 96 rfl 140 i0 _ 9 40 Try.underlying96 hi hz0 hz1 hz2 rfl (by decide) _ 0 [] rfl HO.out _ xs n rfl H.out hlen (by unfold maxLen; omega) (by omega) ?_; intro a' c' w1 ho hg hb)
  go_ret
  simp only [List.nil_append, Nat.zero_add, World.size_alloc] at ho hb
  exact cloned_end _ _ _ _ _ _ _ _ ho hg hb
def copyIx (w : World) (Gs : List Grp) (e : Ending) (w' : World) : Prop :=
  ∃ q sv', e = .returned (.pointer (some ⟨q, 0, none⟩)) ∧ IxRow w' (fun k => k = q ∨ sv'.ownBlock = some k) q sv' Gs ∧ Pure w w' ∧ w.heap.size ≤ q ∧ ∀ k, sv'.ownBlock = some k → w.heap.size ≤ k
set_option maxHeartbeats 1000000 in
theorem ICopy_ok {w : World} {D : Nat → Prop} {p : Nat} {sv : Value} {Gs : List Grp} (h : IxRow w D p sv Gs) : Calls Try.prog 55 #[.pointer (some ⟨p, 0, none⟩)] w (copyIx w Gs) := by
  have HX := Lib.hid h
  have HR := Lib.hid (ReadAt.of_owns h.row (groupCells_one Gs))
  obtain ⟨B, c, rfl, hc, hB, hDB, hBf, hcells⟩ := h.at
  have zp := h.box
  have hn := h.ok.pow.le
  have HZ := Lib.hid (fun (hW : w.cell? ⟨p, 0, none⟩ = _) => izero_ok (w := w) (c := c) (a := some ⟨B, 0, none⟩) hW h.ok.pow.pos h.ok.pow.le)
  clear hcells h hBf
  have zp_0 := cell_of_row _ _ 0 _ _ _ zp; have zp_1 := cell_of_row _ _ 1 _ _ _ zp; have zp_2 := cell_of_row _ _ 2 _ _ _ zp; have zp_f := (fun j => frozen_of_row _ _ j _ _ zp); have zp_l := lt_of_block zp; simp at zp_0 zp_1 zp_2; have H_zp := Lib.hid zp; clear zp
  go_enter Try.func55, Try.ntmps55
  go_upto_region 3 with (go_at_call 79; refine Calls.mono (HZ.out zp_0) ?_; rintro e w' ⟨rfl, rfl⟩)
  have q0 : w.drew.cell? ⟨p, 0, none⟩ = _ := zp_0
  have q1 : w.drew.cell? ⟨p, 1, none⟩ = _ := zp_1
  have q2 : w.drew.cell? ⟨p, 2, none⟩ = _ := zp_2
  go_region_held3 (fun w' => w'.cell? ⟨p, 0, none⟩ = some (.slice (some ⟨B, 0, none⟩) Gs.length c) ∧ w'.cell? ⟨p, 1, none⟩ = some (.int .i64 (usedN Gs)) ∧ w'.cell? ⟨p, 2, none⟩ = some (.int .i64 (tombN Gs)))
    (first | exact ⟨q0, q1, q2⟩ | exact ⟨hp.cell (fun h => h) q0, hp.cell (fun h => h) q1, hp.cell (fun h => h) q2⟩ | exact ⟨(hp.alloc _).cell (fun h => h) q0, (hp.alloc _).cell (fun h => h) q1, (hp.alloc _).cell (fun h => h) q2⟩)
    ((go_at_call 107; refine Calls.mono (clone_groups ⟨B, 0, none⟩ Gs.length c _ _ (HR.out.frame ((Mod.refl (fun _ => False) w).drew) (fun _ _ h => h)) hn) ?_; rintro e w1 ⟨a', n', c', rfl, hr, hf, hp⟩))
  go_wp2
  go_ret
  obtain rfl := owns_len hr (by decide) (flat_length groupCells 9 groupCells_length Gs)
  have hp' : Pure w w1 := hp.of_drew
  refine ⟨w1.heap.size, .slice a' Gs.length c', rfl, ⟨heap_new rfl, owns_mod hr ((Mod.refl (fun _ => False) w1).alloc _) (fun _ _ h => h), fun k => Iff.rfl, HX.out.ok⟩, hp'.alloc _, hp'.size, fun k hk => hf k hk⟩
/-- A call of the law. -/
structure ActV where
  what : Int
  sum : Nat
  slot : Nat
  other : Nat
  groups : Int
structure ActV.Ok (a : ActV) : Prop where
  sum : a.sum < 18446744073709551616
  slot : a.slot ≤ 4294967295
  other : a.other ≤ 4294967295
def actCells (a : ActV) : List Value := [.int .i64 a.what, .int .u64 (a.sum : Nat), .int .u32 (a.slot : Nat), .int .u32 (a.other : Nat), .int .i64 a.groups]
theorem do1_ok {W : World} {b : Nat} {a : ActV} (ha : a.Ok) (h : W.heap[b]? = some (.cells (actCells a).toArray 86 (0, 0))) (s : Nat) (hs : s ≤ 4294967295) : Calls Try.prog 97 #[.int .u32 s, .pointer (some ⟨b, 0, none⟩)] W fun e w' => e = .returned (.int .u64 (sumM a.sum a.other s)) ∧ W = w' := by
  unfold actCells at h
  have w1 : IntKind.u64.wrap (a.other : Int) = a.other := u64_wrap a.other (by have := ha.other; omega)
  have HS := Lib.hid (fun W => Sum_ok s a.sum a.other W hs ha.sum (by have := ha.other; omega))
  have h_0 := cell_of_row _ _ 0 _ _ _ h; have h_1 := cell_of_row _ _ 1 _ _ _ h; have h_2 := cell_of_row _ _ 2 _ _ _ h; have h_3 := cell_of_row _ _ 3 _ _ _ h; have h_4 := cell_of_row _ _ 4 _ _ _ h; have h_f := (fun j => frozen_of_row _ _ j _ _ h); have h_l := lt_of_block h; simp at h_0 h_1 h_2 h_3 h_4; have H_h := Lib.hid h; clear h
  obtain ⟨r, hr⟩ : ∃ r, sumM a.sum a.other s = r := ⟨_, rfl⟩
  rw [hr] at HS ⊢
  clear hr
  go_enter Try.func97, Try.ntmps97
  go_wp2_with (go_at_call 38; refine Calls.mono (HS.out _) ?_; rintro e w' ⟨rfl, rfl⟩)
  go_ret
  exact ⟨rfl, rfl⟩
theorem do_closure {w : World} {b : Nat} {a : ActV} (ha : a.Ok) (h : w.heap[b]? = some (.cells (actCells a).toArray 86 (0, 0))) :
    SumOk Try.prog 97 #[.pointer (some ⟨b, 0, none⟩)] (sumM a.sum a.other) (fun _ => True) (fun W => W.heap[b]? = some (.cells (actCells a).toArray 86 (0, 0))) w := by
  have hb := lt_of_block h
  exact ⟨enters_of Try.func97 (by kernel_rfl) rfl, fun s W hs _ hJ => callsIn_wide.2 ((do1_ok ha hJ s hs).mono (fun e w' ⟨h1, h2⟩ => ⟨h1, by subst h2; exact Mod.refl _ _⟩)), fun s => sumM_lt _ _ _, fun A B hJ hm => hm.heap (by omega) hJ, h⟩
end Go.Proofs.Ytbjiebhbmpafpaa
