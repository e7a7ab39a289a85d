/- dict: Find, New, Log, All, Insert. -/
import Derived.Test.YtpafcocciggfpaaGreatDict2
namespace Go.Proofs.YtpafcocciggfpaaGreat
open Go.RowKit Go.Shelf
set_option maxRecDepth 100000
section
variable {w : World} {d q p : Nat} {sv : Value} {Dl : Nat → Prop} {seed : Nat} {same : Bool} {L : List (Option Ent)} {Gs : List Grp}

/-! ### Find -/
set_option maxHeartbeats 800000 in
theorem dfind1_ok (h : DictMem w d q p sv Dl seed same L Gs) {b b1 : Nat} {key : ByteArray} (hb0 : w.heap[b]? = some (.cells #[dPtr d] 24 (0, 0))) (hb1 : w.heap[b1]? = some (.cells #[.string key] 9 (0, 0))) (s : Nat) (hs : s ≤ 4294967295) :
    Calls Tryz.prog 115 #[.int .u32 s, .pointer (some ⟨b, 0, none⟩), .pointer (some ⟨b1, 0, none⟩)] w fun e w' => e = .returned (.bool (keyL L s == key)) ∧ Pure w w' := by
  have HK := Lib.hid (fun W (hW : Pure w W) => skey_ok (h.log.pure hW) s hs)
  have hb := h.box
  clear h
  generalize keyL L s = ks at *
  have hb_0 := cell_of_row _ _ 0 _ _ _ hb; have hb_1 := cell_of_row _ _ 1 _ _ _ hb; have hb_2 := cell_of_row _ _ 2 _ _ _ hb; have hb_3 := cell_of_row _ _ 3 _ _ _ hb; have hb_f := (fun j => frozen_of_row _ _ j _ _ hb); have hb_l := lt_of_block hb; simp at hb_0 hb_1 hb_2 hb_3; have H_hb := Lib.hid hb; clear hb
  have hb0_0 := cell_of_row _ _ 0 _ _ _ hb0; have hb0_f := (fun j => frozen_of_row _ _ j _ _ hb0); have hb0_l := lt_of_block hb0; simp at hb0_0; have H_hb0 := Lib.hid hb0; clear hb0
  have hb1_0 := cell_of_row _ _ 0 _ _ _ hb1; have hb1_f := (fun j => frozen_of_row _ _ j _ _ hb1); have hb1_l := lt_of_block hb1; simp at hb1_0; have H_hb1 := Lib.hid hb1; clear hb1
  go_enter Tryz.func115, Tryz.ntmps115
  go_upto_region 1 with fail
  go_region_held3 (fun w' => w'.cell? ⟨d, 0, none⟩ = some (.pointer (some ⟨q, 0, none⟩)) ∧ w'.cell? ⟨b, 0, none⟩ = some (.pointer (some ⟨d, 0, none⟩)) ∧ w'.cell? ⟨b1, 0, none⟩ = some (.string key))
    (first | exact ⟨hb_0, hb0_0, hb1_0⟩ | exact ⟨hp1.cell (fun h => h) hb_0, hp1.cell (fun h => h) hb0_0, hp1.cell (fun h => h) hb1_0⟩)
    (first
      | (go_at_call 116; refine Calls.mono (HK.out _ (by (repeat' (first | (with_reducible exact Mod.refl _ _) | (with_reducible refine Mod.alloc ?_ _) | (with_reducible refine Mod.drew ?_) | (with_reducible refine Mod.drewN ?_ _) | (with_reducible refine Mod.setCell ?_ ?_ _) | (refine Mod.then ?_ (by with_reducible assumption) ?_))) <;> (all_goals (intros; first | (exfalso; assumption) | omega | (simp at *; done) | (simp at *; omega))))) ?_; rintro e w1 ⟨rfl, hp1⟩))
  go_wp2
  go_ret
  exact ⟨by rw [← ba_list]; rfl, Mod.of_drew hp1⟩
/-- What Find says of a key. -/
def findV (L : List (Option Ent)) (key : ByteArray) : Nat × Nat := match findK L key with
  | some s => (s, 0)
  | none => (0, 9)
def dfindPost (w : World) (L : List (Option Ent)) (key : ByteArray) (e : Ending) (w' : World) : Prop :=
  e = .returned (.tuple #[.int .u32 ((findV L key).1 : Nat), .int .i64 ((findV L key).2 : Nat)]) ∧ Pure w w'
set_option maxHeartbeats 1000000 in
theorem dfind_ok (h : DictMem w d q p sv Dl seed same L Gs) (hk : Keeps seed same L Gs) (key : ByteArray) (hkey : key.size ≤ 140737488355328) : Calls Tryz.prog 51 #[dPtr d, .string key] w (dfindPost w L key) := by
  have hp0 : Pure w ((w.alloc (.cells #[.pointer (some ⟨d, 0, none⟩)] 24)).alloc (.cells #[.string key] 9)) := ((Mod.refl _ w).alloc _).alloc _
  have z2 := heap_keep (o := .cells #[.string key] 9) (heap_new (w := w) (o := .cells #[.pointer (some ⟨d, 0, none⟩)] 24 (0, 0)) rfl)
  have z3 := heap_new (w := w.alloc (.cells #[.pointer (some ⟨d, 0, none⟩)] 24)) (o := .cells #[.string key] 9 (0, 0)) (n := w.heap.size + 1) (by simp)
  have HP := Lib.hid hp0
  have HM := Lib.hid (h.pure hp0)
  have HZ := Lib.hid (dzero_ok (h.pure hp0))
  have HSum := Lib.hid (fun W => HSum_ok seed same h.sd key hkey W)
  have hb := (h.pure hp0).box
  have HKE := Lib.hid hk
  have hsl : sumS seed same key < 18446744073709551616 := mixM_lt
  clear h hk hp0
  go_enter Tryz.func51, Tryz.ntmps51
  go_upto_region 1 with fail
  generalize ((w.alloc (.cells #[.pointer (some ⟨d, 0, none⟩)] 24)).alloc (.cells #[.string key] 9)) = W1 at *
  obtain ⟨b, hbe⟩ : ∃ b, w.heap.size = b := ⟨_, rfl⟩
  rw [hbe] at z2 z3 ⊢
  have HB := Lib.hid hbe
  clear hbe
  have HSame := Lib.hid (fun (W : World) (hW : Pure W1 W) => (⟨enters_of Tryz.func115 (by kernel_rfl) rfl, fun pre s W' hs hJ => by
      have := (callsIn_wide (n := 0)).2 (dfind1_ok (HM.out.pure hJ) (hJ.heap (fun h => h) z2) (hJ.heap (fun h => h) z3) s hs)
      exact this.mono (fun e w' ⟨h1, h2⟩ => ⟨h1, hJ.trans h2, ModC.of_pure h2⟩), fun pre A B hJ hm => hJ.then hm (fun i hi hs => by have := hs.1; have := hW.size; omega), fun _ h => h.elim, hW⟩ :
    SameOk Tryz.prog 115 #[.pointer (some ⟨b, 0, none⟩), .pointer (some ⟨b + 1, 0, none⟩)] (fun _ s => keyL L s == key) (fun _ => False) (fun _ W' => Pure W1 W') W))
  have HF := Lib.hid (fun (W : World) (hW : Pure W1 W) => IFind_ok (HM.out.ix.pure hW) _ hsl (HSame.out W hW))
  obtain ⟨hh, hhe⟩ : ∃ hh, sumS seed same key = hh := ⟨_, rfl⟩
  rw [hhe] at HF HSum hsl
  have HHE := Lib.hid hhe
  clear hhe HSame
  have hb_0 := cell_of_row _ _ 0 _ _ _ hb; have hb_1 := cell_of_row _ _ 1 _ _ _ hb; have hb_2 := cell_of_row _ _ 2 _ _ _ hb; have hb_3 := cell_of_row _ _ 3 _ _ _ hb; have hb_f := (fun j => frozen_of_row _ _ j _ _ hb); have hb_l := lt_of_block hb; simp at hb_0 hb_1 hb_2 hb_3; have H_hb := Lib.hid hb; clear hb
  have z2_0 := cell_of_row _ _ 0 _ _ _ z2; have z2_f := (fun j => frozen_of_row _ _ j _ _ z2); have z2_l := lt_of_block z2; simp at z2_0; have H_z2 := Lib.hid z2; clear z2
  have z3_0 := cell_of_row _ _ 0 _ _ _ z3; have z3_f := (fun j => frozen_of_row _ _ j _ _ z3); have z3_l := lt_of_block z3; simp at z3_0; have H_z3 := Lib.hid z3; clear z3
  go_upto_region 3 with (go_at_call 64; refine Calls.mono HZ.out ?_; rintro e w' ⟨rfl, rfl⟩)
  go_region_held3 (fun w' => w'.cell? ⟨d, 3, none⟩ = some (.pointer (some ⟨p, 0, none⟩)) ∧ w'.cell? ⟨d, 1, none⟩ = some (.int .u64 seed) ∧ w'.cell? ⟨d, 2, none⟩ = some (.bool same) ∧ w'.cell? ⟨b, 0, none⟩ = some (.pointer (some ⟨d, 0, none⟩)) ∧ w'.cell? ⟨b + 1, 0, none⟩ = some (.string key))
    (first | exact ⟨hb_3, hb_1, hb_2, z2_0, z3_0⟩ | exact ⟨hp1.cell (fun h => h) hb_3, hp1.cell (fun h => h) hb_1, hp1.cell (fun h => h) hb_2, hp1.cell (fun h => h) z2_0, hp1.cell (fun h => h) z3_0⟩ | exact ⟨(hp1.trans hp2).cell (fun h => h) hb_3, (hp1.trans hp2).cell (fun h => h) hb_1, (hp1.trans hp2).cell (fun h => h) hb_2, (hp1.trans hp2).cell (fun h => h) z2_0, (hp1.trans hp2).cell (fun h => h) z3_0⟩)
    (first
      | (go_at_call 114; refine Calls.mono (HSum.out _) ?_; rintro e w1 ⟨rfl, hp1⟩)
      | (go_at_call 113; refine Calls.mono (HF.out _ (by (repeat' (first | (with_reducible exact Mod.refl _ _) | (with_reducible refine Mod.alloc ?_ _) | (with_reducible refine Mod.drew ?_) | (with_reducible refine Mod.drewN ?_ _) | (with_reducible refine Mod.setCell ?_ ?_ _) | (refine Mod.then ?_ (by with_reducible assumption) ?_))) <;> (all_goals (intros; first | (exfalso; assumption) | omega | (simp at *; done) | (simp at *; omega))))) ?_; rintro e w2 hq; have he := HKE.out.find (by rw [HHE.out]; exact hq); have hp2 : Pure w1 w2 := Mod.mono hq.1 (fun k _ ⟨_, _, _, _, hf⟩ => hf); have he2 : e = .returned (.tuple #[.int .u32 ((findV L key).1 : Nat), .int .i64 ((findV L key).2 : Nat)]) := (by rw [he]; unfold findV; cases findK L key <;> rfl); clear hq he; subst he2))
  go_wp2
  all_goals
    go_ret2
    exact ⟨rfl, HP.out.trans ((Mod.of_drew hp1).trans hp2)⟩

/-! ### a dictionary -/
def DictAt (w : World) (D : Nat → Prop) (d seed : Nat) (same : Bool) (L : List (Option Ent)) (Gs : List Grp) : Prop :=
  ∃ q p sv Dl, DictMem w d q p sv Dl seed same L Gs ∧ Keeps seed same L Gs ∧ ∀ k, D k ↔ dictD d Dl p sv k
section
variable {w w' : World} {D S : Nat → Prop} {d seed : Nat} {same : Bool} {L : List (Option Ent)} {Gs : List Grp}
theorem DictAt.pure (h : DictAt w D d seed same L Gs) (hp : Pure w w') : DictAt w' D d seed same L Gs := by
  obtain ⟨q, p, sv, Dl, h1, h2, h3⟩ := h
  exact ⟨q, p, sv, Dl, h1.pure hp, h2, h3⟩
theorem DictAt.lt (h : DictAt w D d seed same L Gs) {k : Nat} (hk : D k) : k < w.heap.size := by
  obtain ⟨q, p, sv, Dl, h1, h2, h3⟩ := h
  exact h1.lt ((h3 k).1 hk)
theorem DictAt.types (h : DictAt w D d seed same L Gs) {k : Nat} (hk : D k) {cs : Array Value} {T : TypeId} {fz : Nat × Nat} (e : w.heap[k]? = some (.cells cs T fz)) :
    T = 81 ∨ T = 92 ∨ T = 42 ∨ T = 187 ∨ T = 190 := by
  obtain ⟨q, p, sv, Dl, h1, h2, h3⟩ := h
  exact h1.types ((h3 k).1 hk) e
theorem DictAt.frame (h : DictAt w D d seed same L Gs) (hm : Mod S w w') (hD : ∀ k, D k → ¬ S k) (hS : ∀ k, k < w.heap.size → S k → ∀ cs fz, w.heap[k]? ≠ some (.cells cs 5 fz)) : DictAt w' D d seed same L Gs := by
  obtain ⟨q, p, sv, Dl, h1, h2, h3⟩ := h
  exact ⟨q, p, sv, Dl, h1.frame hm (fun k hk => hD k ((h3 k).2 hk)) hS, h2, h3⟩
theorem DictAt.sd (h : DictAt w D d seed same L Gs) : seed < 18446744073709551616 := by
  obtain ⟨q, p, sv, Dl, h1, h2, h3⟩ := h
  exact h1.sd
theorem DictAt.ok (h : DictAt w D d seed same L Gs) : LogOk L := by
  obtain ⟨q, p, sv, Dl, h1, h2, h3⟩ := h
  exact h1.log.ok
theorem DictAt.keeps (h : DictAt w D d seed same L Gs) : Keeps seed same L Gs := by
  obtain ⟨q, p, sv, Dl, h1, h2, h3⟩ := h
  exact h2
theorem Find_any (h : DictAt w D d seed same L Gs) (key : ByteArray) (hkey : key.size ≤ 140737488355328) : Calls Tryz.prog 51 #[dPtr d, .string key] w (dfindPost w L key) := by
  obtain ⟨q, p, sv, Dl, h1, h2, h3⟩ := h
  exact dfind_ok h1 h2 key hkey

/-! ### New -/
def dnewPost (w : World) (seed : Nat) (same : Bool) (e : Ending) (w' : World) : Prop :=
  ∃ d D, e = .returned (dPtr d) ∧ DictAt w' D d seed same [] (newG 1) ∧ Pure w w' ∧ ∀ k, D k → w.heap.size ≤ k
set_option maxHeartbeats 1000000 in
theorem dnew_ok (seed : Nat) (same : Bool) (hs : seed < 18446744073709551616) (w : World) : Calls Tryz.prog 11 #[.agg #[.int .u64 seed, .bool same]] w (dnewPost w seed same) := by
  have hp0 : Pure w (w.alloc (.cells #[.int .u64 seed, .bool same] 27)) := (Mod.refl _ w).alloc _
  have z1 := heap_new (w := w) (o := .cells #[.int .u64 seed, .bool same] 27 (0, 0)) rfl
  have HN := Lib.hid (fun W => New_ok 1 W ⟨0, by decide, rfl⟩)
  have HL := Lib.hid (fun W => newA_ok W)
  have HP := Lib.hid hp0
  clear hp0
  go_enter Tryz.func11, Tryz.ntmps11
  go_upto_region 1 with fail
  generalize w.alloc (.cells #[.int .u64 seed, .bool same] 27) = W1 at *
  obtain ⟨b, hbe⟩ : ∃ b, w.heap.size = b := ⟨_, rfl⟩
  rw [hbe] at z1 ⊢
  have HB := Lib.hid hbe
  clear hbe
  go_upto_region 2 with (go_at_call 62; refine Calls.mono (HN.out _) ?_; rintro e w2 ⟨p, sv, rfl, hix, hp2, hl2, hs2⟩)
  have zz1 := hp2.heap (fun h => h) z1
  have HIX := Lib.hid hix
  clear hix
  have zz1_0 := cell_of_row _ _ 0 _ _ _ zz1; have zz1_1 := cell_of_row _ _ 1 _ _ _ zz1; have zz1_f := (fun j => frozen_of_row _ _ j _ _ zz1); have zz1_l := lt_of_block zz1; simp at zz1_0 zz1_1; have H_zz1 := Lib.hid zz1; clear zz1
  go_region_held3 (fun w' => w'.cell? ⟨b, 0, none⟩ = some (.int .u64 seed) ∧ w'.cell? ⟨b, 1, none⟩ = some (.bool same))
    (first | exact ⟨zz1_0, zz1_1⟩ | exact ⟨hp3.cell (fun h => h) zz1_0, hp3.cell (fun h => h) zz1_1⟩ | exact ⟨(hp3.alloc _).cell (fun h => h) zz1_0, (hp3.alloc _).cell (fun h => h) zz1_1⟩)
    (first
      | (go_at_call 24; refine Calls.mono (HL.out _) ?_; rintro e w3 ⟨rfl, hlog, hp3, hlt3⟩; dsimp only [logPtr] at *))
  go_wp2
  go_ret
  have hp3' : Pure w2 w3 := Mod.of_drew hp3
  have hq := heap_new (w := w3) (o := .cells #[.pointer (some ⟨w2.heap.size, 0, none⟩), .int .u64 seed, .bool same, .pointer (some ⟨p, 0, none⟩)] 81 (0, 0)) rfl
  have hpq : Pure w3 (w3.alloc (.cells #[.pointer (some ⟨w2.heap.size, 0, none⟩), .int .u64 seed, .bool same, .pointer (some ⟨p, 0, none⟩)] 81)) := (Mod.refl _ w3).alloc _
  have hw : w.heap.size ≤ W1.heap.size := HP.out.size
  have hw2 : W1.heap.size ≤ w2.heap.size := hp2.size
  have hw3 : w2.heap.size ≤ w3.heap.size := hp3'.size
  refine ⟨w3.heap.size, dictD w3.heap.size (fun k => k = w2.heap.size) p sv, rfl, ⟨w2.heap.size, p, sv, fun k => k = w2.heap.size, ⟨hq, hlog.pure hpq, HIX.out.pure (hp3'.trans hpq), hs⟩, Keeps.new seed same, fun _ => Iff.rfl⟩, (HP.out.trans hp2).trans (hp3'.trans hpq), ?_⟩
  rintro k (rfl | rfl | rfl | e)
  · omega
  · omega
  · omega
  · have := hs2 k e; omega
end
end
end Go.Proofs.YtpafcocciggfpaaGreat
