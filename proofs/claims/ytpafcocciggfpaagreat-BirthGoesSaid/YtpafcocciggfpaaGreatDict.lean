/- What a dictionary is in memory; its inner functions: key, sum, zero, full, plan, do, put. -/
import Derived.Test.YtpafcocciggfpaaGreatDictLaw
namespace Go.Proofs.YtpafcocciggfpaaGreat
open Go.RowKit Go.Shelf
set_option maxRecDepth 100000

/-! ### hash.Sum -/
theorem HSum_ok (seed : Nat) (same : Bool) (hs : seed < 18446744073709551616) (key : ByteArray) (hk : key.size ≤ 140737488355328) (w : World) :
    Calls Tryz.prog 114 #[.agg #[.int .u64 seed, .bool same], .string key] w fun e w' => e = .returned (.int .u64 (sumS seed same key : Nat)) ∧ Pure w w' := by
  have hp : Pure w (w.alloc (.cells #[.int .u64 seed, .bool same] 27)) := (Mod.refl _ w).alloc _
  have hb := heap_new (w := w) (o := (.cells #[.int .u64 seed, .bool same] 27 (0, 0))) rfl
  have HP := Lib.hid hp
  obtain ⟨res, hres⟩ : ∃ res, sumS seed same key = res := ⟨_, rfl⟩
  rw [hres]
  unfold sumS at hres
  have HR := Lib.hid hres
  clear hp hres
  cases same with
  | true =>
    have hr := HR.out
    simp only [if_true] at hr
    have HF := Lib.hid (fun W => fold_ok seed hs ⟨#[]⟩ (by decide) W)
    have HM := Lib.hid (fun W => Mix_ok seed hs W)
    have e0 : foldM seed (⟨#[]⟩ : ByteArray).data.toList = seed := rfl
    have e1 : foldM seed [] = seed := rfl
    rw [e1] at hr
    rw [e0] at HF
    subst hr
    clear HR e0 e1
    go_enter Tryz.func114, Tryz.ntmps114
    go_upto_region 1 with fail
    generalize w.alloc (.cells #[.int .u64 seed, .bool true] 27) = W1 at *
    generalize w.heap.size = b at *
    have hb_0 := cell_of_row _ _ 0 _ _ _ hb; have hb_1 := cell_of_row _ _ 1 _ _ _ hb; have hb_f := (fun j => frozen_of_row _ _ j _ _ hb); have hb_l := lt_of_block hb; simp at hb_0 hb_1; have H_hb := Lib.hid hb; clear hb
    go_wp2_with (first
      | (go_at_call 156; refine Calls.mono (HF.out _) ?_; rintro e w' ⟨rfl, rfl⟩)
      | (go_at_call 155; refine Calls.mono (HM.out _) ?_; rintro e w' ⟨rfl, rfl⟩))
    go_ret
    exact ⟨rfl, HP.out⟩
  | false =>
    have hr := HR.out
    simp only [Bool.false_eq_true, if_false] at hr
    have hq := foldM_lt hs key.data.toList
    have HF := Lib.hid (fun W => fold_ok seed hs key hk W)
    have HM := Lib.hid (fun W => Mix_ok _ hq W)
    subst hr
    clear HR
    generalize foldM seed key.data.toList = q at *
    go_enter Tryz.func114, Tryz.ntmps114
    go_upto_region 1 with fail
    generalize w.alloc (.cells #[.int .u64 seed, .bool false] 27) = W1 at *
    generalize w.heap.size = b at *
    have hb_0 := cell_of_row _ _ 0 _ _ _ hb; have hb_1 := cell_of_row _ _ 1 _ _ _ hb; have hb_f := (fun j => frozen_of_row _ _ j _ _ hb); have hb_l := lt_of_block hb; simp at hb_0 hb_1; have H_hb := Lib.hid hb; clear hb
    go_wp2_with (first
      | (go_at_call 156; refine Calls.mono (HF.out _) ?_; rintro e w' ⟨rfl, rfl⟩)
      | (go_at_call 155; refine Calls.mono (HM.out _) ?_; rintro e w' ⟨rfl, rfl⟩))
    go_ret
    exact ⟨rfl, HP.out⟩

/-! ### a dictionary in memory -/
abbrev dPtr (d : Nat) : Value := .pointer (some ⟨d, 0, none⟩)
/-- Block d is a Dict of the log in block q and of the index in block p. -/
structure DictMem (w : World) (d q p : Nat) (sv : Value) (Dl : Nat → Prop) (seed : Nat) (same : Bool) (L : List (Option Ent)) (Gs : List Grp) : Prop where
  box : w.heap[d]? = some (.cells #[.pointer (some ⟨q, 0, none⟩), .int .u64 seed, .bool same, .pointer (some ⟨p, 0, none⟩)] 81 (0, 0))
  log : LogAt w Dl q L
  ix : IxRow w (fun k => k = p ∨ sv.ownBlock = some k) p sv Gs
  sd : seed < 18446744073709551616
section
variable {w w' : World} {d q p : Nat} {sv : Value} {Dl : Nat → Prop} {seed : Nat} {same : Bool} {L : List (Option Ent)} {Gs : List Grp}
theorem DictMem.pure (h : DictMem w d q p sv Dl seed same L Gs) (hp : Pure w w') : DictMem w' d q p sv Dl seed same L Gs :=
  ⟨hp.heap (fun h => h) h.box, h.log.pure hp, h.ix.pure hp, h.sd⟩
/-- The blocks of a dictionary. -/
def dictD (d : Nat) (Dl : Nat → Prop) (p : Nat) (sv : Value) (k : Nat) : Prop := k = d ∨ Dl k ∨ k = p ∨ sv.ownBlock = some k
theorem DictMem.types (h : DictMem w d q p sv Dl seed same L Gs) {k : Nat} (hk : dictD d Dl p sv k) {cs : Array Value} {T : TypeId} {fz : Nat × Nat} (e : w.heap[k]? = some (.cells cs T fz)) :
    T = 81 ∨ T = 92 ∨ T = 42 ∨ T = 187 ∨ T = 190 := by
  rcases hk with rfl | hk | rfl | hk
  · rw [h.box] at e; cases e; exact .inl rfl
  · rcases h.log.types hk e with e | e
    · exact .inr (.inl e)
    · exact .inr (.inr (.inl e))
  · rw [h.ix.box] at e; cases e; exact .inr (.inr (.inr (.inl rfl)))
  · obtain ⟨cc, e2⟩ := owns_type h.ix.row hk
    rw [e2] at e; cases e; exact .inr (.inr (.inr (.inr rfl)))
theorem DictMem.lt (h : DictMem w d q p sv Dl seed same L Gs) {k : Nat} (hk : dictD d Dl p sv k) : k < w.heap.size := by
  rcases hk with rfl | hk | rfl | hk
  · exact lt_of_block h.box
  · exact h.log.lt hk
  · exact lt_of_block h.ix.box
  · exact owns_lt h.ix.row hk
/-- A dictionary behind a change of other blocks. -/
theorem DictMem.frame {S : Nat → Prop} (h : DictMem w d q p sv Dl seed same L Gs) (hm : Mod S w w') (hD : ∀ k, dictD d Dl p sv k → ¬ S k) (hS : ∀ k, k < w.heap.size → S k → ∀ cs fz, w.heap[k]? ≠ some (.cells cs 5 fz)) : DictMem w' d q p sv Dl seed same L Gs :=
  ⟨hm.heap (hD d (.inl rfl)) h.box, h.log.frame hm (fun k hk => hD k (.inr (.inl hk))) hS, h.ix.mod hm (fun k hk => hD k (.inr (.inr hk))), h.sd⟩
theorem DictMem.nd (h : DictMem w d q p sv Dl seed same L Gs) : ¬ Dl d := fun hk => by
  rcases h.log.types hk h.box with e | e <;> cases e
theorem DictMem.npd (h : DictMem w d q p sv Dl seed same L Gs) : p ≠ d := fun e => by
  have h1 := h.ix.box; rw [e, h.box] at h1; cases h1
theorem DictMem.nsd (h : DictMem w d q p sv Dl seed same L Gs) : sv.ownBlock ≠ some d := fun e => by
  obtain ⟨cc, e2⟩ := owns_type h.ix.row e
  rw [h.box] at e2; cases e2
theorem DictMem.nlp (h : DictMem w d q p sv Dl seed same L Gs) : ∀ k, Dl k → ¬ (k = p ∨ sv.ownBlock = some k) := by
  rintro k hk (rfl | e)
  · rcases h.log.types hk h.ix.box with e | e <;> cases e
  · obtain ⟨cc, e2⟩ := owns_type h.ix.row e
    rcases h.log.types hk e2 with e | e <;> cases e
end

/-! ### key, sum, zero, full -/
theorem key_size {w : World} {D : Nat → Prop} {q : Nat} {L : List (Option Ent)} (h : LogAt w D q L) (s : Nat) : (keyL L s).size ≤ 250 := by
  unfold keyL
  split
  · rename_i e he; exact (h.ok.ent e (List.mem_of_getElem? he)).k1
  · decide
theorem skey_ok {w : World} {D : Nat → Prop} {q : Nat} {L : List (Option Ent)} (h : LogAt w D q L) (s : Nat) (hs : s ≤ 4294967295) :
    Calls Tryz.prog 116 #[.agg #[.pointer (some ⟨q, 0, none⟩)], .int .u32 s] w fun e w' => e = .returned (.string (keyL L s)) ∧ Pure w w' := by
  have hp : Pure w (w.alloc (.cells #[.pointer (some ⟨q, 0, none⟩)] 78)) := (Mod.refl _ w).alloc _
  have hb := heap_new (w := w) (o := (.cells #[.pointer (some ⟨q, 0, none⟩)] 78 (0, 0))) rfl
  have HK := Lib.hid (Key_any (h.pure hp) s hs)
  have HP := Lib.hid hp
  clear h hp
  go_enter Tryz.func116, Tryz.ntmps116
  go_upto_region 1 with fail
  generalize w.alloc (.cells #[.pointer (some ⟨q, 0, none⟩)] 78) = W1 at *
  generalize w.heap.size = b at *
  have hb_0 := cell_of_row _ _ 0 _ _ _ hb; have hb_f := (fun j => frozen_of_row _ _ j _ _ hb); have hb_l := lt_of_block hb; simp at hb_0; have H_hb := Lib.hid hb; clear hb
  go_wp2_with (go_at_call 72; refine Calls.mono HK.out ?_; rintro e w' ⟨rfl, rfl⟩)
  go_ret
  exact ⟨rfl, HP.out⟩
theorem dzero_ok {w : World} {d q p : Nat} {sv : Value} {Dl : Nat → Prop} {seed : Nat} {same : Bool} {L : List (Option Ent)} {Gs : List Grp} (h : DictMem w d q p sv Dl seed same L Gs) :
    Calls Tryz.prog 64 #[dPtr d] w fun e w' => e = .returned (.bool false) ∧ w = w' := by
  have hb := h.box
  clear h
  have hb_0 := cell_of_row _ _ 0 _ _ _ hb; have hb_1 := cell_of_row _ _ 1 _ _ _ hb; have hb_2 := cell_of_row _ _ 2 _ _ _ hb; have hb_3 := cell_of_row _ _ 3 _ _ _ hb; have hb_f := (fun j => frozen_of_row _ _ j _ _ hb); have hb_l := lt_of_block hb; simp at hb_0 hb_1 hb_2 hb_3; have H_hb := Lib.hid hb; clear hb
  go_enter Tryz.func64, Tryz.ntmps64
  go_wp2
  go_ret
  exact ⟨rfl, rfl⟩
set_option maxHeartbeats 800000 in
theorem dsum_ok {w : World} {d q p : Nat} {sv : Value} {Dl : Nat → Prop} {seed : Nat} {same : Bool} {L : List (Option Ent)} {Gs : List Grp} (h : DictMem w d q p sv Dl seed same L Gs) (s : Nat) (hs : s ≤ 4294967295) :
    Calls Tryz.prog 74 #[dPtr d, .int .u32 s] w fun e w' => e = .returned (.int .u64 (sumL seed same L s : Nat)) ∧ Pure w w' := by
  have HK := Lib.hid (fun W (hW : Pure w W) => skey_ok (h.log.pure hW) s hs)
  have HH := Lib.hid (fun W => HSum_ok seed same h.sd (keyL L s) (by have := key_size h.log s; omega) W)
  have e1 : sumS seed same (keyL L s) = sumL seed same L s := rfl
  rw [e1] at HH
  have hb := h.box
  clear h e1
  generalize sumL seed same L s = r at *
  have hb_0 := cell_of_row _ _ 0 _ _ _ hb; have hb_1 := cell_of_row _ _ 1 _ _ _ hb; have hb_2 := cell_of_row _ _ 2 _ _ _ hb; have hb_3 := cell_of_row _ _ 3 _ _ _ hb; have hb_f := (fun j => frozen_of_row _ _ j _ _ hb); have hb_l := lt_of_block hb; simp at hb_0 hb_1 hb_2 hb_3; have H_hb := Lib.hid hb; clear hb
  have hf := hb_f
  go_enter Tryz.func74, Tryz.ntmps74
  go_upto_region 1 with fail
  go_region_held3 (fun w' => w'.cell? ⟨d, 0, none⟩ = some (.pointer (some ⟨q, 0, none⟩)) ∧ w'.cell? ⟨d, 1, none⟩ = some (.int .u64 seed) ∧ w'.cell? ⟨d, 2, none⟩ = some (.bool same))
    (first | exact ⟨hb_0, hb_1, hb_2⟩ | exact ⟨hp1.cell (fun h => h) hb_0, hp1.cell (fun h => h) hb_1, hp1.cell (fun h => h) hb_2⟩ | exact ⟨(hp1.trans hp2).cell (fun h => h) hb_0, (hp1.trans hp2).cell (fun h => h) hb_1, (hp1.trans hp2).cell (fun h => h) hb_2⟩)
    (first
      | (go_at_call 116; refine Calls.mono (HK.out _ (by (repeat' (first | (with_reducible exact Mod.refl _ _) | (with_reducible refine Mod.alloc ?_ _) | (with_reducible refine Mod.drew ?_) | (with_reducible refine Mod.drewN ?_ _) | (with_reducible refine Mod.setCell ?_ ?_ _) | (refine Mod.then ?_ (by with_reducible assumption) ?_))) <;> (all_goals (intros; first | (exfalso; assumption) | omega | (simp at *; done) | (simp at *; omega))))) ?_; rintro e w1 ⟨rfl, hp1⟩)
      | (go_at_call 114; refine Calls.mono (HH.out _) ?_; rintro e w2 ⟨rfl, hp2⟩))
  go_wp2
  go_ret
  exact ⟨rfl, (Mod.of_drew hp1).trans hp2⟩
end Go.Proofs.YtpafcocciggfpaaGreat
