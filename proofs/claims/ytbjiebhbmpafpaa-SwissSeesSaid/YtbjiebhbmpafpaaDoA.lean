/- law07.do: what is known while it runs. -/
import Derived.Test.YtbjiebhbmpafpaaSwCopy
import Derived.Test.YtbjiebhbmpafpaaR7g
namespace Go.Proofs.Ytbjiebhbmpafpaa
open Go.RowKit Go.Shelf
set_option maxRecDepth 100000

/-! ### the reference's contracts, laid open -/
section
variable {W : World} {aC : Option Addr} {cC : Nat} {aS : Option Addr} {cS : Nat} {Gs Gs' : List Grp}
abbrev aggI (aC : Option Addr) (cC : Nat) (aS : Option Addr) (cS n : Nat) : Value := .agg #[.slice aC (8 * n) cC, .slice aS (8 * n) cS]
def Got (W : World) (Gs' : List Grp) (z : Int) (e : Ending) (w' : World) : Prop := ∃ a c a' c', e = .returned (.tuple #[.agg #[.slice a (8 * Gs'.length) c, .slice a' (8 * Gs'.length) c'], .int .i64 z]) ∧ RefI w' a c a' c' Gs' ∧ Pure W w'
theorem gIns (h : RefI W aC cC aS cS Gs) {sum slot : Nat} (h1 : sum < 18446744073709551616) (h2 : slot ≤ 4294967295) (hm : insM Gs sum slot = some Gs') :
    Calls Try.prog 94 #[.agg #[.slice aC (8 * Gs.length) cC, .slice aS (8 * Gs.length) cS], .int .u64 sum, .int .u32 slot] W (Got W Gs' 0) :=
  (rInsert_ok h sum slot h1 h2).mono (fun e w' ⟨hp, hq⟩ => by
    rw [hm] at hq
    obtain ⟨a1, c1, a2, c2, e1, e2⟩ := hq
    exact ⟨a1, c1, a2, c2, e1, e2, hp⟩)
theorem gInsN (h : RefI W aC cC aS cS Gs) {sum slot : Nat} (h1 : sum < 18446744073709551616) (h2 : slot ≤ 4294967295) (hm : insM Gs sum slot = none) :
    Calls Try.prog 94 #[.agg #[.slice aC (8 * Gs.length) cC, .slice aS (8 * Gs.length) cS], .int .u64 sum, .int .u32 slot] W (Got W Gs 7) :=
  (rInsert_ok h sum slot h1 h2).mono (fun e w' ⟨hp, hq⟩ => by
    rw [hm] at hq
    exact ⟨aC, cC, aS, cS, hq.1, hq.2, hp⟩)
theorem gRem (h : RefI W aC cC aS cS Gs) {sum slot i j : Nat} (h1 : sum < 18446744073709551616) (h2 : slot ≤ 4294967295) (hm : findM Gs sum (fun x => x == slot) = some (i, j)) :
    Calls Try.prog 95 #[.agg #[.slice aC (8 * Gs.length) cC, .slice aS (8 * Gs.length) cS], .int .u64 sum, .int .u32 slot] W (Got W (delG Gs i j) 0) :=
  (rRemove_ok h sum slot h1 h2).mono (fun e w' ⟨hp, hq⟩ => by
    rw [hm] at hq
    obtain ⟨a1, c1, a2, c2, e1, e2⟩ := hq
    have hl : (delG Gs i j).length = Gs.length := setG_length ..
    exact ⟨a1, c1, a2, c2, by rw [hl]; exact e1, e2, hp⟩)
theorem gRemN (h : RefI W aC cC aS cS Gs) {sum slot : Nat} (h1 : sum < 18446744073709551616) (h2 : slot ≤ 4294967295) (hm : findM Gs sum (fun x => x == slot) = none) :
    Calls Try.prog 95 #[.agg #[.slice aC (8 * Gs.length) cC, .slice aS (8 * Gs.length) cS], .int .u64 sum, .int .u32 slot] W (Got W Gs 9) :=
  (rRemove_ok h sum slot h1 h2).mono (fun e w' ⟨hp, hq⟩ => by
    rw [hm] at hq
    exact ⟨aC, cC, aS, cS, hq.1, hq.2, hp⟩)
theorem gRep (h : RefI W aC cC aS cS Gs) {sum old slot i j : Nat} (h1 : sum < 18446744073709551616) (h2 : old ≤ 4294967295) (h3 : slot ≤ 4294967295) (hm : findM Gs sum (fun x => x == old) = some (i, j)) :
    Calls Try.prog 96 #[.agg #[.slice aC (8 * Gs.length) cC, .slice aS (8 * Gs.length) cS], .int .u64 sum, .int .u32 old, .int .u32 slot] W (Got W (setG Gs i j (sum % 128) slot) 0) :=
  (rReplace_ok h sum old slot h1 h2 h3).mono (fun e w' ⟨hp, hq⟩ => by
    rw [hm] at hq
    obtain ⟨a1, c1, a2, c2, e1, e2⟩ := hq
    have hl : (setG Gs i j (sum % 128) slot).length = Gs.length := setG_length ..
    exact ⟨a1, c1, a2, c2, by rw [hl]; exact e1, e2, hp⟩)
theorem gRepN (h : RefI W aC cC aS cS Gs) {sum old slot : Nat} (h1 : sum < 18446744073709551616) (h2 : old ≤ 4294967295) (h3 : slot ≤ 4294967295) (hm : findM Gs sum (fun x => x == old) = none) :
    Calls Try.prog 96 #[.agg #[.slice aC (8 * Gs.length) cC, .slice aS (8 * Gs.length) cS], .int .u64 sum, .int .u32 old, .int .u32 slot] W (Got W Gs 9) :=
  (rReplace_ok h sum old slot h1 h2 h3).mono (fun e w' ⟨hp, hq⟩ => by
    rw [hm] at hq
    exact ⟨aC, cC, aS, cS, hq.1, hq.2, hp⟩)
theorem gReh (h : RefI W aC cC aS cS Gs) {g f m : Nat} (hg : Pow g) (hu : usedN Gs ≤ 8 * g) (hf : f < 18446744073709551616) (hm : m < 18446744073709551616) :
    Calls Try.prog 98 #[.agg #[.slice aC (8 * Gs.length) cC, .slice aS (8 * Gs.length) cS], .int .i64 g, .int .u64 f, .int .u64 m] W (Got W (rehM (sumM f m) g Gs) 0) :=
  (rRehash_ok h g f m hg hu hf hm).mono (fun e w' ⟨a1, c1, a2, c2, e1, e2, hp⟩ => ⟨a1, c1, a2, c2, e1, e2, hp⟩)
end
structure DS (w W : World) (p : Nat) (sv : Value) (Gs : List Grp) (aC : Option Addr) (cC : Nat) (aS : Option Addr) (cS : Nat) (a : ActV) (b : Nat) (X : World) : Prop where
  hs : Has w p sv Gs X
  rf : RefI X aC cC aS cS Gs
  h4 : X.heap[b]? = some (.cells #[.slice aC (8 * Gs.length) cC, .slice aS (8 * Gs.length) cS] 82 (0, 0))
  h5 : X.heap[b + 1]? = some (.cells #[.int .i64 a.what, .int .u64 (a.sum : Nat), .int .u32 (a.slot : Nat), .int .u32 (a.other : Nat), .int .i64 a.groups] 86 (0, 0))
  h7 : X.heap[b + 1 + 1]? = some (.cells #[.slice none 0 0, .slice none 0 0] 82 (0, 0))
  mw : Mod (fun k => k = p ∨ sv.ownBlock = some k) W X
  bw : W.heap.size ≤ b
def doPost (w W : World) (p : Nat) (sv : Value) (e : Ending) (w' : World) : Prop :=
  ∃ p' sv' Gs' aC' cC' aS' cS', e = .returned (.tuple #[.pointer (some ⟨p', 0, none⟩), refI aC' cC' aS' cS' Gs'.length, .bool true]) ∧ Has w p' sv' Gs' w' ∧ RefI w' aC' cC' aS' cS' Gs' ∧ Mod (fun k => k = p ∨ sv.ownBlock = some k) W w'
theorem Has.frame {w X Y : World} {q : Nat} {sv : Value} {G : List Grp} {S : Nat → Prop} (h : Has w q sv G X) (hm : Mod S X Y) (hn : ∀ k, (k = q ∨ sv.ownBlock = some k) → ¬ S k) (hS : ∀ k, S k → w.heap.size ≤ k) : Has w q sv G Y :=
  ⟨h.ix.mod hm hn, h.pu.then hm (fun i hi hs => by have := hS i hs; omega), h.fp, h.fs⟩
def AnyPost (w : World) (p : Nat) (sv : Value) (W : World) (e : Ending) (w' : World) : Prop := ∃ z Gs', e = .returned (.int .i64 z) ∧ Has w p sv Gs' w' ∧ Mod (fun k => k = p ∨ sv.ownBlock = some k) W w'
theorem Has.insA {w W : World} {p : Nat} {sv : Value} {Gs : List Grp} (h : Has w p sv Gs W) {sum slot : Nat} (h1 : sum < 18446744073709551616) (h2 : slot ≤ 4294967295) :
    Calls Try.prog 37 #[.pointer (some ⟨p, 0, none⟩), .int .u64 sum, .int .u32 slot] W (AnyPost w p sv W) := by
  cases hm : insM Gs sum slot with
  | some Gs' => exact (h.ins hm h1 h2).mono (fun e w' ⟨a, b, c⟩ => ⟨_, _, a, b, c⟩)
  | none => exact (h.ins_full hm h1 h2).mono (fun e w' ⟨a, b, c⟩ => ⟨_, _, a, b, c⟩)
theorem Has.remA {w W : World} {p : Nat} {sv : Value} {Gs : List Grp} (h : Has w p sv Gs W) {sum slot : Nat} (h1 : sum < 18446744073709551616) (h2 : slot ≤ 4294967295) :
    Calls Try.prog 41 #[.pointer (some ⟨p, 0, none⟩), .int .u64 sum, .int .u32 slot] W (AnyPost w p sv W) := by
  rcases hm : findM Gs sum (fun x => x == slot) with _ | ⟨i, j⟩
  · exact (h.rem_none hm h1 h2).mono (fun e w' ⟨a, b, c⟩ => ⟨_, _, a, b, c⟩)
  · exact (h.rem hm h1 h2).mono (fun e w' ⟨a, b, c⟩ => ⟨_, _, a, b, c⟩)
theorem Has.lt {w W : World} {p : Nat} {sv : Value} {Gs : List Grp} (h : Has w p sv Gs W) {k : Nat} (hk : k = p ∨ sv.ownBlock = some k) : k < W.heap.size := by
  rcases hk with rfl | e
  · exact lt_of_block h.ix.box
  · exact owns_lt h.ix.row e
theorem Has.rep_none {w W : World} {p : Nat} {sv : Value} {Gs : List Grp} (h : Has w p sv Gs W) {sum old slot : Nat} (hm : findM Gs sum (fun x => x == old) = none) (h1 : sum < 18446744073709551616) (h2 : old ≤ 4294967295) (h3 : slot ≤ 4294967295) :
    Calls Try.prog 53 #[.pointer (some ⟨p, 0, none⟩), .int .u64 sum, .int .u32 old, .int .u32 slot] W fun e w' => e = .returned (.int .i64 9) ∧ Has w p sv Gs w' ∧ Mod (fun k => k = p ∨ sv.ownBlock = some k) W w' :=
  (Replace_ok h.ix sum old slot h1 h2 h3).mono (fun e w' hq => by
    unfold repPost at hq
    rw [hm] at hq
    exact ⟨hq.1, h.put hq.2.1 hq.2.2, hq.2.2⟩)
section
variable {w W : World} {p p' : Nat} {sv sv' : Value} {Gs Gs' : List Grp} {aC aC' : Option Addr} {cC cC' : Nat} {aS aS' : Option Addr} {cS cS' : Nat} {a : ActV} {b : Nat} {X Y : World}
theorem DS.pure (h : DS w W p sv Gs aC cC aS cS a b X) (hp : Pure X Y) : DS w W p sv Gs aC cC aS cS a b Y :=
  ⟨h.hs.pure hp, h.rf.pure hp, hp.heap (fun h => h) h.h4, hp.heap (fun h => h) h.h5, hp.heap (fun h => h) h.h7, h.mw.then hp (fun _ _ h => h.elim), h.bw⟩
/-- Blocks of other types are not the index'. -/
theorem Has.nb (h : Has w p sv Gs X) {k : Nat} {cs : Array Value} {T : TypeId} (hk : X.heap[k]? = some (.cells cs T (0, 0))) (h1 : T ≠ 98) (h2 : T ≠ 140) : ¬ (k = p ∨ sv.ownBlock = some k) := by
  rintro (rfl | e)
  · have := h.ix.box; rw [hk] at this; cases this; exact h1 rfl
  · obtain ⟨cc, e2⟩ := owns_type h.ix.row e
    rw [hk] at e2; cases e2; exact h2 rfl
theorem RefI.ix (h : RefI X aC cC aS cS Gs) (hs : Has w p sv Gs' X) (hm : Mod (fun k => k = p ∨ sv.ownBlock = some k) X Y) : RefI Y aC cC aS cS Gs :=
  h.modT hm (fun i hi _ => by
    rcases hi with rfl | e
    · exact ⟨_, _, _, hs.ix.box, by decide, by decide⟩
    · obtain ⟨cc, e2⟩ := owns_type hs.ix.row e
      exact ⟨_, _, _, e2, by decide, by decide⟩)
/-- The index was changed. -/
theorem DS.put (h : DS w W p sv Gs aC cC aS cS a b X) (hq : Has w p sv Gs' Y) (hm : Mod (fun k => k = p ∨ sv.ownBlock = some k) X Y) :
    RefI Y aC cC aS cS Gs ∧ Y.heap[b]? = some (.cells #[.slice aC (8 * Gs.length) cC, .slice aS (8 * Gs.length) cS] 82 (0, 0)) ∧
    Y.heap[b + 1]? = some (.cells #[.int .i64 a.what, .int .u64 (a.sum : Nat), .int .u32 (a.slot : Nat), .int .u32 (a.other : Nat), .int .i64 a.groups] 86 (0, 0)) ∧
    Y.heap[b + 1 + 1]? = some (.cells #[.slice none 0 0, .slice none 0 0] 82 (0, 0)) ∧ Mod (fun k => k = p ∨ sv.ownBlock = some k) W Y :=
  ⟨h.rf.ix h.hs hm, hm.heap (h.hs.nb h.h4 (by decide) (by decide)) h.h4, hm.heap (h.hs.nb h.h5 (by decide) (by decide)) h.h5, hm.heap (h.hs.nb h.h7 (by decide) (by decide)) h.h7, h.mw.trans hm⟩
/-- The end: the result's box. -/
theorem do_fin {b7 : Nat} {u0 u1 v0 v1 : Value} (hs : Has w p' sv' Gs' X) (rf : RefI X aC' cC' aS' cS' Gs') (hm : Mod (fun k => k = p ∨ sv.ownBlock = some k) W X) (h7 : X.heap[b7]? = some (.cells #[u0, u1] 82 (0, 0))) (hw : w.heap.size ≤ W.heap.size) (hb : W.heap.size ≤ b7)
    (hY : ((X.setCell ⟨b7, 0, none⟩ v0).setCell ⟨b7, 1, none⟩ v1).drew = Y) : Has w p' sv' Gs' Y ∧ RefI Y aC' cC' aS' cS' Gs' ∧ Mod (fun k => k = p ∨ sv.ownBlock = some k) W Y ∧ Y.cell? ⟨b7, 0, none⟩ = some v0 ∧ Y.cell? ⟨b7, 1, none⟩ = some v1 := by
  have m2 := heap_set12 (v0 := v0) (v1 := v1) h7
  have hmm : Mod (fun i => i = b7) X ((X.setCell ⟨b7, 0, none⟩ v0).setCell ⟨b7, 1, none⟩ v1).drew := (Mod.set2 b7 0 1 _ _).drew
  have m2 : ((X.setCell ⟨b7, 0, none⟩ v0).setCell ⟨b7, 1, none⟩ v1).drew.heap[b7]? = _ := m2
  rw [hY] at m2 hmm
  have x0 := cell_of_row _ b7 0 _ _ _ m2; have x1 := cell_of_row _ b7 1 _ _ _ m2
  have hnb := hs.nb h7 (by decide) (by decide)
  refine ⟨⟨hs.ix.mod hmm (fun k hk e => by subst e; exact hnb hk), hs.pu.then hmm (fun i hi e => by omega), hs.fp, hs.fs⟩, rf.modT hmm (fun i e _ => ⟨_, _, _, e ▸ h7, by decide, by decide⟩), hm.then hmm (fun i hi e => by omega), x0, x1⟩
end
theorem DS.new {w W : World} {p : Nat} {sv : Value} {Gs : List Grp} {aC : Option Addr} {cC : Nat} {aS : Option Addr} {cS : Nat} (h : Has w p sv Gs W) (hr : RefI W aC cC aS cS Gs) (a : ActV) :
    DS w W p sv Gs aC cC aS cS a W.heap.size (((W.alloc (.cells #[.slice aC (8 * Gs.length) cC, .slice aS (8 * Gs.length) cS] 82)).alloc (.cells #[.int .i64 a.what, .int .u64 (a.sum : Nat), .int .u32 (a.slot : Nat), .int .u32 (a.other : Nat), .int .i64 a.groups] 86)).alloc (.cells #[.slice none 0 0, .slice none 0 0] 82)) := by
  have hp : Pure W (((W.alloc (.cells #[.slice aC (8 * Gs.length) cC, .slice aS (8 * Gs.length) cS] 82)).alloc (.cells #[.int .i64 a.what, .int .u64 (a.sum : Nat), .int .u32 (a.slot : Nat), .int .u32 (a.other : Nat), .int .i64 a.groups] 86)).alloc (.cells #[.slice none 0 0, .slice none 0 0] 82)) := by (repeat' (first | (with_reducible exact Mod.refl _ _) | (with_reducible refine Mod.alloc ?_ _) | (with_reducible refine Mod.drew ?_) | (with_reducible refine Mod.drewN ?_ _) | (with_reducible refine Mod.setCell ?_ ?_ _) | (refine Mod.then ?_ (by with_reducible assumption) ?_)))
  refine ⟨h.pure hp, hr.pure hp, ?_, ?_, ?_, .of_pure hp, Nat.le_refl _⟩
  · exact heap_keep (heap_keep (heap_new rfl))
  · exact heap_keep (heap_new (by simp))
  · exact heap_new (by simp)
end Go.Proofs.Ytbjiebhbmpafpaa
