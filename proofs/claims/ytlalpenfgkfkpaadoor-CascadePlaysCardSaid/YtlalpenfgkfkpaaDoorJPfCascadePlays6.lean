/- Lemmas and contracts of functions, strung together out of 11 texts. No condition. -/
import Derived.Test.YtlalpenfgkfkpaaDoorJPfCascadePlays5
import Derived.Test.YtlalpenfgkfkpaaDoorJPfCascadePlays3
import Derived.WalkSpells
import Derived.Deep.RegionHeld3
import Derived.Sort.Grow
import Derived.Shelf.SlLaysF0
import Derived.Test.YtlalpenfgkfkpaaDoorProg
/- cascade: the box; check, at, place. Conditions: the box lies in memory. -/
namespace Go.Proofs.YtlalpenfgkfkpaaDoor
open Go.RowKit
set_option maxRecDepth 100000
@[go_sem] theorem eql_nil_what (w : World) (r : Option Nat) : (binOp .eql 54 (.map r) (.map none)).run Tryd.prog w = .ok (.bool r.isNone) w := run_eql_map_nil w _ _ _ r Tryd.underlying54
/-- What a cascade's box holds: the time, the levels, the two maps. -/
def casC (now : Nat) (ws : List Nat) (bm bb : Nat) : List Value := .int .u64 now :: (ws.map lkP ++ [.map (some bm), .map (some bb)])
structure CasBox (w : World) (p now : Nat) (ws : List Nat) (bm bb : Nat) : Prop where
  box : w.heap[p]? = some (.cells (casC now ws bm bb).toArray 57 (0, 0))
  len : ws.length = 8
  now : now < 18446744073709551616
section
variable {w w' : World} {p now bm bb : Nat} {ws : List Nat}
theorem CasBox.mod {S : Nat → Prop} (h : CasBox w p now ws bm bb) (hm : Mod S w w') (hp : ¬ S p) : CasBox w' p now ws bm bb := ⟨hm.heap hp h.box, h.len, h.now⟩
theorem CasBox.cells (h : CasBox w p now ws bm bb) : w.cell? ⟨p, 0, none⟩ = some (.int .u64 now) ∧ w.cell? ⟨p, 9, none⟩ = some (.map (some bm)) ∧ w.cell? ⟨p, 10, none⟩ = some (.map (some bb)) ∧ (∀ i, w.frozen? ⟨p, i, none⟩ = false) ∧ p < w.heap.size := by
  have g := fun j => cell_of_row w p j _ _ (0, 0) h.box
  have hl := h.len
  refine ⟨by rw [g, List.getElem?_toArray]; rfl, ?_, ?_, fun i => frozen_of_row w p i _ _ h.box, lt_of_block h.box⟩
  · rw [g, List.getElem?_toArray]
    unfold casC
    rw [List.getElem?_cons_succ, List.getElem?_append_right (by simp; omega)]
    simp [hl]
  · rw [g, List.getElem?_toArray]
    unfold casC
    rw [List.getElem?_cons_succ, List.getElem?_append_right (by simp; omega)]
    simp [hl]
theorem CasBox.level (h : CasBox w p now ws bm bb) {l q : Nat} (hq : ws[l]? = some q) : w.cell? ⟨p, 1 + l, none⟩ = some (lkP q) := by
  rw [cell_of_row w p (1 + l) _ _ (0, 0) h.box, List.getElem?_toArray]
  unfold casC
  rw [show 1 + l = l + 1 by omega, List.getElem?_cons_succ, List.getElem?_append_left (by have := (List.getElem?_eq_some_iff.1 hq).1; simpa using this), List.getElem?_map, hq]
  rfl
theorem ccheck_ok (h : CasBox w p now ws bm bb) {s : Nat} (hs : s < 4194304) : Calls Tryd.prog 46 #[lkP p, .int .u32 s] w fun e w' => e = .returned (.int .i64 0) ∧ w = w' := by
  obtain ⟨c0, c9, c10, _, _⟩ := h.cells
  clear h
  have d1 : decide ((4194304 : Int) ≤ (s : Int)) = false := decide_eq_false (by omega)
  have d1n : decide (4194304 ≤ s) = false := decide_eq_false (by omega)
  go_enter Tryd.func46, Tryd.ntmps46
  go_wp2
  go_ret
  exact ⟨rfl, rfl⟩
theorem ccheck_arg (h : CasBox w p now ws bm bb) {s : Nat} (hs : 4194304 ≤ s) (h32 : s ≤ 4294967295) : Calls Tryd.prog 46 #[lkP p, .int .u32 s] w fun e w' => e = .returned (.int .i64 2) ∧ w = w' := by
  obtain ⟨c0, c9, c10, _, _⟩ := h.cells
  clear h
  have d1 : decide ((4194304 : Int) ≤ (s : Int)) = true := decide_eq_true (by omega)
  have d1n : decide (4194304 ≤ s) = true := decide_eq_true hs
  go_enter Tryd.func46, Tryd.ntmps46
  go_wp2
  go_ret
  exact ⟨rfl, rfl⟩
def slotE (s : Nat) : Int := if s < 4194304 then 0 else 2
theorem ccheck_any (h : CasBox w p now ws bm bb) {s : Nat} (h32 : s ≤ 4294967295) : Calls Tryd.prog 46 #[lkP p, .int .u32 s] w fun e w' => e = .returned (.int .i64 (slotE s)) ∧ w = w' := by
  unfold slotE
  by_cases hs : s < 4194304
  · rw [if_pos hs]; exact ccheck_ok h hs
  · rw [if_neg hs]; exact ccheck_arg h (by omega) h32
set_option maxHeartbeats 1000000 in
theorem cplace_ok (h : CasBox w p now ws bm bb) {dl : Nat} (hd : dl < 18446744073709551616) (hne : dl ≠ now) :
    Calls Tryd.prog 49 #[lkP p, .int .u64 dl] w fun e w' => e = .returned (.tuple #[.int .i64 (lvl now dl : Nat), .int .i64 (bkt now dl : Nat)]) ∧ Pure w w' := by
  obtain ⟨c0, _, _, _, _⟩ := h.cells
  have hn := h.now
  obtain ⟨b1, b2, b3⟩ := blen_lvl hn hd hne
  have hx : dl ^^^ now < 18446744073709551616 := Nat.xor_lt_two_pow (n := 64) hd hn
  have HLn := Lib.hid (Len64_any _ hx w)
  have hxor := bits_xor64 dl now hd hn
  have hl8 := (lvl_spec hn hd).1
  have hbk : bkt now dl = dl / 256 ^ lvl now dl % 256 := rfl
  have HBK := Lib.hid hbk
  clear h hbk hx
  generalize blen (dl ^^^ now) = bl at *
  generalize dl ^^^ now = x at *
  obtain ⟨lv, hlv⟩ : ∃ lv, lvl now dl = lv := ⟨_, rfl⟩
  obtain ⟨bk, hbk2⟩ : ∃ bk, bkt now dl = bk := ⟨_, rfl⟩
  rw [hlv] at b3 hl8 HBK
  rw [hbk2] at HBK
  have w1 : IntKind.i64.wrap ((bl : Int) - 1) = (bl : Int) - 1 := IntWalk.i64_in _ (by omega)
  have e8 : ((bl : Int) - 1) / 8 = (lv : Int) := by omega
  have w2 : wrap64 (((bl : Int) - 1) / 8) = (lv : Int) := by rw [e8]; exact w64_nat _ (by omega)
  have b0 : (0 : Int) ≤ (bl : Int) - 1 := by omega
  have HLV := Lib.hid hlv; have HB2 := Lib.hid hbk2
  clear hlv hbk2 hne
  go_enter Tryd.func49, Tryd.ntmps49
  go_upto_region 2 with (go_at_call 78; refine Calls.mono HLn.out ?_; rintro e w' ⟨rfl, rfl⟩)
  have w3 : IntKind.i64.wrap (8 * (lv : Int)) = 8 * (lv : Int) := IntWalk.i64_in _ (by omega)
  have l0 : (0 : Int) ≤ (lv : Int) := by omega
  have l1 : (lv : Int) < 8 := by omega
  have hand : bits .and .u64 ((dl : Int) / (2 : Int) ^ (8 * lv)) 255 = (bk : Int) := by
    have hq : dl / 2 ^ (8 * lv) < 18446744073709551616 := Nat.lt_of_le_of_lt (Nat.div_le_self _ _) hd
    have := bits_and64 (dl / 2 ^ (8 * lv)) 255 hq (by decide)
    rw [show (255 : Nat) = 2 ^ 8 - 1 from rfl, Nat.and_two_pow_sub_one_eq_mod] at this
    rw [HBK.out, show (256 : Nat) ^ lv = 2 ^ (8 * lv) by rw [Nat.pow_mul], ← this]
    simp
  have hbk8 : bk < 256 := by rw [HBK.out]; exact Nat.mod_lt _ (by decide)
  have wb : wrap64 (bk : Int) = (bk : Int) := w64_nat _ (by omega)
  have hend : Ending.returned (.tuple #[.int .i64 (((bl : Int) - 1) / 8), .int .i64 (bk : Int)]) = .returned (.tuple #[.int .i64 (lvl now dl : Nat), .int .i64 (bkt now dl : Nat)]) := by rw [e8, HLV.out, HB2.out]
  have HEnd := Lib.hid hend
  clear hend wb HBK hxor
  go_region
  go_wp2
  go_ret2
  exact ⟨HEnd.out, (Mod.refl _ _).drew⟩
end
end Go.Proofs.YtlalpenfgkfkpaaDoor

/- cascade: what lies in memory; put, forget. Conditions: the cascade lies in memory. -/
namespace Go.Proofs.YtlalpenfgkfkpaaDoor
open Go.RowKit
set_option maxRecDepth 100000
/-- The cascade in block p: its levels Lss, what is timed M; D: all its own blocks. -/
structure CasMem (w : World) (D : Nat → Prop) (p now : Nat) (ws : List Nat) (bm bb : Nat) (Ds : Nat → Nat → Prop) (Dm Db : DataW Unit) (M : List Td) (Lss : List (List (List Nat))) : Prop where
  box : CasBox w p now ws bm bb
  what : TMap w bm M Dm
  births : BMap w bb M Db
  len : Lss.length = 8
  lev : ∀ (l q : Nat) (Ls : List (List Nat)), ws[l]? = some q → Lss[l]? = some Ls → WhAt w (Ds l) q Ls
  apart : ∀ l l' k, l < 8 → l' < 8 → l ≠ l' → Ds l k → ¬ Ds l' k
  own : ∀ l k, l < 8 → Ds l k → k ≠ p ∧ k ≠ bm ∧ k ≠ bb
  ne : bm ≠ bb ∧ bm ≠ p ∧ bb ≠ p
  dd : ∀ k, D k ↔ (k = p ∨ k = bm ∨ k = bb ∨ ∃ l, l < 8 ∧ Ds l k)
section
variable {w w' : World} {D : Nat → Prop} {p now : Nat} {ws : List Nat} {bm bb : Nat} {Ds : Nat → Nat → Prop} {Dm Db : DataW Unit} {M : List Td} {Lss : List (List (List Nat))}
theorem CasMem.frame {S : Nat → Prop} (h : CasMem w D p now ws bm bb Ds Dm Db M Lss) (hm : Mod S w w') (hd : ∀ k, D k → ¬ S k) : CasMem w' D p now ws bm bb Ds Dm Db M Lss :=
  ⟨h.box.mod hm (hd p ((h.dd p).2 (.inl rfl))), h.what.mod hm (hd bm ((h.dd bm).2 (.inr (.inl rfl)))), h.births.mod hm (hd bb ((h.dd bb).2 (.inr (.inr (.inl rfl))))), h.len,
    fun l q Ls hq hl => (h.lev l q Ls hq hl).frame hm (fun k hk => hd k ((h.dd k).2 (.inr (.inr (.inr ⟨l, by have := (List.getElem?_eq_some_iff.1 hl).1; rw [h.len] at this; exact this, hk⟩))))), h.apart, h.own, h.ne, h.dd⟩
theorem CasMem.pure (h : CasMem w D p now ws bm bb Ds Dm Db M Lss) (hm : Pure w w') : CasMem w' D p now ws bm bb Ds Dm Db M Lss := h.frame hm (fun _ _ h => h)
theorem CasMem.lt (h : CasMem w D p now ws bm bb Ds Dm Db M Lss) {k : Nat} (hk : D k) : k < w.heap.size := by
  rcases (h.dd k).1 hk with rfl | rfl | rfl | ⟨l, hl, hk⟩
  · exact lt_of_block h.box.box
  · exact h.what.own.lt
  · exact h.births.own.lt
  · obtain ⟨q, hq⟩ : ∃ q, ws[l]? = some q := ⟨_, List.getElem?_eq_getElem (by rw [h.box.len]; exact hl)⟩
    obtain ⟨Ls, hL⟩ : ∃ Ls, Lss[l]? = some Ls := ⟨_, List.getElem?_eq_getElem (by rw [h.len]; exact hl)⟩
    exact (h.lev l q Ls hq hL).lt hk
set_option maxHeartbeats 1000000 in
/-- forget: the slot and the birth are struck out. -/
theorem cforget_ok (h : CasMem w D p now ws bm bb Ds Dm Db M Lss) {x : Td} {M' : List Td} (hx : x ∈ M) (hs : x.slot ≤ 4294967295) (hb : x.birth ≤ 18446744073709551615) (hM : ∀ y, y ∈ M' ↔ y ∈ M ∧ y.slot ≠ x.slot) (hM2 : ∀ y, y ∈ M' ↔ y ∈ M ∧ y.birth ≠ x.birth) (hl : M'.length + 1 = M.length) :
    Calls Tryd.prog 52 #[lkP p, tdV x] w fun e w' => e = .returned (.tuple #[]) ∧ (∃ Dm' Db', CasMem w' D p now ws bm bb Ds Dm' Db' M' Lss) ∧ Mod (fun k => k = bm ∨ k = bb) w w' := by
  have hal : Pure w (w.alloc (.cells #[.int .u32 x.slot, .int .u64 x.dl, .int .u64 x.birth] 31)) := (Mod.refl _ w).alloc _
  have h3 := heap_new (w := w) (o := .cells #[.int .u32 x.slot, .int .u64 x.dl, .int .u64 x.birth] 31 (0, 0)) rfl
  have HC := Lib.hid (h.pure hal)
  have n1 : bm ≠ w.heap.size := fun e => by have := h.what.own.lt; omega
  have n2 : bb ≠ w.heap.size := fun e => by have := h.births.own.lt; omega
  have HX := Lib.hid hx; have HM := Lib.hid hM; have HM2 := Lib.hid hM2; have HAL := Lib.hid hal
  obtain ⟨ne1, ne2, ne3⟩ := h.ne
  clear h hx hM hM2 hal
  unfold tdV
  go_enter Tryd.func52, Tryd.ntmps52
  go_upto_region 1 with fail
  generalize w.alloc (.cells #[.int .u32 x.slot, .int .u64 x.dl, .int .u64 x.birth] 31) = W1 at *
  generalize w.heap.size = b3 at *
  obtain ⟨c0, c9, c10, _, _⟩ := HC.out.box.cells
  have H3 := Lib.hid h3
  have h3_0 := cell_of_row _ _ 0 _ _ _ h3; have h3_1 := cell_of_row _ _ 1 _ _ _ h3; have h3_2 := cell_of_row _ _ 2 _ _ _ h3; have h3_f := (fun j => frozen_of_row _ _ j _ _ h3); have h3_l := lt_of_block h3; simp at h3_0 h3_1 h3_2; have H_h3 := Lib.hid h3; clear h3
  go_still_tail 6, (by kernel_rfl)
  go_upto_region 2 with (at_delete; refine wpList_delete_own _ rfl _ _ 54 29 rfl 31 keyedS Tryd.underlying54 tdElem bm M.length Dm rfl HC.out.what.own.drew (.int .u32 x.slot) (kS x.slot) rfl (kS_of hs) ?_; intro w2 ho2 ht2; go_frame)
  have hm2 : Mod (fun k => k = bm) W1 w2 := Mod.of_drew (Mod.of_grown ht2.grown (fun k e _ => by cases e; rfl))
  have hbx2 := HC.out.box.mod hm2 (fun e => ne2 e.symm)
  have hbi2 := HC.out.births.mod hm2 (fun e => ne1 e.symm)
  have h32 := hm2.heap (fun e => n1 e.symm) H3.out
  have hT2 := HC.out.what.del HX.out HM.out hl ho2
  have HM2' := Lib.hid hm2; have HT2 := Lib.hid hT2; have HBI2 := Lib.hid hbi2
  clear h3_0 h3_1 h3_2 h3_f h3_l
  clear H_h3 c0 c9 c10 ho2 ht2 hm2 hbi2 hT2
  obtain ⟨c0, c9, c10, _, _⟩ := hbx2.cells
  clear hbx2
  have h32_0 := cell_of_row _ _ 0 _ _ _ h32; have h32_1 := cell_of_row _ _ 1 _ _ _ h32; have h32_2 := cell_of_row _ _ 2 _ _ _ h32; have h32_f := (fun j => frozen_of_row _ _ j _ _ h32); have h32_l := lt_of_block h32; simp at h32_0 h32_1 h32_2; have H_h32 := Lib.hid h32; clear h32
  go_still_tail 6, (by kernel_rfl)
  go_wp2_with (at_delete; refine wpList_delete_own _ rfl _ _ 55 22 rfl 96 keyedB Tryd.underlying55 unitElem bb M.length Db rfl HBI2.out.own.drew (.int .u64 x.birth) (kB x.birth) rfl (kB_of hb) ?_; intro w3 ho3 ht3; go_frame)
  have hm3 : Mod (fun k => k = bb) w2 w3 := Mod.of_drew (Mod.of_grown ht3.grown (fun k e _ => by cases e; rfl))
  have hB3 := HBI2.out.del HX.out HM2.out hl ho3
  have hmm : Mod (fun k => k = bm ∨ k = bb) W1 w3 := (HM2'.out.mono (fun _ _ h => Or.inl h)).trans (hm3.mono (fun _ _ h => Or.inr h))
  go_end0
  refine ⟨rfl, ⟨_, _, HC.out.box.mod hmm (fun e => by rcases e with e | e; exact ne2 e.symm; exact ne3 e.symm), HT2.out.mod hm3 (fun e => ne1 e), hB3, HC.out.len, fun l q Ls hq hL => (HC.out.lev l q Ls hq hL).frame hmm (fun k hk e => ?_), HC.out.apart, HC.out.own, HC.out.ne, HC.out.dd⟩, (HAL.out.mono (fun _ _ h => h.elim)).trans hmm⟩
  have hl8 : l < 8 := by have := (List.getElem?_eq_some_iff.1 hL).1; rw [HC.out.len] at this; exact this
  obtain ⟨_, o2, o3⟩ := HC.out.own l k hl8 hk
  rcases e with e | e
  · exact o2 e
  · exact o3 e
end
end Go.Proofs.YtlalpenfgkfkpaaDoor

/- cascade: put. Conditions: the cascade lies in memory, the slot is in no bucket of its level. -/
namespace Go.Proofs.YtlalpenfgkfkpaaDoor
open Go.RowKit
set_option maxRecDepth 100000
section
variable {w w' : World} {D : Nat → Prop} {p now : Nat} {ws : List Nat} {bm bb : Nat} {Ds : Nat → Nat → Prop} {Dm Db : DataW Unit} {M : List Td} {Lss : List (List (List Nat))}
def setF {α : Type} (f : Nat → α) (l : Nat) (v : α) : Nat → α := fun k => if k = l then v else f k
/-- Put in level l. -/
theorem CasMem.level (h : CasMem w D p now ws bm bb Ds Dm Db M Lss) {l q : Nat} {Ls' : List (List Nat)} {D' : Nat → Prop} (hl : l < 8) (hq : ws[l]? = some q) (hw : WhAt w' D' q Ls') (hg : grewD (Ds l) D' w) (hm : Mod (Ds l) w w') :
    ∃ D2, CasMem w' D2 p now ws bm bb (setF Ds l D') Dm Db M (Lss.set l Ls') ∧ grewD D D2 w := by
  have hlt : ∀ k, D k → k < w.heap.size := fun k hk => h.lt hk
  have inD : ∀ {l' k : Nat}, l' < 8 → Ds l' k → D k := fun hl' hk => (h.dd _).2 (.inr (.inr (.inr ⟨_, hl', hk⟩)))
  have o := fun k => h.own l k hl
  refine ⟨fun k => k = p ∨ k = bm ∨ k = bb ∨ ∃ l', l' < 8 ∧ setF Ds l D' l' k, ⟨h.box.mod hm (fun e => (o p e).1 rfl), h.what.mod hm (fun e => (o bm e).2.1 rfl), h.births.mod hm (fun e => (o bb e).2.2 rfl), by rw [List.length_set]; exact h.len, fun l2 q2 Ls2 hq2 hl2 => ?_, fun l2 l3 k h2 h3 hne hk => ?_, fun l2 k h2 hk => ?_, h.ne, fun k => Iff.rfl⟩, fun k hk => ?_⟩
  · unfold setF
    by_cases e : l2 = l
    · subst e
      rw [if_pos rfl]
      rw [List.getElem?_set_self (by rw [h.len]; exact hl)] at hl2
      cases hl2
      rw [hq] at hq2
      cases hq2
      exact hw
    · rw [if_neg e]
      rw [List.getElem?_set_ne (fun c => e c.symm)] at hl2
      have hl8 : l2 < 8 := by have := (List.getElem?_eq_some_iff.1 hl2).1; rw [h.len] at this; exact this
      exact (h.lev l2 q2 Ls2 hq2 hl2).frame hm (fun k hk hk2 => h.apart l2 l k hl8 hl e hk hk2)
  · unfold setF at hk ⊢
    by_cases e : l2 = l
    · rw [if_pos e] at hk
      have e3 : l3 ≠ l := fun c => hne (by rw [e, c])
      rw [if_neg e3]
      intro hk3
      rcases hg k hk with c | c
      · exact h.apart l l3 k hl h3 (fun c => e3 c.symm) c hk3
      · have := hlt k (inD h3 hk3); omega
    · rw [if_neg e] at hk
      by_cases e3 : l3 = l
      · rw [if_pos e3]
        intro hk3
        rcases hg k hk3 with c | c
        · exact h.apart l2 l k h2 hl e hk c
        · have := hlt k (inD h2 hk); omega
      · rw [if_neg e3]
        exact h.apart l2 l3 k h2 h3 hne hk
  · unfold setF at hk
    by_cases e : l2 = l
    · rw [if_pos e] at hk
      rcases hg k hk with c | c
      · exact o k c
      · have a1 := hlt p ((h.dd p).2 (.inl rfl))
        have a2 := hlt bm ((h.dd bm).2 (.inr (.inl rfl)))
        have a3 := hlt bb ((h.dd bb).2 (.inr (.inr (.inl rfl))))
        omega
    · rw [if_neg e] at hk
      exact h.own l2 k h2 hk
  · rcases hk with e | e | e | ⟨l2, h2, hk⟩
    · exact .inl ((h.dd k).2 (.inl e))
    · exact .inl ((h.dd k).2 (.inr (.inl e)))
    · exact .inl ((h.dd k).2 (.inr (.inr (.inl e))))
    · unfold setF at hk
      by_cases e : l2 = l
      · rw [if_pos e] at hk
        rcases hg k hk with c | c
        · exact .inl (inD hl c)
        · exact .inr c
      · rw [if_neg e] at hk
        exact .inl (inD h2 hk)
end
end Go.Proofs.YtlalpenfgkfkpaaDoor

/- cascade: put. Conditions: the cascade lies in memory, the slot is in no bucket of its level. -/
namespace Go.Proofs.YtlalpenfgkfkpaaDoor
open Go.RowKit
set_option maxRecDepth 100000
section
variable {w w' : World} {D : Nat → Prop} {p now : Nat} {ws : List Nat} {bm bb : Nat} {Ds : Nat → Nat → Prop} {Dm Db : DataW Unit} {M : List Td} {Lss : List (List (List Nat))}
def putCase (M : List Td) (x : Td) (M' : List Td) : Prop := (∀ y ∈ M, y.slot ≠ x.slot) ∧ (∀ y ∈ M, y.birth ≠ x.birth) ∧ M' = x :: M ∨ x ∈ M ∧ (∀ y ∈ M, y.slot = x.slot → y = x) ∧ M' = M
theorem TMap.putC {b : Nat} {x : Td} {M' : List Td} (h : TMap w b M Dm) (hc : putCase M x M') (ho : w'.ownsMap Tryd.prog 29 tdElem b (M.length + 1) (Dm.put (kS x.slot) (tdD x))) : TMap w' b M' (Dm.put (kS x.slot) (tdD x)) := by
  rcases hc with ⟨h1, _, rfl⟩ | ⟨h1, h2, rfl⟩
  · exact h.put h1 ho
  · exact h.again h1 h2 ho
theorem BMap.putC {b : Nat} {x : Td} {M' : List Td} (h : BMap w b M Db) (hc : putCase M x M') (ho : w'.ownsMap Tryd.prog 22 unitElem b (M.length + 1) (Db.put (kB x.birth) (.agg []))) : BMap w' b M' (Db.put (kB x.birth) (.agg [])) := by
  rcases hc with ⟨_, h1, rfl⟩ | ⟨h1, h2, rfl⟩
  · exact h.put h1 ho
  · exact h.again h1 ho
set_option maxHeartbeats 2000000 in
theorem cput_ok (h : CasMem w D p now ws bm bb Ds Dm Db M Lss) {x : Td} {M' : List Td} (hs : x.slot < 4194304) (hd : x.dl < 18446744073709551616) (hb : x.birth ≤ 18446744073709551615) (hne : x.dl ≠ now) (hMl : M.length < maxLen) {Ls : List (List Nat)} {L : List Nat}
    (hL : Lss[lvl now x.dl]? = some Ls) (hK : Ls[bkt now x.dl]? = some L) (hf : ¬ inL Ls x.slot) (hc : putCase M x M') :
    Calls Tryd.prog 48 #[lkP p, tdV x] w fun e w' => e = .returned (.tuple #[]) ∧ (∃ D' Ds' Dm' Db', CasMem w' D' p now ws bm bb Ds' Dm' Db' M' (Lss.set (lvl now x.dl) (Ls.set (bkt now x.dl) (L ++ [x.slot]))) ∧ grewD D D' w) ∧ Mod D w w' := by
  have hal : Pure w (w.alloc (.cells #[.int .u32 x.slot, .int .u64 x.dl, .int .u64 x.birth] 31)) := (Mod.refl _ w).alloc _
  have h3 := heap_new (w := w) (o := .cells #[.int .u32 x.slot, .int .u64 x.dl, .int .u64 x.birth] 31 (0, 0)) rfl
  have hl8 : lvl now x.dl < 8 := (lvl_spec h.box.now hd).1
  have hbk : bkt now x.dl < 256 := bkt_lt
  obtain ⟨q, hq⟩ : ∃ q, ws[lvl now x.dl]? = some q := ⟨_, List.getElem?_eq_getElem (by rw [h.box.len]; exact hl8)⟩
  have HPl := Lib.hid (cplace_ok (h.pure hal).box hd hne)
  obtain ⟨lv, hlv⟩ : ∃ lv, lvl now x.dl = lv := ⟨_, rfl⟩
  obtain ⟨bk, hbk2⟩ : ∃ bk, bkt now x.dl = bk := ⟨_, rfl⟩
  rw [hlv] at hl8 hq hL HPl ⊢
  rw [hbk2] at hbk hK HPl ⊢
  have nD : ∀ k, D k → k ≠ w.heap.size := fun k hk e => by have := h.lt hk; omega
  have HC0 := Lib.hid h; have HC := Lib.hid (h.pure hal); have HND := Lib.hid nD; have HAL := Lib.hid hal
  have HL := Lib.hid hL; have HK := Lib.hid hK; have HF := Lib.hid hf; have HCa := Lib.hid hc; have HQ := Lib.hid hq
  clear h hal nD hL hK hf hc hq hlv hbk2 hne
  obtain ⟨ne1, ne2, ne3⟩ := HC0.out.ne
  unfold tdV
  go_enter Tryd.func48, Tryd.ntmps48
  go_upto_region 1 with fail
  generalize w.alloc (.cells #[.int .u32 x.slot, .int .u64 x.dl, .int .u64 x.birth] 31) = W1 at *
  obtain ⟨b3, hb3⟩ : ∃ b3, w.heap.size = b3 := ⟨_, rfl⟩
  rw [hb3] at h3 HND ⊢
  have HB3 := Lib.hid hb3
  have H3 := Lib.hid h3
  clear hb3
  have h3_0 := cell_of_row _ _ 0 _ _ _ h3; have h3_1 := cell_of_row _ _ 1 _ _ _ h3; have h3_2 := cell_of_row _ _ 2 _ _ _ h3; have h3_f := (fun j => frozen_of_row _ _ j _ _ h3); have h3_l := lt_of_block h3; simp at h3_0 h3_1 h3_2; have H_h3 := Lib.hid h3; clear h3
  go_upto_region 2 with (go_at_call 49; refine Calls.mono HPl.out ?_; rintro e w2 ⟨rfl, hp2⟩)
  have h32 := hp2.heap (fun h => h) H3.out
  have HC2 := Lib.hid (HC.out.pure hp2)
  have hcl := HC2.out.box.level HQ.out
  obtain ⟨c0, c9, c10, _, _⟩ := HC2.out.box.cells
  have H32 := Lib.hid h32; have HP2 := Lib.hid hp2
  clear h3_0 h3_1 h3_2 h3_f h3_l
  clear H_h3 HC hp2 HPl
  have h32_0 := cell_of_row _ _ 0 _ _ _ h32; have h32_1 := cell_of_row _ _ 1 _ _ _ h32; have h32_2 := cell_of_row _ _ 2 _ _ _ h32; have h32_f := (fun j => frozen_of_row _ _ j _ _ h32); have h32_l := lt_of_block h32; simp at h32_0 h32_1 h32_2; have H_h32 := Lib.hid h32; clear h32
  have dl8 : decide (lv < 8) = true := decide_eq_true hl8
  have l0 : (0 : Int) ≤ (lv : Int) := by omega
  have l1 : (lv : Int) < 8 := by omega
  have HPu := Lib.hid (wput_ok ((HC2.out.lev lv q Ls HQ.out HL.out).pure ((Mod.refl _ w2).drew : Pure w2 w2.drew)) hs HK.out HF.out)
  go_still_tail 9, (by kernel_rfl)
  go_upto_region 3 with (go_at_call 77; refine Calls.mono HPu.out ?_; rintro e w3 ⟨rfl, ⟨D3, hw3, hg3⟩, hm3⟩)
  have hm3' : Mod (Ds lv) w2 w3 := Mod.of_drew hm3
  have inD : ∀ k, Ds lv k → D k := fun k hk => (HC0.out.dd k).2 (.inr (.inr (.inr ⟨lv, hl8, hk⟩)))
  have hg3' : grewD (Ds lv) D3 w2 := hg3
  obtain ⟨D4, hC3, hg4⟩ := HC2.out.level hl8 HQ.out hw3 hg3' hm3'
  have h33 := hm3'.heap (fun e => HND.out b3 (inD b3 e) rfl) H32.out
  have HC3 := Lib.hid hC3; have HG4 := Lib.hid hg4; have HM3 := Lib.hid (hm3'.mono (fun k _ hk => inD k hk) : Mod D w2 w3); have H33 := Lib.hid h33
  clear h32_0 h32_1 h32_2 h32_f h32_l
  clear H_h32 hw3 hg3 hm3 hm3' inD hg3' hC3 hg4 HPu c0 c9 c10 hcl dl8
  obtain ⟨c0, c9, c10, _, _⟩ := HC3.out.box.cells
  have nb1 : bm ≠ b3 := fun e => HND.out bm ((HC0.out.dd bm).2 (.inr (.inl rfl))) e
  have nb2 : bb ≠ b3 := fun e => HND.out bb ((HC0.out.dd bb).2 (.inr (.inr (.inl rfl)))) e
  have h33_0 := cell_of_row _ _ 0 _ _ _ h33; have h33_1 := cell_of_row _ _ 1 _ _ _ h33; have h33_2 := cell_of_row _ _ 2 _ _ _ h33; have h33_f := (fun j => frozen_of_row _ _ j _ _ h33); have h33_l := lt_of_block h33; simp at h33_0 h33_1 h33_2; have H_h33 := Lib.hid h33; clear h33
  go_still_tail 7, (by kernel_rfl)
  go_upto_region 4 with (at_mapUpdate; refine wpList_mapUpdate_own _ rfl _ _ _ 54 rfl 29 31 keyedS Tryd.underlying54 tdElem bm M.length Dm rfl HC3.out.what.own.drew hMl (.int .u32 x.slot) (tdV x) (kS x.slot) rfl rfl (kS_of (by omega)) (tdD x) [] (tdElem_mk x) ?_; intro w4 ho4 hg4; go_frame)
  have hm4 : Mod (fun k => k = bm) w3 w4 := Mod.of_drew (Mod.of_grown hg4 (fun k e _ => by cases e; rfl))
  have hbx4 := HC3.out.box.mod hm4 (fun e => ne2 e.symm)
  have hT4 := HC3.out.what.putC HCa.out ho4
  have hB4 := HC3.out.births.mod hm4 (fun e => ne1 e.symm)
  have h34 := hm4.heap (fun e => nb1 e.symm) H33.out
  have HM4 := Lib.hid hm4; have HT4 := Lib.hid hT4; have HB4 := Lib.hid hB4
  clear h33_0 h33_1 h33_2 h33_f h33_l
  clear H_h33 hm4 hT4 hB4 ho4 hg4 c0 c9 c10
  obtain ⟨c0, c9, c10, _, _⟩ := hbx4.cells
  clear hbx4
  have h34_0 := cell_of_row _ _ 0 _ _ _ h34; have h34_1 := cell_of_row _ _ 1 _ _ _ h34; have h34_2 := cell_of_row _ _ 2 _ _ _ h34; have h34_f := (fun j => frozen_of_row _ _ j _ _ h34); have h34_l := lt_of_block h34; simp at h34_0 h34_1 h34_2; have H_h34 := Lib.hid h34; clear h34
  go_still_tail 7, (by kernel_rfl)
  go_wp2_with (at_mapUpdate; refine wpList_mapUpdate_own _ rfl _ _ _ 55 rfl 22 96 keyedB Tryd.underlying55 unitElem bb M.length Db rfl HB4.out.own.drew hMl (.int .u64 x.birth) (.agg #[]) (kB x.birth) rfl rfl (kB_of hb) (.agg []) [] unitElem_mk ?_; intro w5 ho5 hg5; go_frame)
  have hm5 : Mod (fun k => k = bb) w4 w5 := Mod.of_drew (Mod.of_grown hg5 (fun k e _ => by cases e; rfl))
  have hB5 := HB4.out.putC HCa.out ho5
  have hmm : Mod (fun k => k = bm ∨ k = bb) w3 w5 := (HM4.out.mono (fun _ _ h => Or.inl h)).trans (hm5.mono (fun _ _ h => Or.inr h))
  have hsz : w.heap.size ≤ w2.heap.size := (HAL.out.trans HP2.out).size
  go_end0
  refine ⟨rfl, ⟨D4, _, _, _, ⟨HC3.out.box.mod hmm (fun e => by rcases e with e | e; exact ne2 e.symm; exact ne3 e.symm), HT4.out.mod hm5 (fun e => ne1 e), hB5, HC3.out.len, fun l q Ls hq hL => (HC3.out.lev l q Ls hq hL).frame hmm (fun k hk e => ?_), HC3.out.apart, HC3.out.own, HC3.out.ne, HC3.out.dd⟩, fun k hk => ?_⟩, ?_⟩
  · have hl9 : l < 8 := by have := (List.getElem?_eq_some_iff.1 hL).1; rw [HC3.out.len] at this; exact this
    obtain ⟨_, o2, o3⟩ := HC3.out.own l k hl9 hk
    rcases e with e | e
    · exact o2 e
    · exact o3 e
  · rcases HG4.out k hk with e | e
    · exact .inl e
    · exact .inr (Nat.le_trans hsz e)
  · refine ((HAL.out.trans HP2.out).mono (fun _ _ h => h.elim) : Mod D w w2).trans (HM3.out.trans (hmm.mono (fun k _ hk => ?_)))
    rcases hk with rfl | rfl
    · exact (HC0.out.dd k).2 (.inr (.inl rfl))
    · exact (HC0.out.dd k).2 (.inr (.inr (.inl rfl)))
end
end Go.Proofs.YtlalpenfgkfkpaaDoor

/- cascade: which slot is in which bucket, by plain lists. No condition. -/
namespace Go.Proofs.YtlalpenfgkfkpaaDoor
/-- The slot s is in bucket b of level l. -/
def slotIn (Lss : List (List (List Nat))) (l b s : Nat) : Prop := ∃ Ls L, Lss[l]? = some Ls ∧ Ls[b]? = some L ∧ s ∈ L
/-- What is scheduled (M) is in its buckets at a time, but for the slots of P, which are in none. -/
structure PInv (now : Nat) (M : List Td) (P : Nat → Prop) (Lss : List (List (List Nat))) : Prop where
  len : Lss.length = 8
  wide : ∀ (l : Nat) (Ls : List (List Nat)), Lss[l]? = some Ls → Ls.length = 256
  nd : ∀ (l b : Nat) (Ls : List (List Nat)) (L : List Nat), Lss[l]? = some Ls → Ls[b]? = some L → L.Nodup
  slots : ∀ x ∈ M, ∀ y ∈ M, x.slot = y.slot → x = y
  births : ∀ x ∈ M, ∀ y ∈ M, x.birth = y.birth → x = y
  ndM : M.Nodup
  rng : ∀ x ∈ M, x.slot < 4194304 ∧ x.dl < 18446744073709551615 ∧ 0 < x.birth ∧ x.birth ≤ 18446744073709551615
  after : ∀ x ∈ M, ¬ P x.slot → now < x.dl
  at_ : ∀ l b s, slotIn Lss l b s ↔ ¬ P s ∧ ∃ x ∈ M, x.slot = s ∧ lvl now x.dl = l ∧ bkt now x.dl = b
section
variable {now tt : Nat} {M M' : List Td} {P Q : Nat → Prop} {Lss Lss' : List (List (List Nat))} {Ls : List (List Nat)} {L L' : List Nat} {lv bk : Nat} {x : Td}
theorem slotIn_set (hL : Lss[lv]? = some Ls) (hK : Ls[bk]? = some L) (l b s : Nat) : slotIn (Lss.set lv (Ls.set bk L')) l b s ↔ if l = lv ∧ b = bk then s ∈ L' else slotIn Lss l b s := by
  have hl := (List.getElem?_eq_some_iff.1 hL).1
  have hb := (List.getElem?_eq_some_iff.1 hK).1
  unfold slotIn
  by_cases e1 : l = lv
  · subst e1
    rw [List.getElem?_set_self hl]
    by_cases e2 : b = bk
    · subst e2
      rw [if_pos ⟨rfl, rfl⟩]
      constructor
      · rintro ⟨A, B, h1, h2, h3⟩
        cases h1
        rw [List.getElem?_set_self hb] at h2
        cases h2
        exact h3
      · intro h
        exact ⟨_, _, rfl, List.getElem?_set_self hb, h⟩
    · rw [if_neg (fun c => e2 c.2)]
      constructor
      · rintro ⟨A, B, h1, h2, h3⟩
        cases h1
        rw [List.getElem?_set_ne (fun c => e2 c.symm)] at h2
        exact ⟨_, _, hL, h2, h3⟩
      · rintro ⟨A, B, h1, h2, h3⟩
        rw [hL] at h1
        cases h1
        exact ⟨_, _, rfl, by rw [List.getElem?_set_ne (fun c => e2 c.symm)]; exact h2, h3⟩
  · rw [if_neg (fun c => e1 c.1), List.getElem?_set_ne (fun c => e1 c.symm)]
theorem set_shape (hL : Lss[lv]? = some Ls) (h1 : ∀ (l : Nat) (A : List (List Nat)), Lss[l]? = some A → A.length = 256) {Ls' : List (List Nat)} (h2 : Ls'.length = 256) (l : Nat) (A : List (List Nat)) (h : (Lss.set lv Ls')[l]? = some A) : A.length = 256 := by
  have hl := (List.getElem?_eq_some_iff.1 hL).1
  by_cases e1 : l = lv
  · subst e1
    rw [List.getElem?_set_self hl] at h
    cases h
    exact h2
  · rw [List.getElem?_set_ne (fun c => e1 c.symm)] at h
    exact h1 l A h
theorem set_nd (hL : Lss[lv]? = some Ls) (hK : Ls[bk]? = some L) (h1 : ∀ (l b : Nat) (A : List (List Nat)) (B : List Nat), Lss[l]? = some A → A[b]? = some B → B.Nodup) (h2 : L'.Nodup) (l b : Nat) (A : List (List Nat)) (B : List Nat) (hA : (Lss.set lv (Ls.set bk L'))[l]? = some A) (hB : A[b]? = some B) : B.Nodup := by
  have hl := (List.getElem?_eq_some_iff.1 hL).1
  have hb := (List.getElem?_eq_some_iff.1 hK).1
  by_cases e1 : l = lv
  · subst e1
    rw [List.getElem?_set_self hl] at hA
    cases hA
    by_cases e2 : b = bk
    · subst e2
      rw [List.getElem?_set_self hb] at hB
      cases hB
      exact h2
    · rw [List.getElem?_set_ne (fun c => e2 c.symm)] at hB
      exact h1 l b _ _ hL hB
  · rw [List.getElem?_set_ne (fun c => e1 c.symm)] at hA
    exact h1 l b A B hA hB
theorem PInv.get (h : PInv now M P Lss) (h1 : lv < 8) (h2 : bk < 256) : ∃ Ls L, Lss[lv]? = some Ls ∧ Ls[bk]? = some L := by
  obtain ⟨Ls, hL⟩ : ∃ Ls, Lss[lv]? = some Ls := ⟨_, List.getElem?_eq_getElem (by rw [h.len]; exact h1)⟩
  exact ⟨Ls, _, hL, List.getElem?_eq_getElem (by rw [h.wide lv Ls hL]; exact h2)⟩
theorem PInv.uniq (h : PInv now M P Lss) {l b l' b' s : Nat} (h1 : slotIn Lss l b s) (h2 : slotIn Lss l' b' s) : l = l' ∧ b = b' := by
  obtain ⟨_, x, hx, e1, e2, e3⟩ := (h.at_ _ _ _).1 h1
  obtain ⟨_, y, hy, f1, f2, f3⟩ := (h.at_ _ _ _).1 h2
  have := h.slots x hx y hy (by rw [e1, f1])
  subst this
  exact ⟨by rw [← e2, f2], by rw [← e3, f3]⟩
theorem PInv.out (h : PInv now M P Lss) {s : Nat} (hp : ∀ y ∈ M, y.slot = s → P s) (l b : Nat) : ¬ slotIn Lss l b s := fun c => by
  obtain ⟨h1, y, hy, e, _⟩ := (h.at_ _ _ _).1 c
  exact h1 (hp y hy e)
theorem PInv.notL (h : PInv now M P Lss) {s : Nat} (hp : ∀ y ∈ M, y.slot = s → P s) (hL : Lss[lv]? = some Ls) : ¬ inL Ls s := fun ⟨b, l, h1, h2⟩ => h.out hp lv b ⟨Ls, l, hL, h1, h2⟩
theorem PInv.put (h : PInv now M P Lss) (hc : putCase M x M') (hn : now < x.dl) (hr : x.slot < 4194304 ∧ x.dl < 18446744073709551615 ∧ 0 < x.birth ∧ x.birth ≤ 18446744073709551615) (hp : ∀ y ∈ M, y.slot = x.slot → P x.slot)
    (hL : Lss[lvl now x.dl]? = some Ls) (hK : Ls[bkt now x.dl]? = some L) (hQ : ∀ s, Q s ↔ P s ∧ s ≠ x.slot) : PInv now M' Q (Lss.set (lvl now x.dl) (Ls.set (bkt now x.dl) (L ++ [x.slot]))) := by
  have hmem : ∀ y, y ∈ M' ↔ y = x ∨ y ∈ M := fun y => by
    rcases hc with ⟨_, _, rfl⟩ | ⟨h1, _, rfl⟩
    · exact List.mem_cons
    · exact ⟨.inr, fun e => by rcases e with rfl | e; exact h1; exact e⟩
  have hu : ∀ y ∈ M', y.slot = x.slot → y = x := fun y hy e => by
    rcases hc with ⟨h1, _, rfl⟩ | ⟨_, h2, rfl⟩
    · rcases List.mem_cons.1 hy with rfl | hy
      · rfl
      · exact absurd e (h1 y hy)
    · exact h2 y hy e
  have hout := h.out hp
  refine ⟨by rw [List.length_set]; exact h.len, set_shape hL h.wide (by rw [List.length_set]; exact h.wide _ _ hL), set_nd hL hK h.nd ?_, ?_, ?_, ?_, ?_, ?_, fun l b s => ?_⟩
  · rw [List.nodup_append]
    refine ⟨h.nd _ _ _ _ hL hK, by simp, fun a ha b hb e => ?_⟩
    rw [List.mem_singleton] at hb
    subst hb
    subst e
    exact hout _ _ ⟨Ls, L, hL, hK, ha⟩
  · intro a ha b hb e
    rcases (hmem a).1 ha with rfl | ha2
    · exact (hu b hb e.symm).symm
    · rcases (hmem b).1 hb with rfl | hb2
      · exact hu a ha e
      · exact h.slots a ha2 b hb2 e
  · rcases hc with ⟨_, h2, rfl⟩ | ⟨_, _, rfl⟩
    · intro a ha b hb e
      rcases List.mem_cons.1 ha with ea | ha'
      · rcases List.mem_cons.1 hb with eb | hb'
        · rw [ea, eb]
        · exact absurd (by rw [← e, ea]) (h2 b hb')
      · rcases List.mem_cons.1 hb with eb | hb'
        · exact absurd (by rw [e, eb]) (h2 a ha')
        · exact h.births a ha' b hb' e
    · exact h.births
  · rcases hc with ⟨h1, _, rfl⟩ | ⟨_, _, rfl⟩
    · exact List.nodup_cons.2 ⟨fun c => h1 x c rfl, h.ndM⟩
    · exact h.ndM
  · intro y hy
    rcases (hmem y).1 hy with rfl | hy
    · exact hr
    · exact h.rng y hy
  · intro y hy hq
    by_cases e : y.slot = x.slot
    · rw [hu y hy e]; exact hn
    · rcases (hmem y).1 hy with rfl | hy
      · exact hn
      · exact h.after y hy (fun c => hq ((hQ _).2 ⟨c, e⟩))
  · rw [slotIn_set hL hK]
    by_cases e : s = x.slot
    · subst e
      have hq : ¬ Q x.slot := fun c => ((hQ _).1 c).2 rfl
      by_cases c : l = lvl now x.dl ∧ b = bkt now x.dl
      · rw [if_pos c]
        exact ⟨fun _ => ⟨hq, x, (hmem x).2 (.inl rfl), rfl, c.1.symm, c.2.symm⟩, fun _ => List.mem_append_right _ List.mem_cons_self⟩
      · rw [if_neg c]
        refine ⟨fun k => absurd k (hout _ _), fun ⟨_, y, hy, e1, e2, e3⟩ => absurd ?_ c⟩
        have := hu y hy e1
        subst this
        exact ⟨e2.symm, e3.symm⟩
    · have hqp : Q s ↔ P s := ⟨fun c => ((hQ s).1 c).1, fun c => (hQ s).2 ⟨c, e⟩⟩
      have h1 : (if l = lvl now x.dl ∧ b = bkt now x.dl then s ∈ L ++ [x.slot] else slotIn Lss l b s) ↔ slotIn Lss l b s := by
        by_cases c : l = lvl now x.dl ∧ b = bkt now x.dl
        · rw [if_pos c, List.mem_append, List.mem_singleton, c.1, c.2]
          refine ⟨fun k => ?_, fun ⟨A, B, a1, a2, a3⟩ => ?_⟩
          · rcases k with k | k
            · exact ⟨Ls, L, hL, hK, k⟩
            · exact absurd k e
          · rw [hL] at a1; cases a1
            rw [hK] at a2; cases a2
            exact .inl a3
        · rw [if_neg c]
      rw [h1, h.at_, hqp]
      refine and_congr_right (fun _ => ⟨fun ⟨y, hy, k⟩ => ⟨y, (hmem y).2 (.inr hy), k⟩, fun ⟨y, hy, k⟩ => ?_⟩)
      rcases (hmem y).1 hy with rfl | hy
      · exact absurd k.1.symm e
      · exact ⟨y, hy, k⟩
theorem PInv.cut (h : PInv now M P Lss) (hx : x ∈ M) (hM : ∀ y, y ∈ M' ↔ y ∈ M ∧ y.slot ≠ x.slot) (hnd : M'.Nodup)
    (hL : Lss[lvl now x.dl]? = some Ls) (hK : Ls[bkt now x.dl]? = some L) : PInv now M' P (Lss.set (lvl now x.dl) (Ls.set (bkt now x.dl) (L.erase x.slot))) := by
  have hLn := h.nd _ _ _ _ hL hK
  refine ⟨by rw [List.length_set]; exact h.len, set_shape hL h.wide (by rw [List.length_set]; exact h.wide _ _ hL), set_nd hL hK h.nd (hLn.erase _), fun a ha b hb => h.slots a ((hM a).1 ha).1 b ((hM b).1 hb).1, fun a ha b hb => h.births a ((hM a).1 ha).1 b ((hM b).1 hb).1, hnd, fun y hy => h.rng y ((hM y).1 hy).1, fun y hy => h.after y ((hM y).1 hy).1, fun l b s => ?_⟩
  rw [slotIn_set hL hK]
  by_cases e : s = x.slot
  · subst e
    have r : ¬ ∃ y ∈ M', y.slot = x.slot ∧ lvl now y.dl = l ∧ bkt now y.dl = b := fun ⟨y, hy, e1, _⟩ => ((hM y).1 hy).2 e1
    by_cases c : l = lvl now x.dl ∧ b = bkt now x.dl
    · rw [if_pos c]
      exact ⟨fun k => absurd k (fun k => ((List.Nodup.mem_erase_iff hLn).1 k).1 rfl), fun k => absurd k.2 r⟩
    · rw [if_neg c]
      refine ⟨fun k => ?_, fun k => absurd k.2 r⟩
      obtain ⟨_, y, hy, e1, e2, e3⟩ := (h.at_ _ _ _).1 k
      have := h.slots y hy x hx e1
      subst this
      exact absurd ⟨e2.symm, e3.symm⟩ c
  · have h1 : (if l = lvl now x.dl ∧ b = bkt now x.dl then s ∈ L.erase x.slot else slotIn Lss l b s) ↔ slotIn Lss l b s := by
      by_cases c : l = lvl now x.dl ∧ b = bkt now x.dl
      · rw [if_pos c, List.mem_erase_of_ne e, c.1, c.2]
        refine ⟨fun k => ⟨Ls, L, hL, hK, k⟩, fun ⟨A, B, a1, a2, a3⟩ => ?_⟩
        rw [hL] at a1; cases a1
        rw [hK] at a2; cases a2
        exact a3
      · rw [if_neg c]
    rw [h1, h.at_]
    refine and_congr_right (fun _ => ⟨fun ⟨y, hy, k⟩ => ⟨y, (hM y).2 ⟨hy, fun c => e (by rw [← k.1, c])⟩, k⟩, fun ⟨y, hy, k⟩ => ⟨y, ((hM y).1 hy).1, k⟩⟩)
/-- What is in no bucket is forgotten. -/
theorem PInv.drop (h : PInv now M P Lss) (hp : P x.slot) (hM : ∀ y, y ∈ M' ↔ y ∈ M ∧ y.slot ≠ x.slot) (hnd : M'.Nodup) (hQ : ∀ s, Q s ↔ P s ∧ s ≠ x.slot) : PInv now M' Q Lss := by
  refine ⟨h.len, h.wide, h.nd, fun a ha b hb => h.slots a ((hM a).1 ha).1 b ((hM b).1 hb).1, fun a ha b hb => h.births a ((hM a).1 ha).1 b ((hM b).1 hb).1, hnd, fun y hy => h.rng y ((hM y).1 hy).1, fun y hy hq => h.after y ((hM y).1 hy).1 (fun c => hq ((hQ _).2 ⟨c, ((hM y).1 hy).2⟩)), fun l b s => ?_⟩
  rw [h.at_]
  by_cases e : s = x.slot
  · subst e
    exact ⟨fun k => absurd hp k.1, fun ⟨_, y, hy, e1, _⟩ => absurd e1 ((hM y).1 hy).2⟩
  · have hqp : Q s ↔ P s := ⟨fun c => ((hQ s).1 c).1, fun c => (hQ s).2 ⟨c, e⟩⟩
    rw [hqp]
    refine and_congr_right (fun _ => ⟨fun ⟨y, hy, k⟩ => ⟨y, (hM y).2 ⟨hy, fun c => e (by rw [← k.1, c])⟩, k⟩, fun ⟨y, hy, k⟩ => ⟨y, ((hM y).1 hy).1, k⟩⟩)
theorem PInv.new (now : Nat) : PInv now [] (fun _ => False) (List.replicate 8 (List.replicate 256 [])) := by
  refine ⟨List.length_replicate, fun l A h => ?_, fun l b A B h1 h2 => ?_, (fun _ h => by cases h), (fun _ h => by cases h), List.nodup_nil, (fun _ h => by cases h), (fun _ h => by cases h), fun l b s => ⟨fun ⟨A, B, h1, h2, h3⟩ => ?_, fun ⟨_, x, hx, _⟩ => by cases hx⟩⟩
  · rw [List.getElem?_replicate] at h
    split at h
    · cases h; exact List.length_replicate
    · cases h
  · rw [List.getElem?_replicate] at h1
    split at h1
    · cases h1
      rw [List.getElem?_replicate] at h2
      split at h2
      · cases h2; exact List.nodup_nil
      · cases h2
    · cases h1
  · rw [List.getElem?_replicate] at h1
    split at h1
    · cases h1
      rw [List.getElem?_replicate] at h2
      split at h2
      · cases h2; cases h3
      · cases h2
    · cases h1
theorem PInv.perm (h : PInv now M P Lss) (hp : M.Perm M') : PInv now M' P Lss :=
  ⟨h.len, h.wide, h.nd, fun a ha b hb => h.slots a (hp.mem_iff.2 ha) b (hp.mem_iff.2 hb), fun a ha b hb => h.births a (hp.mem_iff.2 ha) b (hp.mem_iff.2 hb), hp.nodup_iff.1 h.ndM, fun y hy => h.rng y (hp.mem_iff.2 hy), fun y hy => h.after y (hp.mem_iff.2 hy), fun l b s => by
    rw [h.at_]
    exact and_congr_right (fun _ => ⟨fun ⟨y, hy, k⟩ => ⟨y, hp.mem_iff.1 hy, k⟩, fun ⟨y, hy, k⟩ => ⟨y, hp.mem_iff.2 hy, k⟩⟩)⟩
end
end Go.Proofs.YtlalpenfgkfkpaaDoor

/- cascade: what an advance moves, by plain lists. No condition. -/
namespace Go.Proofs.YtlalpenfgkfkpaaDoor
def flatN (Ls : List (List Nat)) (n : Nat) : List Nat := (Ls.take n).flatten
def emptyL (Ls : List (List Nat)) (n : Nat) : List (List Nat) := List.replicate n [] ++ Ls.drop n
def clearL (Lss : List (List (List Nat))) (k : Nat) : List (List (List Nat)) := List.replicate k (List.replicate 256 []) ++ Lss.drop k
def movedK (Lss : List (List (List Nat))) (k : Nat) : List Nat := ((Lss.take k).map List.flatten).flatten
section
variable {now tt : Nat} {M M' : List Td} {P Q : Nat → Prop} {Lss Lss' : List (List (List Nat))} {Ls cur : List (List Nat)} {L L' : List Nat} {lv bk n b k : Nat} {x : Td}
theorem neB_cons (a : List Nat) (Ls : List (List Nat)) (i : Nat) : neB (a :: Ls) (i + 1) = neB Ls i := rfl
theorem take_flat_first : ∀ {cur : List (List Nat)} {b n : Nat} {L : List Nat}, b < n → cur[b]? = some L → (∀ i, i < b → neB cur i = false) → (cur.take n).flatten = L ++ ((cur.set b []).take n).flatten
  | [], b, n, L, _, h, _ => by cases h
  | a :: cur, 0, n + 1, L, _, h, _ => by
    injection h with h
    subst h
    simp
  | a :: cur, b + 1, n + 1, L, hb, h, he => by
    have h0 := he 0 (by omega)
    have ha : a = [] := by
      cases a with
      | nil => rfl
      | cons y a => simp [neB] at h0
    subst ha
    have := take_flat_first (cur := cur) (b := b) (n := n) (L := L) (by omega) h (fun i hi => by rw [← neB_cons [] cur i]; exact he (i + 1) (by omega))
    rw [List.take_succ_cons, List.flatten_cons, List.nil_append, this, List.set_cons_succ, List.take_succ_cons, List.flatten_cons, List.nil_append]
theorem take_flat_none : ∀ {cur : List (List Nat)} {n : Nat}, n ≤ cur.length → (∀ i, i < n → neB cur i = false) → cur.take n = List.replicate n []
  | cur, 0, _, _ => by simp
  | [], n + 1, h, _ => by simp at h
  | a :: cur, n + 1, h, he => by
    have h0 := he 0 (by omega)
    have ha : a = [] := by
      cases a with
      | nil => rfl
      | cons y a => simp [neB] at h0
    subst ha
    rw [List.take_succ_cons, take_flat_none (by simp at h; omega) (fun i hi => by rw [← neB_cons [] cur i]; exact he (i + 1) (by omega)), List.replicate_succ]
theorem flatten_rep (n : Nat) : (List.replicate n ([] : List Nat)).flatten = [] := by
  induction n with
  | zero => rfl
  | succ n ih => rw [List.replicate_succ, List.flatten_cons, ih]; rfl
theorem mem_flatN {s : Nat} : s ∈ flatN Ls n ↔ ∃ b L, b < n ∧ Ls[b]? = some L ∧ s ∈ L := by
  unfold flatN
  rw [List.mem_flatten]
  constructor
  · rintro ⟨L, hL, hs⟩
    obtain ⟨b, hb⟩ := List.getElem?_of_mem hL
    rw [List.getElem?_take] at hb
    split at hb
    · exact ⟨b, L, by assumption, hb, hs⟩
    · cases hb
  · rintro ⟨b, L, hb, hL, hs⟩
    refine ⟨L, ?_, hs⟩
    apply List.mem_of_getElem? (i := b)
    rw [List.getElem?_take, if_pos hb, hL]
theorem mem_movedK {s : Nat} : s ∈ movedK Lss k ↔ ∃ l b, l < k ∧ slotIn Lss l b s := by
  unfold movedK
  rw [List.mem_flatten]
  constructor
  · rintro ⟨A, hA, hs⟩
    obtain ⟨l, hl⟩ := List.getElem?_of_mem hA
    rw [List.getElem?_map, List.getElem?_take] at hl
    split at hl
    · cases hL : Lss[l]? with
      | none => rw [hL] at hl; cases hl
      | some Ls =>
        rw [hL] at hl
        injection hl with hl
        subst hl
        obtain ⟨B, hB, hs⟩ := List.mem_flatten.1 hs
        obtain ⟨b, hb⟩ := List.getElem?_of_mem hB
        exact ⟨l, b, by assumption, Ls, B, hL, hb, hs⟩
    · cases hl
  · rintro ⟨l, b, hl, Ls, B, hL, hB, hs⟩
    refine ⟨Ls.flatten, ?_, List.mem_flatten.2 ⟨B, List.mem_of_getElem? hB, hs⟩⟩
    apply List.mem_of_getElem? (i := l)
    rw [List.getElem?_map, List.getElem?_take, if_pos hl, hL]
    rfl
theorem movedK_succ (hL : Lss[k]? = some Ls) : movedK Lss (k + 1) = movedK Lss k ++ Ls.flatten := by
  unfold movedK
  rw [List.take_add_one, hL]
  simp
theorem clearL_succ (hL : Lss[k]? = some Ls) : clearL Lss (k + 1) = (clearL Lss k).set k (List.replicate 256 []) := by
  unfold clearL
  have hk := (List.getElem?_eq_some_iff.1 hL).1
  rw [List.set_append_right _ _ (by rw [List.length_replicate]; exact Nat.le_refl _), List.length_replicate, Nat.sub_self, List.drop_eq_getElem_cons hk, List.set_cons_zero, List.replicate_succ', List.append_assoc]
  rfl
theorem clearL_get (hk : k ≤ lv) : (clearL Lss k)[lv]? = Lss[lv]? := by
  unfold clearL
  rw [List.getElem?_append_right (by rw [List.length_replicate]; exact hk), List.length_replicate, List.getElem?_drop, show k + (lv - k) = lv by omega]
theorem clearL_lo (hk : lv < k) : (clearL Lss k)[lv]? = some (List.replicate 256 []) := by
  unfold clearL
  rw [List.getElem?_append_left (by rw [List.length_replicate]; exact hk), List.getElem?_replicate, if_pos hk]
theorem slotIn_clear {l s : Nat} : slotIn (clearL Lss k) l b s ↔ slotIn Lss l b s ∧ ¬ l < k := by
  unfold slotIn
  by_cases c : l < k
  · refine ⟨fun ⟨A, B, h1, h2, h3⟩ => ?_, fun h => absurd c h.2⟩
    rw [clearL_lo c] at h1
    cases h1
    rw [List.getElem?_replicate] at h2
    split at h2
    · cases h2; cases h3
    · cases h2
  · rw [clearL_get (by omega)]
    exact ⟨fun h => ⟨h, c⟩, fun h => h.1⟩
theorem emptyL_get (hn : n ≤ b) : (emptyL Ls n)[b]? = Ls[b]? := by
  unfold emptyL
  rw [List.getElem?_append_right (by rw [List.length_replicate]; exact hn), List.length_replicate, List.getElem?_drop, show n + (b - n) = b by omega]
theorem emptyL_lo (hn : b < n) : (emptyL Ls n)[b]? = some [] := by
  unfold emptyL
  rw [List.getElem?_append_left (by rw [List.length_replicate]; exact hn), List.getElem?_replicate, if_pos hn]
theorem emptyL_length (h : Ls.length = 256) (hn : n ≤ 256) : (emptyL Ls n).length = 256 := by
  unfold emptyL
  rw [List.length_append, List.length_replicate, List.length_drop, h]; omega
/-- What lies behind an advance. -/
def leftL (Lss : List (List (List Nat))) (Ls : List (List Nat)) (top n : Nat) : List (List (List Nat)) := (clearL Lss top).set top (emptyL Ls n)
theorem slotIn_left (hL : Lss[lv]? = some Ls) {l s : Nat} : slotIn (leftL Lss Ls lv n) l b s ↔ slotIn Lss l b s ∧ ¬ (l < lv ∨ l = lv ∧ b < n) := by
  have hlt : lv < (clearL Lss lv).length := by
    have := (List.getElem?_eq_some_iff.1 ((clearL_get (Lss := Lss) (Nat.le_refl lv)).trans hL)).1
    exact this
  unfold leftL
  by_cases e : l = lv
  · subst e
    unfold slotIn
    rw [List.getElem?_set_self hlt]
    by_cases c : b < n
    · refine ⟨fun ⟨A, B, h1, h2, h3⟩ => ?_, fun h => absurd (.inr ⟨rfl, c⟩) h.2⟩
      cases h1
      rw [emptyL_lo c] at h2
      cases h2
      cases h3
    · refine ⟨fun ⟨A, B, h1, h2, h3⟩ => ?_, fun ⟨⟨A, B, h1, h2, h3⟩, _⟩ => ?_⟩
      · cases h1
        rw [emptyL_get (by omega)] at h2
        exact ⟨⟨Ls, B, hL, h2, h3⟩, by omega⟩
      · rw [hL] at h1
        cases h1
        exact ⟨_, B, rfl, by rw [emptyL_get (by omega)]; exact h2, h3⟩
  · have h1 : slotIn ((clearL Lss lv).set lv (emptyL Ls n)) l b s ↔ slotIn (clearL Lss lv) l b s := by
      unfold slotIn
      rw [List.getElem?_set_ne (fun c => e c.symm)]
    rw [h1, slotIn_clear]
    refine and_congr_right (fun _ => ?_)
    omega
theorem nodup_flat : ∀ {A : List (List Nat)}, (∀ (i : Nat) (l : List Nat), A[i]? = some l → l.Nodup) → (∀ (i j : Nat) (l l' : List Nat) (s : Nat), A[i]? = some l → A[j]? = some l' → s ∈ l → s ∈ l' → i = j) → A.flatten.Nodup
  | [], _, _ => by simp
  | a :: A, h1, h2 => by
    rw [List.flatten_cons, List.nodup_append]
    refine ⟨h1 0 a rfl, nodup_flat (fun i l h => h1 (i + 1) l h) (fun i j l l' s e1 e2 s1 s2 => by have := h2 (i + 1) (j + 1) l l' s e1 e2 s1 s2; omega), fun s hs t ht e => ?_⟩
    subst e
    obtain ⟨B, hB, hs2⟩ := List.mem_flatten.1 ht
    obtain ⟨i, hi⟩ := List.getElem?_of_mem hB
    have := h2 0 (i + 1) a B s rfl hi hs hs2
    omega
theorem PInv.nodup_level (h : PInv now M P Lss) (hL : Lss[lv]? = some Ls) : Ls.flatten.Nodup :=
  nodup_flat (fun i l e => h.nd lv i Ls l hL e) (fun i j l l' s e1 e2 s1 s2 => (h.uniq (l := lv) (l' := lv) ⟨Ls, l, hL, e1, s1⟩ ⟨Ls, l', hL, e2, s2⟩).2)
theorem PInv.nodup_moved (h : PInv now M P Lss) (hL : Lss[lv]? = some Ls) : (movedK Lss lv ++ flatN Ls n).Nodup := by
  rw [List.nodup_append]
  refine ⟨nodup_flat (fun i l e => ?_) (fun i j l l' s e1 e2 s1 s2 => ?_), ?_, fun s hs t ht e => ?_⟩
  · rw [List.getElem?_map, List.getElem?_take] at e
    split at e
    · cases hA : Lss[i]? with
      | none => rw [hA] at e; cases e
      | some A => rw [hA] at e; injection e with e; subst e; exact h.nodup_level hA
    · cases e
  · rw [List.getElem?_map, List.getElem?_take] at e1 e2
    split at e1
    · split at e2
      · cases hA : Lss[i]? with
        | none => rw [hA] at e1; cases e1
        | some A =>
          cases hB : Lss[j]? with
          | none => rw [hB] at e2; cases e2
          | some B =>
            rw [hA] at e1; injection e1 with e1; subst e1
            rw [hB] at e2; injection e2 with e2; subst e2
            obtain ⟨C, hC, c1⟩ := List.mem_flatten.1 s1
            obtain ⟨D, hD, d1⟩ := List.mem_flatten.1 s2
            obtain ⟨b1, hb1⟩ := List.getElem?_of_mem hC
            obtain ⟨b2, hb2⟩ := List.getElem?_of_mem hD
            exact (h.uniq ⟨A, C, hA, hb1, c1⟩ ⟨B, D, hB, hb2, d1⟩).1
      · cases e2
    · cases e1
  · have := h.nodup_level hL
    rw [← List.take_append_drop n Ls, List.flatten_append, List.nodup_append] at this
    exact this.1
  · subst e
    obtain ⟨l, b, hl, h1⟩ := mem_movedK.1 hs
    obtain ⟨b2, B, _, h2, h3⟩ := mem_flatN.1 ht
    have := (h.uniq h1 ⟨Ls, B, hL, h2, h3⟩).1
    omega
/-- The time goes on: what is moved is in no bucket, and all else is where it was. -/
theorem PInv.start (h : PInv now M (fun _ => False) Lss) (hn : now < tt) (ht : tt < 18446744073709551616) (hL : Lss[lvl now tt]? = some Ls) :
    PInv tt M (fun s => s ∈ movedK Lss (lvl now tt) ++ flatN Ls (bkt now tt + 1)) (leftL Lss Ls (lvl now tt) (bkt now tt + 1)) ∧ ∀ s, s ∈ movedK Lss (lvl now tt) ++ flatN Ls (bkt now tt + 1) → ∃ x ∈ M, x.slot = s := by
  have hb : bkt now tt < 256 := bkt_lt
  have hlen : (clearL Lss (lvl now tt)).length = 8 := by
    have := (List.getElem?_eq_some_iff.1 hL).1
    have := h.len
    unfold clearL
    rw [List.length_append, List.length_replicate, List.length_drop]; omega
  have hmv : ∀ s, s ∈ movedK Lss (lvl now tt) ++ flatN Ls (bkt now tt + 1) ↔ ∃ l b, slotIn Lss l b s ∧ (l < lvl now tt ∨ l = lvl now tt ∧ b < bkt now tt + 1) := fun s => by
    rw [List.mem_append, mem_movedK, mem_flatN]
    constructor
    · rintro (⟨l, b, h1, h2⟩ | ⟨b, B, h1, h2, h3⟩)
      · exact ⟨l, b, h2, .inl h1⟩
      · exact ⟨_, b, ⟨Ls, B, hL, h2, h3⟩, .inr ⟨rfl, h1⟩⟩
    · rintro ⟨l, b, h1, h2 | ⟨rfl, h2⟩⟩
      · exact .inl ⟨l, b, h2, h1⟩
      · obtain ⟨A, B, a1, a2, a3⟩ := h1
        rw [hL] at a1
        cases a1
        exact .inr ⟨b, B, h2, a2, a3⟩
  have hnm : ∀ x ∈ M, x.slot ∉ movedK Lss (lvl now tt) ++ flatN Ls (bkt now tt + 1) → tt < x.dl ∧ lvl tt x.dl = lvl now x.dl ∧ bkt tt x.dl = bkt now x.dl := fun x hx hs => by
    obtain ⟨_, r2, _⟩ := h.rng x hx
    refine not_moved (by omega) ht (by omega) (h.after x hx (fun c => c)) hn (fun hm => hs ((hmv _).2 ⟨lvl now x.dl, bkt now x.dl, (h.at_ _ _ _).2 ⟨(fun c => c), x, hx, rfl, rfl, rfl⟩, ?_⟩))
    unfold movedD at hm
    rcases hm with hm | ⟨h1, h2⟩
    · exact .inl hm
    · exact .inr ⟨h1, by omega⟩
  refine ⟨⟨by unfold leftL; rw [List.length_set]; exact hlen, fun l A hA => ?_, fun l b A B hA hB => ?_, h.slots, h.births, h.ndM, h.rng, fun x hx hs => (hnm x hx hs).1, fun l b s => ?_⟩, fun s hs => ?_⟩
  · unfold leftL at hA
    by_cases e : l = lvl now tt
    · subst e
      rw [List.getElem?_set_self (by rw [hlen]; have := (List.getElem?_eq_some_iff.1 hL).1; rw [h.len] at this; exact this)] at hA
      cases hA
      exact emptyL_length (h.wide _ _ hL) (by omega)
    · rw [List.getElem?_set_ne (fun c => e c.symm)] at hA
      by_cases c : l < lvl now tt
      · rw [clearL_lo c] at hA
        cases hA
        exact List.length_replicate
      · rw [clearL_get (by omega)] at hA
        exact h.wide l A hA
  · unfold leftL at hA
    by_cases e : l = lvl now tt
    · subst e
      rw [List.getElem?_set_self (by rw [hlen]; have := (List.getElem?_eq_some_iff.1 hL).1; rw [h.len] at this; exact this)] at hA
      cases hA
      by_cases c : b < bkt now tt + 1
      · rw [emptyL_lo c] at hB
        cases hB
        exact List.nodup_nil
      · rw [emptyL_get (by omega)] at hB
        exact h.nd _ _ _ _ hL hB
    · rw [List.getElem?_set_ne (fun c => e c.symm)] at hA
      by_cases c : l < lvl now tt
      · rw [clearL_lo c] at hA
        cases hA
        rw [List.getElem?_replicate] at hB
        split at hB
        · cases hB; exact List.nodup_nil
        · cases hB
      · rw [clearL_get (by omega)] at hA
        exact h.nd l b A B hA hB
  · rw [slotIn_left hL]
    constructor
    · rintro ⟨h1, h2⟩
      obtain ⟨_, x, hx, e1, e2, e3⟩ := (h.at_ _ _ _).1 h1
      have hns : s ∉ movedK Lss (lvl now tt) ++ flatN Ls (bkt now tt + 1) := fun c => by
        obtain ⟨l', b', h3, h4⟩ := (hmv s).1 c
        obtain ⟨f1, f2⟩ := h.uniq h1 h3
        rw [← f1, ← f2] at h4
        exact h2 h4
      obtain ⟨_, g2, g3⟩ := hnm x hx (by rw [e1]; exact hns)
      exact ⟨hns, x, hx, e1, by rw [g2, e2], by rw [g3, e3]⟩
    · rintro ⟨hns, x, hx, e1, e2, e3⟩
      obtain ⟨_, g2, g3⟩ := hnm x hx (by rw [e1]; exact hns)
      have h1 : slotIn Lss l b s := (h.at_ _ _ _).2 ⟨(fun c => c), x, hx, e1, by rw [← g2, e2], by rw [← g3, e3]⟩
      exact ⟨h1, fun c => hns ((hmv s).2 ⟨l, b, h1, c⟩)⟩
  · obtain ⟨l, b, h1, _⟩ := (hmv s).1 hs
    obtain ⟨_, x, hx, e, _⟩ := (h.at_ _ _ _).1 h1
    exact ⟨x, hx, e⟩
end
end Go.Proofs.YtlalpenfgkfkpaaDoor

/- cascade: an advance, by plain lists: what is due, sorted, and what is left. No condition. -/
namespace Go.Proofs.YtlalpenfgkfkpaaDoor
section
variable {now tt : Nat} {M M' Mj dj : List Td} {P Q : Nat → Prop} {Lss Lss' : List (List (List Nat))} {Ls cur : List (List Nat)} {L L' mv : List Nat} {lv bk n b k s : Nat} {x : Td}
/-- One is taken away. -/
theorem PInv.without (h : PInv now M P Lss) (hp : M.Perm (x :: M')) : x ∈ M ∧ (∀ y, y ∈ M' ↔ y ∈ M ∧ y.slot ≠ x.slot) ∧ (∀ y, y ∈ M' ↔ y ∈ M ∧ y.birth ≠ x.birth) ∧ M'.Nodup ∧ M'.length + 1 = M.length := by
  have hx : x ∈ M := hp.mem_iff.2 List.mem_cons_self
  have hnd := hp.nodup_iff.1 h.ndM
  obtain ⟨n1, n2⟩ := List.nodup_cons.1 hnd
  have key : ∀ y, y ∈ M' ↔ y ∈ M ∧ y ≠ x := fun y => by
    rw [hp.mem_iff, List.mem_cons]
    constructor
    · intro hy
      exact ⟨.inr hy, fun e => n1 (e ▸ hy)⟩
    · rintro ⟨e | e, c⟩
      · exact absurd e c
      · exact e
  refine ⟨hx, fun y => ?_, fun y => ?_, n2, by rw [hp.length_eq]; rfl⟩
  · rw [key]
    exact and_congr_right (fun hy => ⟨fun c e => c (h.slots y hy x hx e), fun c e => c (by rw [e])⟩)
  · rw [key]
    exact and_congr_right (fun hy => ⟨fun c e => c (h.births y hy x hx e), fun c e => c (by rw [e])⟩)
theorem perm_filter_slot (h : PInv now M P Lss) (hx : x ∈ M) : M.Perm (x :: M.filter (fun y => y.slot != x.slot)) := by
  have h1 : ∀ (A : List Td), (∀ a ∈ A, ∀ b ∈ A, a.slot = b.slot → a = b) → A.Nodup → x ∈ A → A.Perm (x :: A.filter (fun y => y.slot != x.slot)) := by
    intro A
    induction A with
    | nil => intro _ _ hx; cases hx
    | cons a A ih =>
      intro hs hnd hx
      obtain ⟨n1, n2⟩ := List.nodup_cons.1 hnd
      by_cases e : a.slot = x.slot
      · have : a = x := hs a List.mem_cons_self x hx e
        subst this
        have hf : A.filter (fun y => y.slot != a.slot) = A := by
          rw [List.filter_eq_self]
          intro y hy
          have : y.slot ≠ a.slot := fun c => n1 (by rw [← hs y (List.mem_cons_of_mem _ hy) a List.mem_cons_self c]; exact hy)
          simpa using this
        rw [List.filter_cons, if_neg (by simp), hf]
      · rw [List.filter_cons, if_pos (by simpa using e)]
        have hx2 : x ∈ A := by
          rcases List.mem_cons.1 hx with c | c
          · exact absurd (by rw [c]) e
          · exact c
        exact ((ih (fun u hu v hv => hs u (List.mem_cons_of_mem _ hu) v (List.mem_cons_of_mem _ hv)) n2 hx2).cons a).trans (List.Perm.swap x a _)
  exact h1 M h.slots h.ndM hx
/-- An advance to tt under way: mv is still to be looked at, dj is due. -/
structure AdvSt (tt : Nat) (M : List Td) (mv : List Nat) (Mj dj : List Td) (Lssj : List (List (List Nat))) : Prop where
  inv : PInv tt Mj (fun s => s ∈ mv) Lssj
  perm : (Mj ++ dj).Perm M
  due : ∀ x ∈ dj, x.dl ≤ tt
  nd : mv.Nodup
  has : ∀ s ∈ mv, ∃ x ∈ Mj, x.slot = s
theorem AdvSt.stay (h : AdvSt tt M (s :: mv) Mj dj Lss) (hx : x ∈ Mj) (hs : x.slot = s) (hn : tt < x.dl) (hL : Lss[lvl tt x.dl]? = some Ls) (hK : Ls[bkt tt x.dl]? = some L) :
    AdvSt tt M mv Mj dj (Lss.set (lvl tt x.dl) (Ls.set (bkt tt x.dl) (L ++ [x.slot]))) := by
  obtain ⟨n1, n2⟩ := List.nodup_cons.1 h.nd
  refine ⟨h.inv.put (.inr ⟨hx, fun y hy e => h.inv.slots y hy x hx e, rfl⟩) hn (h.inv.rng x hx) (fun y hy e => by rw [hs]; exact List.mem_cons_self) hL hK (fun t => ?_), h.perm, h.due, n2, fun t ht => h.has t (List.mem_cons_of_mem _ ht)⟩
  rw [List.mem_cons, hs]
  constructor
  · intro ht; exact ⟨.inr ht, fun e => n1 (e ▸ ht)⟩
  · rintro ⟨e | e, c⟩
    · exact absurd e c
    · exact e
theorem AdvSt.go (h : AdvSt tt M (s :: mv) Mj dj Lss) (hs : x.slot = s) (hd : x.dl ≤ tt) (hp : Mj.Perm (x :: M')) : AdvSt tt M mv M' (dj ++ [x]) Lss := by
  obtain ⟨n1, n2⟩ := List.nodup_cons.1 h.nd
  obtain ⟨hx, w1, w2, w3, w4⟩ := h.inv.without hp
  refine ⟨h.inv.drop (x := x) (by rw [hs]; exact List.mem_cons_self) w1 w3 (fun t => ?_), ?_, fun y hy => ?_, n2, fun t ht => ?_⟩
  · rw [List.mem_cons, hs]
    constructor
    · intro ht; exact ⟨.inr ht, fun e => n1 (e ▸ ht)⟩
    · rintro ⟨e | e, c⟩
      · exact absurd e c
      · exact e
  · refine List.Perm.trans ?_ h.perm
    refine List.Perm.trans ?_ (hp.symm.append_right dj)
    rw [← List.append_assoc]
    exact List.perm_append_comm.trans (by simp)
  · rcases List.mem_append.1 hy with hy | hy
    · exact h.due y hy
    · rw [List.mem_singleton] at hy; rw [hy]; exact hd
  · obtain ⟨y, hy, e⟩ := h.has t (List.mem_cons_of_mem _ ht)
    exact ⟨y, (w1 y).2 ⟨hy, fun c => n1 (by rw [← hs, ← c, e]; exact ht)⟩, e⟩
theorem AdvSt.fin (h : AdvSt tt M [] Mj dj Lss) : PInv tt Mj (fun _ => False) Lss ∧ ∀ x ∈ Mj, tt < x.dl := by
  have h0 : (fun s : Nat => s ∈ ([] : List Nat)) = fun _ => False := by funext s; simp
  have := h.inv
  rw [h0] at this
  exact ⟨this, fun x hx => this.after x hx (fun c => c)⟩
theorem PInv.adv (h : PInv now M (fun _ => False) Lss) (hn : now < tt) (ht : tt < 18446744073709551616) (hL : Lss[lvl now tt]? = some Ls) :
    AdvSt tt M (movedK Lss (lvl now tt) ++ flatN Ls (bkt now tt + 1)) M [] (leftL Lss Ls (lvl now tt) (bkt now tt + 1)) := by
  obtain ⟨h1, h2⟩ := h.start hn ht hL
  exact ⟨h1, by simp, (fun _ h => by cases h), h.nodup_moved hL, h2⟩
/-- What is due first. -/
def bef (a b : Td) : Prop := a.dl < b.dl ∨ a.dl = b.dl ∧ a.birth < b.birth
def befB (a b : Td) : Bool := decide (a.dl < b.dl) || (decide (a.dl = b.dl) && decide (a.birth < b.birth))
theorem befB_iff {a b : Td} : befB a b = true ↔ bef a b := by unfold befB bef; simp
theorem bef_asymm {a b : Td} (h1 : bef a b) (h2 : bef b a) : False := by unfold bef at *; omega
theorem sorted_uniq : ∀ {A B : List Td}, A.Pairwise bef → B.Pairwise bef → A.Perm B → A = B := by
  intro A B h1 h2 h3
  exact h3.eq_of_pairwise (fun a b _ _ x y => (bef_asymm x y).elim) h1 h2
theorem takeWhile_filter : ∀ {A : List Td}, A.Pairwise bef → A.takeWhile (fun x => decide (x.dl ≤ tt)) = A.filter (fun x => decide (x.dl ≤ tt)) ∧ A.dropWhile (fun x => decide (x.dl ≤ tt)) = A.filter (fun x => !decide (x.dl ≤ tt))
  | [], _ => by simp
  | a :: A, h => by
    obtain ⟨h1, h2⟩ := List.pairwise_cons.1 h
    by_cases c : a.dl ≤ tt
    · obtain ⟨i1, i2⟩ := takeWhile_filter (A := A) h2
      simp [c, i1, i2]
    · have hz : ∀ y ∈ A, ¬ y.dl ≤ tt := fun y hy => by
        have := h1 y hy
        unfold bef at this
        omega
      have e1 : A.filter (fun x => decide (x.dl ≤ tt)) = [] := by
        rw [List.filter_eq_nil_iff]
        intro y hy
        simpa using hz y hy
      have e2 : A.filter (fun x => !decide (x.dl ≤ tt)) = A := by
        rw [List.filter_eq_self]
        intro y hy
        simpa using hz y hy
      simp only [List.takeWhile_cons, List.dropWhile_cons, List.filter_cons]
      simp [c, e1, e2]
theorem adv_end {A : List Td} (hs : A.Pairwise bef) (hp : (Mj ++ dj).Perm A) (h1 : ∀ x ∈ dj, x.dl ≤ tt) (h2 : ∀ x ∈ Mj, tt < x.dl) :
    dj.Perm (A.takeWhile (fun x => decide (x.dl ≤ tt))) ∧ Mj.Perm (A.dropWhile (fun x => decide (x.dl ≤ tt))) := by
  obtain ⟨e1, e2⟩ := takeWhile_filter (tt := tt) hs
  rw [e1, e2]
  have f1 := (hp.filter (fun x => decide (x.dl ≤ tt)))
  have f2 := (hp.filter (fun x => !decide (x.dl ≤ tt)))
  rw [List.filter_append] at f1 f2
  have a1 : Mj.filter (fun x => decide (x.dl ≤ tt)) = [] := by
    rw [List.filter_eq_nil_iff]
    intro y hy
    have := h2 y hy
    simp; omega
  have a2 : dj.filter (fun x => decide (x.dl ≤ tt)) = dj := by
    rw [List.filter_eq_self]
    intro y hy
    simpa using h1 y hy
  have a3 : Mj.filter (fun x => !decide (x.dl ≤ tt)) = Mj := by
    rw [List.filter_eq_self]
    intro y hy
    have := h2 y hy
    simp; omega
  have a4 : dj.filter (fun x => !decide (x.dl ≤ tt)) = [] := by
    rw [List.filter_eq_nil_iff]
    intro y hy
    simpa using h1 y hy
  rw [a1, a2] at f1
  rw [a3, a4, List.append_nil] at f2
  exact ⟨by simpa using f1, f2⟩
end
end Go.Proofs.YtlalpenfgkfkpaaDoor

/- cascade: Get. Conditions: the cascade lies in memory. -/
namespace Go.Proofs.YtlalpenfgkfkpaaDoor
open Go.RowKit
set_option maxRecDepth 100000
section
variable {w w' : World} {D : Nat → Prop} {p now : Nat} {ws : List Nat} {bm bb : Nat} {Ds : Nat → Nat → Prop} {Dm Db : DataW Unit} {M : List Td} {Lss : List (List (List Nat))}
abbrev zTd : Td := ⟨0, 0, 0⟩
/-- What Get says of a slot. -/
def getT (M : List Td) (s : Nat) : Td × Int := if s < 4194304 then (match M.find? (fun x => x.slot == s) with | some x => (x, 0) | none => (zTd, 9)) else (zTd, 2)
theorem getT_hit {s : Nat} {x : Td} (hs : s < 4194304) (hx : M.find? (fun x => x.slot == s) = some x) : getT M s = (x, 0) := by unfold getT; rw [if_pos hs, hx]
theorem getT_miss {s : Nat} (hs : s < 4194304) (hx : M.find? (fun x => x.slot == s) = none) : getT M s = (zTd, 9) := by unfold getT; rw [if_pos hs, hx]
theorem getT_arg {s : Nat} (hs : ¬ s < 4194304) : getT M s = (zTd, 2) := by unfold getT; rw [if_neg hs]
set_option maxHeartbeats 1000000 in
theorem cget_ok (h : CasMem w D p now ws bm bb Ds Dm Db M Lss) {s : Nat} (h32 : s ≤ 4294967295) :
    Calls Tryd.prog 19 #[lkP p, .int .u32 s] w fun e w' => e = .returned (.tuple #[tdV (getT M s).1, .int .i64 (getT M s).2]) ∧ Pure w w' := by
  have hal : Pure w (w.alloc (.cells #[.int .u32 0, .int .u64 0, .int .u64 0] 31)) := (Mod.refl _ w).alloc _
  have h4 := heap_new (w := w) (o := .cells #[.int .u32 0, .int .u64 0, .int .u64 0] 31 (0, 0)) rfl
  have HC := Lib.hid (h.pure hal)
  have HCk := Lib.hid (ccheck_any (h.pure hal).box h32)
  obtain ⟨c0, c9, c10, _, _⟩ := (h.pure hal).box.cells
  have HAL := Lib.hid hal
  clear hal
  by_cases hs : s < 4194304
  · have hse : slotE s = 0 := by unfold slotE; rw [if_pos hs]
    rw [hse] at HCk
    cases hf : M.find? (fun x => x.slot == s) with
    | some x =>
      have hxM := List.mem_of_find?_eq_some hf
      have hxs : x.slot = s := by have := List.find?_some hf; simpa using this
      subst hxs
      have hlk := HC.out.what.look hxM (by omega)
      rw [getT_hit hs hf]
      unfold tdV at hlk ⊢
      clear h hf hxM hse
      go_enter Tryd.func19, Tryd.ntmps19
      go_upto_region 1 with fail
      generalize w.alloc (.cells #[.int .u32 0, .int .u64 0, .int .u64 0] 31) = W1 at *
      obtain ⟨b4, hb4⟩ : ∃ b4, w.heap.size = b4 := ⟨_, rfl⟩
      rw [hb4] at h4 ⊢
      have hb4' : w.heap.size ≤ b4 := by omega
      clear hb4
      have h4_0 := cell_of_row _ _ 0 _ _ _ h4; have h4_1 := cell_of_row _ _ 1 _ _ _ h4; have h4_2 := cell_of_row _ _ 2 _ _ _ h4; have h4_f := (fun j => frozen_of_row _ _ j _ _ h4); have h4_l := lt_of_block h4; simp at h4_0 h4_1 h4_2; have H_h4 := Lib.hid h4; clear h4
      go_wp2_with (go_at_call 46; refine Calls.mono HCk.out ?_; rintro e w' ⟨rfl, rfl⟩)
      have hpp := HAL.out
      refine bodyPost_ret (v := .tuple #[.agg #[.int .u32 x.slot, .int .u64 x.dl, .int .u64 x.birth], .int .i64 0]) (by simp [results, Tryd.results19, go_sem, h4_0, h4_1, h4_2, h4_l]) rfl ⟨rfl, ?_⟩
      (repeat' (first | (with_reducible exact Mod.refl _ _) | (with_reducible refine Mod.alloc ?_ _) | (with_reducible refine Mod.drew ?_) | (with_reducible refine Mod.drewN ?_ _) | (with_reducible refine Mod.setCell ?_ ?_ _) | (refine Mod.then ?_ (by with_reducible assumption) ?_)))
      (all_goals (intros; first | (exfalso; assumption) | omega | (simp at *; done) | (simp at *; omega)))
    | none =>
      have hnx : ∀ x ∈ M, x.slot ≠ s := fun x hx e => by have := List.find?_eq_none.1 hf x hx; simp [e] at this
      have hlk := HC.out.what.look_no (s := s) (by omega) hnx
      rw [getT_miss hs hf]
      unfold tdV at hlk ⊢
      clear h hf hnx hse
      go_enter Tryd.func19, Tryd.ntmps19
      go_upto_region 1 with fail
      generalize w.alloc (.cells #[.int .u32 0, .int .u64 0, .int .u64 0] 31) = W1 at *
      obtain ⟨b4, hb4⟩ : ∃ b4, w.heap.size = b4 := ⟨_, rfl⟩
      rw [hb4] at h4 ⊢
      have hb4' : w.heap.size ≤ b4 := by omega
      clear hb4
      have h4_0 := cell_of_row _ _ 0 _ _ _ h4; have h4_1 := cell_of_row _ _ 1 _ _ _ h4; have h4_2 := cell_of_row _ _ 2 _ _ _ h4; have h4_f := (fun j => frozen_of_row _ _ j _ _ h4); have h4_l := lt_of_block h4; simp at h4_0 h4_1 h4_2; have H_h4 := Lib.hid h4; clear h4
      go_wp2_with (go_at_call 46; refine Calls.mono HCk.out ?_; rintro e w' ⟨rfl, rfl⟩)
      have hpp := HAL.out
      refine bodyPost_ret (v := .tuple #[.agg #[.int .u32 0, .int .u64 0, .int .u64 0], .int .i64 9]) (by simp [results, Tryd.results19, go_sem, h4_0, h4_1, h4_2, h4_l]) rfl ⟨rfl, ?_⟩
      (repeat' (first | (with_reducible exact Mod.refl _ _) | (with_reducible refine Mod.alloc ?_ _) | (with_reducible refine Mod.drew ?_) | (with_reducible refine Mod.drewN ?_ _) | (with_reducible refine Mod.setCell ?_ ?_ _) | (refine Mod.then ?_ (by with_reducible assumption) ?_)))
      (all_goals (intros; first | (exfalso; assumption) | omega | (simp at *; done) | (simp at *; omega)))
  · have hse : slotE s = 2 := by unfold slotE; rw [if_neg hs]
    rw [hse] at HCk
    rw [getT_arg hs]
    unfold tdV
    clear h hse
    go_enter Tryd.func19, Tryd.ntmps19
    go_upto_region 1 with fail
    generalize w.alloc (.cells #[.int .u32 0, .int .u64 0, .int .u64 0] 31) = W1 at *
    obtain ⟨b4, hb4⟩ : ∃ b4, w.heap.size = b4 := ⟨_, rfl⟩
    rw [hb4] at h4 ⊢
    have hb4' : w.heap.size ≤ b4 := by omega
    clear hb4
    have h4_0 := cell_of_row _ _ 0 _ _ _ h4; have h4_1 := cell_of_row _ _ 1 _ _ _ h4; have h4_2 := cell_of_row _ _ 2 _ _ _ h4; have h4_f := (fun j => frozen_of_row _ _ j _ _ h4); have h4_l := lt_of_block h4; simp at h4_0 h4_1 h4_2; have H_h4 := Lib.hid h4; clear h4
    go_wp2_with (go_at_call 46; refine Calls.mono HCk.out ?_; rintro e w' ⟨rfl, rfl⟩)
    have hpp := HAL.out
    refine bodyPost_ret (v := .tuple #[.agg #[.int .u32 0, .int .u64 0, .int .u64 0], .int .i64 2]) (by simp [results, Tryd.results19, go_sem, h4_0, h4_1, h4_2, h4_l]) rfl ⟨rfl, ?_⟩
    (repeat' (first | (with_reducible exact Mod.refl _ _) | (with_reducible refine Mod.alloc ?_ _) | (with_reducible refine Mod.drew ?_) | (with_reducible refine Mod.drewN ?_ _) | (with_reducible refine Mod.setCell ?_ ?_ _) | (refine Mod.then ?_ (by with_reducible assumption) ?_)))
    (all_goals (intros; first | (exfalso; assumption) | omega | (simp at *; done) | (simp at *; omega)))
end
end Go.Proofs.YtlalpenfgkfkpaaDoor

/- cascade: the list in order: put, find, take out, by plain lists. No condition. -/
namespace Go.Proofs.YtlalpenfgkfkpaaDoor
/-- x put into a list in order. -/
def putL (L : List Td) (x : Td) : List Td := L.takeWhile (fun y => befB y x) ++ x :: L.dropWhile (fun y => befB y x)
def findI (L : List Td) (s : Nat) : Nat := L.findIdx (fun y => y.slot == s)
def outI (L : List Td) (s : Nat) : List Td := L.eraseIdx (findI L s)
def bornB (L : List Td) (b : Nat) : Bool := L.any (fun y => y.birth == b)
def hasB (L : List Td) (s : Nat) : Bool := L.any (fun y => y.slot == s)
section
variable {now tt : Nat} {M M' : List Td} {P Q : Nat → Prop} {Lss Lss' : List (List (List Nat))} {L : List Td} {s : Nat} {x : Td}
theorem putL_perm : (putL L x).Perm (x :: L) := by
  unfold putL
  have h : L.takeWhile (fun y => befB y x) ++ L.dropWhile (fun y => befB y x) = L := List.takeWhile_append_dropWhile
  refine List.perm_middle.trans ?_
  rw [h]
theorem putL_mem {y : Td} : y ∈ putL L x ↔ y = x ∨ y ∈ L := by rw [putL_perm.mem_iff, List.mem_cons]
theorem putL_length : (putL L x).length = L.length + 1 := by rw [putL_perm.length_eq]; rfl
theorem bef_trans {a b c : Td} (h1 : bef a b) (h2 : bef b c) : bef a c := by unfold bef at *; omega
theorem bef_total {a b : Td} (h : a.birth ≠ b.birth) : bef a b ∨ bef b a := by unfold bef; omega
theorem putL_sorted (h : L.Pairwise bef) (hb : ∀ y ∈ L, y.birth ≠ x.birth) : (putL L x).Pairwise bef := by
  induction L with
  | nil => simp [putL]
  | cons a L ih =>
    obtain ⟨h1, h2⟩ := List.pairwise_cons.1 h
    have ih := ih h2 (fun y hy => hb y (List.mem_cons_of_mem _ hy))
    by_cases c : befB a x = true
    · have e : putL (a :: L) x = a :: putL L x := by unfold putL; simp [c]
      rw [e, List.pairwise_cons]
      refine ⟨fun y hy => ?_, ih⟩
      rcases putL_mem.1 hy with rfl | hy
      · exact befB_iff.1 c
      · exact h1 y hy
    · have e : putL (a :: L) x = x :: a :: L := by unfold putL; simp [c]
      have hxa : bef x a := by
        rcases bef_total (hb a List.mem_cons_self) with k | k
        · exact absurd (befB_iff.2 k) c
        · exact k
      rw [e, List.pairwise_cons]
      refine ⟨fun y hy => ?_, h⟩
      rcases List.mem_cons.1 hy with rfl | hy
      · exact hxa
      · exact bef_trans hxa (h1 y hy)
theorem hasB_iff : hasB L s = true ↔ ∃ y ∈ L, y.slot = s := by unfold hasB; simp
theorem bornB_iff : bornB L s = true ↔ ∃ y ∈ L, y.birth = s := by unfold bornB; simp
theorem findI_lt : findI L s < L.length ↔ hasB L s = true := by
  unfold findI
  rw [List.findIdx_lt_length, hasB_iff]
  simp
theorem perm_eraseIdx : ∀ {L : List Td} {i : Nat} {x : Td}, L[i]? = some x → L.Perm (x :: L.eraseIdx i)
  | [], _, _, h => by cases h
  | a :: L, 0, x, h => by injection h with h; subst h; exact List.Perm.refl _
  | a :: L, i + 1, x, h => ((perm_eraseIdx (L := L) (i := i) h).cons a).trans (List.Perm.swap x a _)
theorem findI_get (h : findI L s < L.length) : ∃ x, L[findI L s]? = some x ∧ x.slot = s ∧ L.find? (fun y => y.slot == s) = some x ∧ L.Perm (x :: outI L s) := by
  have h1 : (L[findI L s].slot == s) = true := List.findIdx_getElem (p := fun y : Td => y.slot == s) (xs := L) (w := h)
  refine ⟨_, List.getElem?_eq_getElem h, beq_iff_eq.1 h1, ?_, perm_eraseIdx (List.getElem?_eq_getElem h)⟩
  rw [List.find?_eq_some_iff_getElem]
  refine ⟨h1, findI L s, h, rfl, fun j hj => ?_⟩
  have := List.not_of_lt_findIdx (p := fun y : Td => y.slot == s) hj
  simpa using this
theorem find_none (h : hasB L s = false) : L.find? (fun y => y.slot == s) = none := by
  rw [List.find?_eq_none]
  intro y hy c
  have : hasB L s = true := hasB_iff.2 ⟨y, hy, by simpa using c⟩
  rw [h] at this
  cases this
theorem outI_sorted (h : L.Pairwise bef) : (outI L s).Pairwise bef := h.sublist (List.eraseIdx_sublist _ _)
theorem dropWhile_sorted (h : L.Pairwise bef) (p : Td → Bool) : (L.dropWhile p).Pairwise bef := h.sublist (List.dropWhile_sublist p)
theorem PInv.born (h : PInv now L P Lss) {x y : Td} (hx : x ∈ L) (hy : y ∈ L) (e : x.slot = y.slot) : x = y := h.slots x hx y hy e
/-- Schedule puts x in. -/
theorem PInv.sched (h : PInv now L (fun _ => False) Lss) (hn : now < x.dl) (hr : x.slot < 4194304 ∧ x.dl < 18446744073709551615 ∧ 0 < x.birth ∧ x.birth ≤ 18446744073709551615) (h1 : ∀ y ∈ L, y.slot ≠ x.slot) (h2 : ∀ y ∈ L, y.birth ≠ x.birth) {Ls : List (List Nat)} {B : List Nat}
    (hL : Lss[lvl now x.dl]? = some Ls) (hK : Ls[bkt now x.dl]? = some B) : PInv now (putL L x) (fun _ => False) (Lss.set (lvl now x.dl) (Ls.set (bkt now x.dl) (B ++ [x.slot]))) :=
  (h.put (M' := x :: L) (Q := fun _ => False) (.inl ⟨h1, h2, rfl⟩) hn hr (fun y hy e => absurd e (h1 y hy)) hL hK (fun s => ⟨fun c => c.elim, fun c => c.1.elim⟩)).perm putL_perm.symm
end
end Go.Proofs.YtlalpenfgkfkpaaDoor

/- cascade.Advance's closure, cmp.Compare, cmp.Or, tick.Due. Conditions: none, but for Or: two numbers lie in a block. -/
namespace Go.Proofs.YtlalpenfgkfkpaaDoor
open Go.RowKit Go.Sort
set_option maxRecDepth 100000
def cmpN (a b : Nat) : Int := if a < b then -1 else if b < a then 1 else 0
theorem cmpN_cases (a b : Nat) : (a < b ∧ cmpN a b = -1) ∨ (b < a ∧ cmpN a b = 1) ∨ (a = b ∧ cmpN a b = 0) := by
  unfold cmpN
  rcases Nat.lt_trichotomy a b with h | h | h
  · exact .inl ⟨h, by rw [if_pos h]⟩
  · exact .inr (.inr ⟨h, by rw [if_neg (by omega), if_neg (by omega)]⟩)
  · exact .inr (.inl ⟨h, by rw [if_neg (by omega), if_pos h]⟩)
theorem isNaN_T (a : Nat) (w : World) : Calls Tryd.prog 82 #[.int .u64 a] w fun e w' => e = .returned (.bool false) ∧ w = w' := by
  go_enter Tryd.func82, Tryd.ntmps82
  go_wp2
  go_ret
  exact ⟨by simp, rfl⟩
theorem isNaN_U (a : Nat) (w : World) : Calls Tryd.prog 83 #[.int .u64 a] w fun e w' => e = .returned (.bool false) ∧ w = w' := by
  go_enter Tryd.func83, Tryd.ntmps83
  go_wp2
  go_ret
  exact ⟨by simp, rfl⟩
theorem Compare_T (a b : Nat) (w : World) : Calls Tryd.prog 56 #[.int .u64 a, .int .u64 b] w fun e w' => e = .returned (.int .i64 (cmpN a b)) ∧ w = w' := by
  rcases cmpN_cases a b with ⟨h, e⟩ | ⟨h, e⟩ | ⟨h, e⟩
  · rw [e]
    have h1 : (a : Int) < (b : Int) := by omega
    clear e
    go_enter Tryd.func56, Tryd.ntmps56
    go_wp2_with (go_at_call 82; refine Calls.mono (isNaN_T _ _) ?_; rintro e w' ⟨rfl, rfl⟩)
    go_ret
    exact ⟨rfl, rfl⟩
  · rw [e]
    have h1 : ¬ (a : Int) < (b : Int) := by omega
    have h2 : (b : Int) < (a : Int) := by omega
    clear e
    go_enter Tryd.func56, Tryd.ntmps56
    go_wp2_with (go_at_call 82; refine Calls.mono (isNaN_T _ _) ?_; rintro e w' ⟨rfl, rfl⟩)
    go_ret
    exact ⟨rfl, rfl⟩
  · subst h
    rw [e]
    clear e
    go_enter Tryd.func56, Tryd.ntmps56
    go_wp2_with (go_at_call 82; refine Calls.mono (isNaN_T _ _) ?_; rintro e w' ⟨rfl, rfl⟩)
    go_ret
    exact ⟨rfl, rfl⟩
theorem Compare_U (a b : Nat) (w : World) : Calls Tryd.prog 57 #[.int .u64 a, .int .u64 b] w fun e w' => e = .returned (.int .i64 (cmpN a b)) ∧ w = w' := by
  rcases cmpN_cases a b with ⟨h, e⟩ | ⟨h, e⟩ | ⟨h, e⟩
  · rw [e]
    have h1 : (a : Int) < (b : Int) := by omega
    clear e
    go_enter Tryd.func57, Tryd.ntmps57
    go_wp2_with (go_at_call 83; refine Calls.mono (isNaN_U _ _) ?_; rintro e w' ⟨rfl, rfl⟩)
    go_ret
    exact ⟨rfl, rfl⟩
  · rw [e]
    have h1 : ¬ (a : Int) < (b : Int) := by omega
    have h2 : (b : Int) < (a : Int) := by omega
    clear e
    go_enter Tryd.func57, Tryd.ntmps57
    go_wp2_with (go_at_call 83; refine Calls.mono (isNaN_U _ _) ?_; rintro e w' ⟨rfl, rfl⟩)
    go_ret
    exact ⟨rfl, rfl⟩
  · subst h
    rw [e]
    clear e
    go_enter Tryd.func57, Tryd.ntmps57
    go_wp2_with (go_at_call 83; refine Calls.mono (isNaN_U _ _) ?_; rintro e w' ⟨rfl, rfl⟩)
    go_ret
    exact ⟨rfl, rfl⟩
/-- tick.Due. -/
theorem due_ok (dl tt : Nat) (hd : dl < 18446744073709551615) (w : World) : Calls Tryd.prog 51 #[.int .u64 dl, .int .u64 tt] w fun e w' => e = .returned (.bool (decide (dl ≤ tt))) ∧ w = w' := by
  have h1 : ((dl : Int) == 18446744073709551615) = false := by simp; omega
  have h2 : ((dl : Int) != 18446744073709551615) = true := by simp; omega
  by_cases h : dl ≤ tt
  · have h3 : (dl : Int) ≤ (tt : Int) := by omega
    rw [decide_eq_true h]
    go_enter Tryd.func51, Tryd.ntmps51
    go_wp2
    go_ret
    exact ⟨by simp [h], rfl⟩
  · have h3 : ¬ (dl : Int) ≤ (tt : Int) := by omega
    rw [decide_eq_false h]
    go_enter Tryd.func51, Tryd.ntmps51
    go_wp2
    go_ret
    exact ⟨by simp [h], rfl⟩
theorem Or_ok {w : World} {B : Nat} {x y : Int} (hx : w.cell? ⟨B, 0, none⟩ = some (.int .i64 x)) (hy : w.cell? ⟨B, 1, none⟩ = some (.int .i64 y)) :
    Calls Tryd.prog 55 #[.slice (some ⟨B, 0, none⟩) 2 2] w fun e w' => e = .returned (.int .i64 (if x = 0 then y else x)) ∧ w = w' := by
  by_cases e1 : x = 0
  · rw [if_pos e1]
    subst e1
    by_cases e2 : y = 0
    · subst e2
      go_enter Tryd.func55, Tryd.ntmps55
      go_upto_region 3 with fail
      refine wp_loop_rounds 3 ?_
      rw [rounds_succ]
      go_wp2
      rw [rounds_succ]
      go_wp2
      rw [rounds_succ]
      go_wp2
      go_ret
      exact ⟨rfl, rfl⟩
    · go_enter Tryd.func55, Tryd.ntmps55
      go_upto_region 3 with fail
      refine wp_loop_rounds 3 ?_
      rw [rounds_succ]
      go_wp2
      rw [rounds_succ]
      have h1 : (y == 0) = false := by simpa using e2
      have h2 : (y != 0) = true := by simpa using e2
      go_wp2
      go_ret
      exact ⟨rfl, rfl⟩
  · rw [if_neg e1]
    have h1 : (x == 0) = false := by simpa using e1
    have h2 : (x != 0) = true := by simpa using e1
    go_enter Tryd.func55, Tryd.ntmps55
    go_upto_region 3 with fail
    refine wp_loop_rounds 3 ?_
    rw [rounds_succ]
    go_wp2
    go_ret
    exact ⟨rfl, rfl⟩
theorem Or_is {w : World} {B : Nat} {x y c : Int} (hc : (if x = 0 then y else x) = c) (hx : w.cell? ⟨B, 0, none⟩ = some (.int .i64 x)) (hy : w.cell? ⟨B, 1, none⟩ = some (.int .i64 y)) :
    Calls Tryd.prog 55 #[.slice (some ⟨B, 0, none⟩) 2 2] w fun e w' => e = .returned (.int .i64 c) ∧ w = w' := by rw [← hc]; exact Or_ok hx hy
/-- The closure's answer. -/
def cfT (x y : Td) : Int := if cmpN x.dl y.dl = 0 then cmpN x.birth y.birth else cmpN x.dl y.dl
/-- What only grows and draws. -/
def Grw (w w' : World) : Prop := ∃ q os, w' = Go.Sort.grow (w.drewN q) os
theorem Grw.refl (w : World) : Grw w w := ⟨0, #[], by simp [World.drewN]⟩
theorem Grw.alloc {w w' : World} (h : Grw w w') (o : Obj) : Grw w (w'.alloc o) := by
  obtain ⟨q, os, rfl⟩ := h
  exact ⟨q, os ++ #[o], by rw [Go.Sort.alloc_eq_grow, Go.Sort.grow_grow]⟩
theorem Grw.drew {w w' : World} (h : Grw w w') : Grw w w'.drew := by
  obtain ⟨q, os, rfl⟩ := h
  exact ⟨q + 1, os, rfl⟩
theorem info_i : (Tryd.prog.info? 3).map (fun i => (i.zero, i.size, i.bytes)) = some (some (.int .i64 0), 1, 8) := by kernel_rfl
theorem keep_cells {W w' : World} {b2 b3 : Nat} {c2 c3 : Array Value} {T : TypeId} (h2 : W.heap[b2]? = some (.cells c2 T (0, 0))) (h3 : W.heap[b3]? = some (.cells c3 T (0, 0))) (hm : Pure W w') : w'.heap[b2]? = some (.cells c2 T (0, 0)) ∧ w'.heap[b3]? = some (.cells c3 T (0, 0)) := ⟨hm.heap (fun h => h) h2, hm.heap (fun h => h) h3⟩
theorem Grw.pure {w w' : World} (h : Grw w w') : Pure w w' := by
  obtain ⟨q, os, rfl⟩ := h
  refine ⟨rfl, rfl, rfl, by simp [Go.Sort.grow, World.drewN], fun k hk _ => ?_⟩
  show (w.heap ++ os)[k]? = w.heap[k]?
  rw [Array.getElem?_append_left hk]
set_option maxHeartbeats 1000000 in
theorem clos_ok (x y : Td) (w : World) : Calls Tryd.prog 54 #[tdV x, tdV y] w fun e w' => e = .returned (.int .i64 (cfT x y)) ∧ Grw w w' := by
  unfold tdV
  have h2 := heap_new (w := w) (o := .cells #[.int .u32 x.slot, .int .u64 x.dl, .int .u64 x.birth] 31 (0, 0)) rfl
  have g1 := (Grw.refl w).alloc (.cells #[.int .u32 x.slot, .int .u64 x.dl, .int .u64 x.birth] 31 (0, 0))
  have h3 := heap_new (w := w.alloc (.cells #[.int .u32 x.slot, .int .u64 x.dl, .int .u64 x.birth] 31 (0, 0))) (o := .cells #[.int .u32 y.slot, .int .u64 y.dl, .int .u64 y.birth] 31 (0, 0)) (n := w.heap.size + 1) (by simp)
  have h2 := ((Mod.refl (fun _ => False) _).alloc (.cells #[.int .u32 y.slot, .int .u64 y.dl, .int .u64 y.birth] 31 (0, 0))).heap (fun h => h) h2
  have g1 := g1.alloc (.cells #[.int .u32 y.slot, .int .u64 y.dl, .int .u64 y.birth] 31 (0, 0))
  obtain ⟨c, hc⟩ : ∃ c, cfT x y = c := ⟨_, rfl⟩
  have HC := Lib.hid hc
  rw [hc]
  clear hc
  obtain ⟨i0, hi, iz0, iz1, iz2⟩ := info_parts info_i
  go_enter Tryd.func54, Tryd.ntmps54
  go_upto_region 1 with fail
  generalize (w.alloc (.cells #[.int .u32 x.slot, .int .u64 x.dl, .int .u64 x.birth] 31)).alloc (.cells #[.int .u32 y.slot, .int .u64 y.dl, .int .u64 y.birth] 31) = W at *
  generalize w.heap.size = b2 at *
  have G1 := Lib.hid g1; have H2 := Lib.hid h2; have H3 := Lib.hid h3
  clear g1
  obtain ⟨c1, hc1⟩ : ∃ c1, cmpN x.dl y.dl = c1 := ⟨_, rfl⟩
  obtain ⟨c2, hc2⟩ : ∃ c2, cmpN x.birth y.birth = c2 := ⟨_, rfl⟩
  have k1 := Compare_T x.dl y.dl
  have k2 := Compare_U x.birth y.birth
  rw [hc1] at k1
  rw [hc2] at k2
  have hcc : (if c1 = 0 then c2 else c1) = c := by rw [← HC.out, ← hc1, ← hc2]; rfl
  have HCC := Lib.hid hcc; have K1 := Lib.hid k1; have K2 := Lib.hid k2
  clear hcc k1 k2 hc1 hc2
  have hK : ∀ W', Pure W W' → W'.cell? ⟨b2, 1, none⟩ = some (.int .u64 x.dl) ∧ W'.cell? ⟨b2 + 1, 1, none⟩ = some (.int .u64 y.dl) ∧ W'.cell? ⟨b2, 2, none⟩ = some (.int .u64 x.birth) ∧ W'.cell? ⟨b2 + 1, 2, none⟩ = some (.int .u64 y.birth) := fun W' hp => by
    obtain ⟨e2, e3⟩ := keep_cells H2.out H3.out hp
    refine ⟨?_, ?_, ?_, ?_⟩ <;> first | (rw [cell_of_row _ _ _ _ _ _ e2]; rfl) | (rw [cell_of_row _ _ _ _ _ _ e3]; rfl)
  have HK := Lib.hid hK
  have hK0 := hK W (Mod.refl _ _)
  obtain ⟨z1, z2, z3, z4⟩ := hK0
  clear hK h2 h3
  go_region_held3 (fun w' => w'.cell? ⟨b2, 1, none⟩ = some (.int .u64 x.dl) ∧ w'.cell? ⟨b2 + 1, 1, none⟩ = some (.int .u64 y.dl) ∧ w'.cell? ⟨b2, 2, none⟩ = some (.int .u64 x.birth) ∧ w'.cell? ⟨b2 + 1, 2, none⟩ = some (.int .u64 y.birth)) (first | go_keep | exact ⟨z1, z2, z3, z4⟩)
    (first
      | (go_at_call 56; refine Calls.mono (K1.out _) ?_; rintro e w' ⟨rfl, rfl⟩)
      | (go_at_call 57; refine Calls.mono (K2.out _) ?_; rintro e w' ⟨rfl, rfl⟩)
      | (go_at_call 55; refine Calls.mono (Or_is (x := c1) (y := c2) HCC.out ((cell_of_row _ _ 0 _ _ _ (heap_new rfl)).trans rfl) ((cell_of_row _ _ 1 _ _ _ (heap_new rfl)).trans rfl)) ?_; rintro e w' ⟨rfl, rfl⟩))
  go_wp2
  go_ret
  exact ⟨rfl, by first | exact (G1.out.alloc _).drew | exact G1.out.alloc _⟩
end Go.Proofs.YtlalpenfgkfkpaaDoor

/- The laying of a library function of this program. No condition. -/
namespace Go.Proofs.YtlalpenfgkfkpaaDoor
open Go.Shelf Go.Proofs
def sortTd_ren : Go.Shelf.Ren := ⟨fun | 6 => 53 | 15 => 81 | 14 => 80 | 28 => 105 | 29 => 78 | 20 => 97 | 21 => 98 | 22 => 99 | 23 => 100 | 24 => 101 | 25 => 102 | 26 => 103 | 27 => 104 | 46 => 116 | 47 => 117 | 48 => 118 | 49 => 119 | 50 => 120 | 57 => 124 | n => n, fun | 22 => 28 | 24 => 31 | 25 => 107 | 3 => 3 | 39 => 137 | 0 => 0 | 53 => 29 | 55 => 22 | 4 => 4 | 46 => 161 | 45 => 160 | 50 => 143 | 5 => 5 | 9 => 9 | 66 => 174 | 70 => 178 | 76 => 182 | 77 => 99 | n => n, fun | n => n⟩
theorem sortTd : Go.Proofs.SlLaysF0.n6 Tryd.prog sortTd_ren := {
  mixed := by kernel_rfl
  f6 := ⟨Tryd.f53.name, by decide, Tryd.func53.trans (congrArg some (by kernel_rfl))⟩
  f14 := ⟨Tryd.f80.name, by decide, Tryd.func80.trans (congrArg some (by kernel_rfl))⟩
  f15 := Tryd.func81.trans (congrArg some (by kernel_rfl))
  f20 := ⟨Tryd.f97.name, by decide, Tryd.func97.trans (congrArg some (by kernel_rfl))⟩
  f21 := ⟨Tryd.f98.name, by decide, Tryd.func98.trans (congrArg some (by kernel_rfl))⟩
  f22 := ⟨Tryd.f99.name, by decide, Tryd.func99.trans (congrArg some (by kernel_rfl))⟩
  f23 := ⟨Tryd.f100.name, by decide, Tryd.func100.trans (congrArg some (by kernel_rfl))⟩
  f24 := ⟨Tryd.f101.name, by decide, Tryd.func101.trans (congrArg some (by kernel_rfl))⟩
  f25 := ⟨Tryd.f102.name, by decide, Tryd.func102.trans (congrArg some (by kernel_rfl))⟩
  f26 := ⟨Tryd.f103.name, by decide, Tryd.func103.trans (congrArg some (by kernel_rfl))⟩
  f27 := ⟨Tryd.f104.name, by decide, Tryd.func104.trans (congrArg some (by kernel_rfl))⟩
  f28 := Tryd.func105.trans (congrArg some (by kernel_rfl))
  f29 := Tryd.func78.trans (congrArg some (by kernel_rfl))
  f46 := ⟨Tryd.f116.name, by decide, Tryd.func116.trans (congrArg some (by kernel_rfl))⟩
  f47 := Tryd.func117.trans (congrArg some (by kernel_rfl))
  f48 := Tryd.func118.trans (congrArg some (by kernel_rfl))
  f49 := ⟨Tryd.f119.name, by decide, Tryd.func119.trans (congrArg some (by kernel_rfl))⟩
  f50 := ⟨Tryd.f120.name, by decide, Tryd.func120.trans (congrArg some (by kernel_rfl))⟩
  f57 := ⟨Tryd.f124.name, by decide, Tryd.func124.trans (congrArg some (by kernel_rfl))⟩
  t0 := Tryd.underlying0
  a0 := Tryd.isAgg0
  z0 := Tryd.sizeOf0
  v0 := Tryd.zeroValue0
  t3 := Tryd.underlying3
  a3 := Tryd.isAgg3
  z3 := Tryd.sizeOf3
  v3 := Tryd.zeroValue3
  t4 := Tryd.underlying4
  a4 := Tryd.isAgg4
  z4 := Tryd.sizeOf4
  v4 := Tryd.zeroValue4
  t5 := Tryd.underlying5
  a5 := Tryd.isAgg5
  z5 := Tryd.sizeOf5
  v5 := Tryd.zeroValue5
  t9 := Tryd.underlying9
  a9 := Tryd.isAgg9
  z9 := Tryd.sizeOf9
  v9 := Tryd.zeroValue9
  t22 := Tryd.underlying28
  a22 := Tryd.isAgg28
  z22 := Tryd.sizeOf28
  v22 := Tryd.zeroValue28
  t25 := Tryd.underlying107
  a25 := Tryd.isAgg107
  z25 := Tryd.sizeOf107
  v25 := Tryd.zeroValue107
  t39 := Tryd.underlying137
  a39 := Tryd.isAgg137
  z39 := Tryd.sizeOf137
  v39 := Tryd.zeroValue137
  t45 := Tryd.underlying160
  a45 := Tryd.isAgg160
  z45 := Tryd.sizeOf160
  v45 := Tryd.zeroValue160
  t46 := Tryd.underlying161
  a46 := Tryd.isAgg161
  z46 := Tryd.sizeOf161
  v46 := Tryd.zeroValue161
  t50 := Tryd.underlying143
  a50 := Tryd.isAgg143
  z50 := Tryd.sizeOf143
  v50 := Tryd.zeroValue143
  t53 := Tryd.underlying29
  a53 := Tryd.isAgg29
  z53 := Tryd.sizeOf29
  v53 := Tryd.zeroValue29
  t55 := Tryd.underlying22
  a55 := Tryd.isAgg22
  z55 := Tryd.sizeOf22
  v55 := Tryd.zeroValue22
  t66 := Tryd.underlying174
  a66 := Tryd.isAgg174
  z66 := Tryd.sizeOf174
  v66 := Tryd.zeroValue174
  t70 := Tryd.underlying178
  a70 := Tryd.isAgg178
  z70 := Tryd.sizeOf178
  v70 := Tryd.zeroValue178
  t76 := Tryd.underlying182
  a76 := Tryd.isAgg182
  z76 := Tryd.sizeOf182
  v76 := Tryd.zeroValue182
  t77 := Tryd.underlying99
  a77 := Tryd.isAgg99
  z77 := Tryd.sizeOf99
  v77 := Tryd.zeroValue99 }
end Go.Proofs.YtlalpenfgkfkpaaDoor
