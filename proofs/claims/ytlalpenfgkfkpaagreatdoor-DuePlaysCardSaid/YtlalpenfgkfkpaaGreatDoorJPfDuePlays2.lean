/- Lemmas and contracts of functions, strung together out of 10 texts. No condition. -/
import Derived.Test.YtlalpenfgkfkpaaGreatDoorJPfDuePlays1
import Derived.Shelf.Spec.TrailingZeros
import Derived.Test.YtlalpenfgkfkpaaGreatDoorRows
import Derived.Lib.LaidU8
import Derived.LaidHandle
import Derived.LaidMore
import Derived.Lay
import Derived.Stop.Joined
import Derived.Test.YtlalpenfgkfkpaaGreatDoorProg
import Derived.ProofKit
import Derived.OpenShut
import Derived.Below
import Derived.ChangeSame
import Derived.Carry
import Derived.ChangeSlices
import Derived.Deep.Strs
import Derived.Lib.SmallJoins
import Derived.ChangeArms
import Derived.Maps.OwnOps
import Derived.Maps.OwnSet
import Derived.Maps.Views
import Derived.Handy
import Derived.RangeFuncNested
import Derived.RangeFuncBound
import Derived.RangeFuncCalls
import Derived.RangeFuncLeaves
import Derived.Shelf.Abstract
import Derived.Shelf.RegionOpen
import Derived.OwnWalkIn
import Derived.TacticsInMore
import Derived.LoopNIn
import Derived.LoopIn
/- bits.TrailingZeros64; wheel: marks.next from 0. Conditions: the table and the words lie in memory. -/
namespace Go.Proofs.YtlalpenfgkfkpaaGreatDoor
open Go.RowKit
set_option maxRecDepth 100000
/-- The table of math/bits lies in its variable. -/
def TabW (w : World) : Prop := TabAt 0 Lib.deBruijn64tab w
theorem TabW.mod {S : Nat → Prop} {w w' : World} (h : TabW w) (hm : Mod S w w') (h0 : ¬ S 0) : TabW w' := fun j hj => hm.cell h0 (h j hj)
theorem TabW.pure {w w' : World} (h : TabW w) (hm : Pure w w') : TabW w' := h.mod hm (fun h => h)
theorem TabW.lt {w : World} (h : TabW w) : 0 < w.heap.size := World.block_lt_of_cell? w _ (h 0 (by decide))
theorem tz_core (x k idx : Nat) (w : World) (hx0 : ((x : Int) == 0) = false)
    (key : IntKind.u64.wrap (bits BinOp.and IntKind.u64 (x : Int) (IntKind.u64.wrap (-(x : Int))) * 285870213051353865) / 288230376151711744 = (idx : Int))
    (hi : idx < 64) (hk : k < 64) (hcell : w.cell? ⟨0, idx, none⟩ = some (.int .u8 k)) : Calls Tryz.prog 98 #[.int .u64 x] w fun e w' => e = .returned (.int .i64 k) ∧ w = w' := by
  go_enter Tryz.func98, Tryz.ntmps98
  go_wp2_with (simp only [key])
  go_ret
  exact ⟨rfl, rfl⟩
theorem tz64_ok (x : Nat) (hx : x < 18446744073709551616) (h0 : x ≠ 0) (w : World) (hT : TabW w) : Calls Tryz.prog 98 #[.int .u64 x] w fun e w' => e = .returned (.int .i64 (Lib.ctz 64 x)) ∧ w = w' := by
  obtain ⟨hlow, hk⟩ := Lib.lowest_bit 64 x h0 hx
  obtain ⟨hi, htab⟩ := Lib.deBruijn64_at _ hk
  have hcell := hT _ hi
  rw [htab] at hcell
  exact tz_core x _ _ w (by simp; omega) (tz64_key x _ hx h0 hlow) hi hk hcell
theorem ctz_bit {x : Nat} (hx : x < 18446744073709551616) (h0 : x ≠ 0) : Lib.ctz 64 x < 64 ∧ x.testBit (Lib.ctz 64 x) = true ∧ ∀ j, j < Lib.ctz 64 x → x.testBit j = false := by
  obtain ⟨m, hm, hk⟩ := Lib.ctzFrom_spec 64 x (by omega) hx
  have e : Lib.ctz 64 x = Lib.ctzFrom 64 x := by unfold Lib.ctz; rw [if_neg h0]
  rw [e]
  generalize Lib.ctzFrom 64 x = c at *
  refine ⟨hk, ?_, fun j hj => ?_⟩
  · rw [hm, Nat.testBit_two_pow_mul]
    simp
  · rw [hm, Nat.testBit_two_pow_mul]
    simp; omega
def nextV (f : Nat → Bool) : Value := match firstB f 256 with
  | some b => .tuple #[.int .i64 (b : Nat), .bool true]
  | none => .tuple #[.int .i64 0, .bool false]
section
variable {w w' : World} {p q : Nat} {f : Nat → Bool} {many : Int}
set_option maxHeartbeats 1000000 in
theorem mnext_ok (h : w.heap[p]? = some (.cells (whC q f many) 112 (0, 0))) (hT : TabW w) :
    Calls Tryz.prog 82 #[mkP p, .int .i64 0] w fun e w' => e = .returned (nextV f) ∧ w = w' := by
  have HH := Lib.hid h; have HT := Lib.hid hT
  clear h hT
  go_enter Tryz.func82, Tryz.ntmps82
  go_upto_region 3 with fail
  go_loop [6, 7] (fun v6 v7 => ∃ k : Nat, v6 = .int .u64 18446744073709551615 ∧ v7 = .int .i64 k ∧ k ≤ 4 ∧ ∀ i, i < k → wd64 f i = 0) (fun _ v7 => 4 - (intOf v7).toNat)
  case atStart => exact ⟨0, rfl, rfl, by omega, fun i hi => by omega⟩
  case round =>
    obtain ⟨k, rfl, rfl, hk, hz⟩ := hrel
    have HZ := Lib.hid hz
    clear hz
    by_cases hlt : k < 4
    · have hlt' : (k : Int) < 4 := by omega
      have k0 : (0 : Int) ≤ (k : Int) := by omega
      have wi : IntKind.i64.wrap ((k : Int) + 1) = (k : Int) + 1 := IntWalk.i64_in _ (by omega)
      have dk : decide (k < 4) = true := decide_eq_true hlt
      have c0 : w.cell? ⟨p, 1 + k, none⟩ = some (.int .u64 (wd64 f k : Nat)) := by rw [cell_of_row w p _ _ _ (0, 0) HH.out]; exact whC_get hlt
      have hwl := wd64_lt f k
      have hand := bits_and64 (wd64 f k) 18446744073709551615 hwl (by decide)
      have hand2 : wd64 f k &&& 18446744073709551615 = wd64 f k := by
        have : (18446744073709551615 : Nat) = 2 ^ 64 - 1 := rfl
        rw [this, Nat.and_two_pow_sub_one_eq_mod]
        exact Nat.mod_eq_of_lt hwl
      rw [hand2] at hand
      obtain ⟨x, hx⟩ : ∃ x, wd64 f k = x := ⟨_, rfl⟩
      rw [hx] at c0 hwl hand
      have HX := Lib.hid hx
      rw [show ((18446744073709551615 : Nat) : Int) = 18446744073709551615 by decide] at hand
      clear hx hand2
      by_cases hx0 : x = 0
      · have HX0 := Lib.hid hx0
        have e0 : ((x : Int) == 0) = true := by simp; omega
        have e1 : ((x : Int) != 0) = false := by simp; omega
        clear hx0
        go_wp2
        go_round
        case rel => exact ⟨k + 1, rfl, by go_num, hlt, fun i hi => by
          by_cases e : i = k
          · subst e; exact HX.out.trans HX0.out
          · exact HZ.out i (by omega)⟩
        case measure => simp [intOf]; omega
      · have HZ4 := Lib.hid (tz64_ok x hwl hx0 w HT.out)
        obtain ⟨hc1, hc2, hc3⟩ := ctz_bit hwl hx0
        have hfb : firstB f 256 = some (64 * k + Lib.ctz 64 x) := by
          refine firstB_some (by omega) ?_ (fun j hj => ?_)
          · rw [← HX.out, wd64_bit] at hc2
            simp at hc2
            rw [← HX.out]
            exact hc2.2
          · by_cases c : j / 64 = k
            · have := hc3 (j % 64) (by omega)
              rw [← HX.out, wd64_bit] at this
              simp at this
              have h2 := this (Nat.mod_lt _ (by decide))
              rw [show 64 * k + j % 64 = j by omega] at h2
              exact h2
            · have := wd_zero.1 (HZ.out (j / 64) (by omega)) (j % 64) (Nat.mod_lt _ (by decide))
              rw [show 64 * (j / 64) + j % 64 = j by omega] at this
              exact this
        have HFB := Lib.hid hfb
        have e0 : ((x : Int) == 0) = false := by simp; omega
        have e1 : ((x : Int) != 0) = true := by simp; omega
        clear hfb hc2 hc3
        generalize Lib.ctz 64 x = t at *
        have w64 : IntKind.i64.wrap (64 * (k : Int)) = 64 * (k : Int) := IntWalk.i64_in _ (by omega)
        have w65 : IntKind.i64.wrap (64 * (k : Int) + (t : Int)) = 64 * (k : Int) + (t : Int) := IntWalk.i64_in _ (by omega)
        go_wp2_with (go_at_call 98; refine Calls.mono HZ4.out ?_; rintro e w' ⟨rfl, rfl⟩)
        go_ret2
        exact ⟨by unfold nextV; rw [HFB.out]; rfl, rfl⟩
    · have hk4 : k = 4 := by omega
      subst hk4
      have hfb : firstB f 256 = none := firstB_none (fun j hj => by
        have := wd_zero.1 (HZ.out (j / 64) (by omega)) (j % 64) (Nat.mod_lt _ (by decide))
        rw [show 64 * (j / 64) + j % 64 = j by omega] at this
        exact this)
      have HFB := Lib.hid hfb
      clear hfb
      go_wp2
      go_ret2
      exact ⟨by unfold nextV; rw [HFB.out]; rfl, rfl⟩
end
end Go.Proofs.YtlalpenfgkfkpaaGreatDoor

/- What a row's condition on the listed table gives: the table of math/bits lies in block 0. -/
namespace Go.Proofs.YtlalpenfgkfkpaaGreatDoor
open Go.ChangeShapes Go.WideShapes Go.ChangeAt Go.RowKit
set_option maxRecDepth 100000
abbrev tabLaid : List (String × DataW Unit) := Rows.duePlaysRow.laid
theorem tab_data : (Rows.laid_math_bits_deBruijn64tab : DataW Unit) = Lib.tabData .u8 (Lib.deBruijn64tab.map fun n : Nat => (n : Int)) := by kernel_rfl
theorem tabW_of_laid {W : World} (h : laidMetH Tryz.prog tabLaid W) : TabW W := by
  rw [MakeChecks.laidMetH_plain _ _ _ (by kernel_rfl)] at h
  obtain ⟨ps, ⟨g, t, cs, fuel, p, q, hg, ht, hv, hd, _, _⟩, _, _⟩ := h
  have e0 : some g = some 0 := hg.symm.trans (by kernel_rfl)
  injection e0 with e0
  subst e0
  have hd' : DataW.trod (fun _ => ()) Tryz.prog W 0 (fun _ => true) false fuel t cs.toList = some (Lib.tabData .u8 (Lib.deBruijn64tab.map fun n : Nat => (n : Int)), p) := by rw [← tab_data]; exact hd
  have hc := Lib.cells_of_tab (n := 64) (e := 5) (by rw [← Option.some.inj ht]; kernel_rfl) Tryz.underlying5 (by kernel_rfl) (by rw [← Option.some.inj ht]; kernel_rfl) hd'
  intro j hj
  have hvc := World.var?_cell hg hv j
  rw [hvc]
  have : cs[j]? = cs.toList[j]? := by simp
  rw [this, hc]
  simp only [List.getElem?_map, List.map_map]
  rw [List.getElem?_eq_getElem hj]
  simp [List.getD, List.getElem?_eq_getElem hj]
end Go.Proofs.YtlalpenfgkfkpaaGreatDoor

/- A row's last step behind a call that turned nothing that was there. -/
namespace Go.Proofs.YtlalpenfgkfkpaaGreatDoor
open Go.ChangeShapes Go.WideShapes Go.ChangeAt Go.RowKit

/-- A row's last step behind a call that turned nothing that was there. -/
theorem post_of_pure {H : Type} {enc : TypeId × Value → H} {P : Program} {f : Func} {s : ChangeSpec} {apart fresh handsOn again : Bool} {W W' : World} {args : Array Value} {v : Value} {ds gs : List (DataW H)} {before pa pv : List MemPlace}
    (hW : DataW.Whole enc P f.params.toList s.vars apart W args.toList ds gs before)
    (hres : ∀ (b : Nat) (sp : Nat → Bool) (hd : Bool), DataW.TrodAll enc P W' b sp hd f.resultTypes.toList (v.resultList f.resultTypes.size) (s.fn H (ds ++ gs)).results [])
    (hargs : ∀ sp : Nat → Bool, (∀ p ∈ before, sp p.block = true) → DataW.TrodAll enc P W' 0 sp true f.params.toList args.toList (s.fn H (ds ++ gs)).args pa)
    (hvars : ∀ sp : Nat → Bool, (∀ p ∈ before, sp p.block = true) → DataW.TrodVars enc P W' sp s.vars (s.fn H (ds ++ gs)).vars pv)
    (hps : before = pa ++ pv) (hm : Pure W W')
    (hok : ∀ (j : Nat) (t : TypeId) (r : Value), f.resultTypes[j]? = some t → (v.resultList f.resultTypes.size)[j]? = some r → Value.okWide P W' .any 0 t r) :
    s.post enc P f apart fresh handsOn again W args v W' := by
  have hb : Below W.heap.size W W' := hm.below (fun _ _ h => h)
  subst hps
  have hlt : ∀ p ∈ pa ++ pv, p.block < W.heap.size := fun p hp => hW.lt p hp
  have hold : ∀ p ∈ pa ++ pv, (fun b => decide (b < W.heap.size)) p.block = true := fun p hp => decide_eq_true (hlt p hp)
  refine ⟨ds, gs, pa ++ pv, [], pa, pv, hW, hres _ _ _, hargs _ hold, hvars _ hold, World.keptBut_mono (fun p hp => ⟨hp, Or.inr (List.mem_append.1 hp)⟩) (hb.frame (· ∈ pa ++ pv)), fun _ => ?_⟩
  obtain ⟨_, _, _, _, _, hz, hn⟩ := hW
  refine ⟨hok, _, _, ([] ++ pa) ++ pv, ⟨[] ++ pa, pv, trodAll_append (hargs _ (fun _ _ => rfl)) (hres _ _ _), hvars _ (fun _ _ => rfl), rfl, fun b off hp => ?_, fun ha => by simpa using hn ha⟩, fun p hp _ => by simpa using hp⟩
  have hin : MemPlace.cell b off ∈ pa ++ pv := by simpa using hp
  rw [hb.frozen (hlt _ hin)]
  exact hz b off hin
theorem ownA : ownKnob Tryz.prog.godebug = none := by kernel_rfl
end Go.Proofs.YtlalpenfgkfkpaaGreatDoor

/- A row's last step for a law: it answers true and has turned nothing that was there; slices of integers that came in, as cells that are read. -/
namespace Go.Proofs.YtlalpenfgkfkpaaGreatDoor
open Go.ChangeShapes Go.WideShapes Go.ChangeAt Go.RowKit

theorem laidA : laidOutB Tryz.prog = true := by kernel_rfl
theorem trodAll_stays {H : Type} {enc : TypeId × Value → H} {P : Program} {W W' : World} {sp : Nat → Bool} (hl : laidOutB P = true) : ∀ (ts : List TypeId) (vs : List Value) (ds : List (DataW H)) (ps : List MemPlace),
    (ts.all fun t => P.readableRec t && decide (t < P.types.size)) = true → DataW.TrodAll enc P W 0 (fun _ => true) true ts vs ds ps → (∀ x ∈ ps, W.sameAt W' x) → (∀ x ∈ ps, sp x.block = true) → DataW.TrodAll enc P W' 0 sp true ts vs ds ps
  | [], [], [], ps, _, h, _, _ => h
  | t :: ts, v :: vs, d :: ds, ps, ht, h, hs, hp => by
    obtain ⟨p, q, h1, h2, rfl⟩ := h
    simp only [List.all_cons, Bool.and_eq_true, decide_eq_true_eq] at ht
    exact ⟨p, q, WideElems.Trod_stays hl ht.1.1 ht.1.2 h1 (fun x hx => hs x (List.mem_append_left _ hx)) (fun x hx => hp x (List.mem_append_left _ hx)),
      trodAll_stays hl ts vs ds q ht.2 h2 (fun x hx => hs x (List.mem_append_right _ hx)) (fun x hx => hp x (List.mem_append_right _ hx)), rfl⟩
  | [], _ :: _, _, _, _, h, _, _ => h.elim
  | [], [], _ :: _, _, _, h, _, _ => h.elim
  | _ :: _, [], _, _, _, h, _, _ => h.elim
  | _ :: _, _ :: _, [], _, _, h, _, _ => h.elim

/-- THE LAST STEP: the law has answered true, nothing that was there has turned. -/
theorem post_of_law {H : Type} {enc : TypeId × Value → H} {P : Program} {f : Func} {s : ChangeSpec} {fresh handsOn again : Bool} {W W' : World} {args : Array Value} {ds gs : List (DataW H)} {before : List MemPlace} {tb : TypeId}
    (hl : laidOutB P = true) (hts : (f.params.toList.all fun t => P.readableRec t && decide (t < P.types.size)) = true) (hv : s.vars = []) (hrt : f.resultTypes = #[tb]) (htb : P.underlying tb = some .bool)
    (hW : DataW.Whole enc P f.params.toList s.vars false W args.toList ds gs before) (hspec : s.fn H (ds ++ []) = { results := [.lit (.bool true)], args := ds }) (hm : Pure W W') :
    s.post enc P f false fresh handsOn again W args (.bool true) W' := by
  have hW' := hW
  obtain ⟨p, q, hA, hV, rfl, hfz, hnd⟩ := hW
  have hb : Below W.heap.size W W' := hm.below (fun _ _ h => h)
  rw [hv] at hV
  obtain ⟨rfl, rfl⟩ := trodVars_none hV
  have hlt : ∀ x ∈ p, x.block < W.heap.size := fun x hx => hW'.lt x (List.mem_append_left _ hx)
  refine post_of_pure (pa := p) (pv := []) hW' ?_ ?_ ?_ rfl hm ?_
  · intro b sp hd
    rw [hspec, hrt]
    exact trodAll_cons_mk (shut_bool htb _) trodAll_mk0
  · intro sp hsp
    rw [hspec]
    exact trodAll_stays hl _ _ _ _ hts hA (fun x hx => hb.same (hlt x hx)) (fun x hx => hsp x (List.mem_append_left _ hx))
  · intro sp _
    rw [hv, hspec]
    rfl
  · exact ok_one hrt rfl (okWide_bool_mk htb _)

/-- A slice of integers that came in. -/
theorem open_ints_read {H : Type} {enc : TypeId × Value → H} {P : Program} {W : World} {base : Nat} {sp : Nat → Bool} {held : Bool} {r : Reach} {b0 : Nat} {t e : TypeId} {k : IntKind} {v : Value} {d : DataW H} {p : List MemPlace}
    (ht : P.underlying t = some (.slice e)) (he : P.underlying e = some (.int k)) (hc : P.cellsOf e = 1) (hv : Value.okWide P W r b0 t v) (h : DataW.Trod enc P W base sp held t v d p) :
    ∃ (a : Option Addr) (n c : Nat) (zs : List Int), v = .slice a n c ∧ n ≤ c ∧ c ≤ maxLen ∧ zs.length = n ∧ ReadAt W (.slice a n c) 1 (zs.map (Value.int k)) ∧ (∀ z ∈ zs, (Lit.int k z).wf = true) := by
  obtain ⟨a0, n0, c0, rfl⟩ := okWide_slice ht hv
  obtain ⟨fuel, hf⟩ := h
  rcases open_ints ht he hc hf with ⟨hcs, _⟩ | ⟨a, n, c, zs, hcs, _, hl, hm, hz, _, hcell, hw⟩
  · simp [Value.cells] at hcs
    obtain ⟨rfl, rfl, rfl⟩ := hcs
    exact ⟨none, 0, 0, [], rfl, Nat.le_refl _, Nat.zero_le _, rfl, ReadAt.nil _ _, by simp⟩
  · simp [Value.cells] at hcs
    obtain ⟨rfl, rfl, rfl⟩ := hcs
    have hlz : n0 ≤ zs.length := by rw [hz]; split <;> omega
    refine ⟨some a, n0, c0, zs.take n0, rfl, hl, hm, by rw [List.length_take]; omega, ⟨some a, n0, c0, rfl, by simp; omega, ?_, (fun h => by cases h), ?_⟩, fun z hz => hw z (List.mem_of_mem_take hz)⟩
    · intro u hu
      obtain ⟨_, _, rfl⟩ := List.mem_map.1 hu
      rfl
    · intro ad ha j u hu
      cases ha
      rw [List.getElem?_map] at hu
      cases e : (zs.take n0)[j]? with
      | none => rw [e] at hu; cases hu
      | some z =>
        rw [e] at hu
        cases hu
        rw [List.getElem?_take] at e
        split at e
        · rename_i hj
          rw [hcell j (by omega)]
          simp [List.getD, e]
        · cases e
/-- .. of a kind without a sign, as natural numbers. -/
theorem open_u32s {H : Type} {enc : TypeId × Value → H} {P : Program} {W : World} {base : Nat} {sp : Nat → Bool} {held : Bool} {r : Reach} {b0 : Nat} {t e : TypeId} {v : Value} {d : DataW H} {p : List MemPlace}
    (ht : P.underlying t = some (.slice e)) (he : P.underlying e = some (.int .u32)) (hc : P.cellsOf e = 1) (hv : Value.okWide P W r b0 t v) (h : DataW.Trod enc P W base sp held t v d p) :
    ∃ (a : Option Addr) (c : Nat) (gs : List Nat), v = .slice a gs.length c ∧ gs.length ≤ 9223372036854775807 ∧ ReadAt W (.slice a gs.length c) 1 (gs.map (fun x : Nat => (.int .u32 x : Value))) ∧ (∀ z ∈ gs, z ≤ 4294967295) := by
  obtain ⟨a, n, c, zs, rfl, h1, h2, rfl, h3, h4⟩ := open_ints_read ht he hc hv h
  have hw : ∀ z ∈ zs, 0 ≤ z ∧ z ≤ 4294967295 := fun z hz => by
    have := h4 z hz
    simp [Lit.wf, IntKind.min, IntKind.max, IntKind.signed, IntKind.bits] at this
    omega
  have e : (zs.map Int.toNat).map (fun x : Nat => (.int .u32 x : Value)) = zs.map (Value.int .u32) := by
    rw [List.map_map]
    refine List.map_congr_left (fun z hz => ?_)
    have := hw z hz
    simp only [Function.comp]
    rw [Int.toNat_of_nonneg this.1]
  have hlen : (zs.map Int.toNat).length = zs.length := by simp
  refine ⟨a, c, zs.map Int.toNat, by rw [hlen], by rw [hlen]; unfold maxLen at h2; omega, by rw [e, hlen]; exact h3, fun z hz => ?_⟩
  obtain ⟨y, hy, rfl⟩ := List.mem_map.1 hz
  have := hw y hy
  omega
end Go.Proofs.YtlalpenfgkfkpaaGreatDoor

/- Slices of unsigned integers that came in, as natural numbers that are read. -/
namespace Go.Proofs.YtlalpenfgkfkpaaGreatDoor
open Go.ChangeShapes Go.WideShapes Go.ChangeAt Go.RowKit

theorem open_nats {H : Type} {enc : TypeId × Value → H} {P : Program} {W : World} {base : Nat} {sp : Nat → Bool} {held : Bool} {r : Reach} {b0 : Nat} {t e : TypeId} {k : IntKind} {v : Value} {d : DataW H} {p : List MemPlace} (M : Nat)
    (hk : ∀ z : Int, (Lit.int k z).wf = true → 0 ≤ z ∧ z < M)
    (ht : P.underlying t = some (.slice e)) (he : P.underlying e = some (.int k)) (hc : P.cellsOf e = 1) (hv : Value.okWide P W r b0 t v) (h : DataW.Trod enc P W base sp held t v d p) :
    ∃ (a : Option Addr) (c : Nat) (gs : List Nat), v = .slice a gs.length c ∧ gs.length ≤ 9223372036854775807 ∧ ReadAt W (.slice a gs.length c) 1 (gs.map (fun x : Nat => (.int k x : Value))) ∧ (∀ z ∈ gs, z < M) := by
  obtain ⟨a, n, c, zs, rfl, h1, h2, rfl, h3, h4⟩ := open_ints_read ht he hc hv h
  have hw : ∀ z ∈ zs, 0 ≤ z ∧ z < M := fun z hz => hk z (h4 z hz)
  have e : (zs.map Int.toNat).map (fun x : Nat => (.int k x : Value)) = zs.map (Value.int k) := by
    rw [List.map_map]
    refine List.map_congr_left (fun z hz => ?_)
    have := hw z hz
    simp only [Function.comp]
    rw [Int.toNat_of_nonneg this.1]
  have hlen : (zs.map Int.toNat).length = zs.length := by simp
  refine ⟨a, c, zs.map Int.toNat, by rw [hlen], by rw [hlen]; unfold maxLen at h2; omega, by rw [e, hlen]; exact h3, fun z hz => ?_⟩
  obtain ⟨y, hy, rfl⟩ := List.mem_map.1 hz
  have := hw y hy
  omega
theorem wf_u64 (z : Int) (h : (Lit.int .u64 z).wf = true) : 0 ≤ z ∧ z < (18446744073709551616 : Nat) := by
  simp [Lit.wf, IntKind.min, IntKind.max, IntKind.signed, IntKind.bits] at h
  omega
theorem wf_u8 (z : Int) (h : (Lit.int .u8 z).wf = true) : 0 ≤ z ∧ z < (256 : Nat) := by
  simp [Lit.wf, IntKind.min, IntKind.max, IntKind.signed, IntKind.bits] at h
  omega
end Go.Proofs.YtlalpenfgkfkpaaGreatDoor

/- What is timed, that came in. -/
namespace Go.Proofs.YtlalpenfgkfkpaaGreatDoor
open Go.ChangeShapes Go.WideShapes Go.ChangeAt Go.RowKit Go.Deep Go.Joins
set_option maxRecDepth 100000
theorem wf_u32 (z : Int) (h : (Lit.int .u32 z).wf = true) : 0 ≤ z ∧ z < (4294967296 : Nat) := by
  simp [Lit.wf, IntKind.min, IntKind.max, IntKind.signed, IntKind.bits] at h
  omega
theorem td_of {H : Type} {enc : TypeId × Value → H} {W : World} {base : Nat} {sp : Nat → Bool} {held : Bool} {r : Reach} {b0 : Nat} {v : Value} {d : DataW H} {p : List MemPlace} (hv : Value.okWide Tryz.prog W r b0 45 v) (h : DataW.Trod enc Tryz.prog W base sp held 45 v d p) :
    ∃ s dl b : Nat, v = .agg #[.int .u32 s, .int .u64 dl, .int .u64 b] ∧ s < 4294967296 ∧ dl < 18446744073709551616 ∧ b < 18446744073709551616 := by
  obtain ⟨cs, rfl, hsz⟩ := okWide_struct Tryz.underlying45 hv
  obtain ⟨fuel, hf⟩ := h
  have e3 : (Tryz.prog).cellsOf 45 = 3 := by kernel_rfl
  rw [e3] at hsz
  obtain ⟨c0, c1, c2, rfl⟩ := array3 hsz
  obtain ⟨y0, y1, y2, n, _, _, t0, t1, t2⟩ := trod_struct3 Tryz.underlying45 hf
  have k0 : (Tryz.prog).cellsOf 33 = 1 := by kernel_rfl
  have k1 : (Tryz.prog).cellsOf 23 = 1 := by kernel_rfl
  have k2 : (Tryz.prog).cellsOf 22 = 1 := by kernel_rfl
  simp only [k0, k1, k2, Value.cells, List.drop, List.take] at t0 t1 t2
  obtain ⟨z0, f0, _, w0⟩ := DataW.trod_int Tryz.underlying33 t0
  obtain ⟨z1, f1, _, w1⟩ := DataW.trod_int Tryz.underlying23 t1
  obtain ⟨z2, f2, _, w2⟩ := DataW.trod_int Tryz.underlying22 t2
  cases f0; cases f1; cases f2
  have g0 := wf_u32 _ w0
  have g1 := wf_u64 _ w1
  have g2 := wf_u64 _ w2
  refine ⟨z0.toNat, z1.toNat, z2.toNat, ?_, by omega, by omega, by omega⟩
  rw [Int.toNat_of_nonneg g0.1, Int.toNat_of_nonneg g1.1, Int.toNat_of_nonneg g2.1]
end Go.Proofs.YtlalpenfgkfkpaaGreatDoor

/- Maps of what is timed, and of births. No condition. -/
namespace Go.Proofs.YtlalpenfgkfkpaaGreatDoor
open Go.RowKit Go.Maps
set_option maxRecDepth 100000
/-- What is timed: a slot, its deadline, its birth. -/
structure Td where
  slot : Nat
  dl : Nat
  birth : Nat
def tdV (x : Td) : Value := .agg #[.int .u32 x.slot, .int .u64 x.dl, .int .u64 x.birth]
def tdD (x : Td) : DataW Unit := .agg [.lit (.int .u32 x.slot), .lit (.int .u64 x.dl), .lit (.int .u64 x.birth)]
def tdElem (v : Value) : Option (DataW Unit × List MemPlace) := match v with
  | .agg cs => match cs.toList with
    | [.int .u32 a, .int .u64 b, .int .u64 c] => if 0 ≤ a ∧ 0 ≤ b ∧ 0 ≤ c then some (.agg [.lit (.int .u32 a), .lit (.int .u64 b), .lit (.int .u64 c)], []) else none
    | _ => none
  | _ => none
theorem tdElem_mk (x : Td) : tdElem (tdV x) = some (tdD x, []) := by
  unfold tdElem tdV tdD
  simp
theorem tdElem_inv {v : Value} {z : DataW Unit × List MemPlace} (h : tdElem v = some z) : ∃ x, v = tdV x ∧ z = (tdD x, []) := by
  unfold tdElem at h
  split at h
  · rename_i cs
    split at h
    · rename_i a b c e
      split at h
      · rename_i hp
        injection h with h
        refine ⟨⟨a.toNat, b.toNat, c.toNat⟩, ?_, ?_⟩
        · unfold tdV
          have : cs = #[.int .u32 a, .int .u64 b, .int .u64 c] := by apply Array.ext'; exact e
          rw [this]
          simp only [Int.toNat_of_nonneg hp.1, Int.toNat_of_nonneg hp.2.1, Int.toNat_of_nonneg hp.2.2]
        · rw [← h]
          unfold tdD
          simp only [Int.toNat_of_nonneg hp.1, Int.toNat_of_nonneg hp.2.1, Int.toNat_of_nonneg hp.2.2]
      · cases h
    · cases h
  · cases h
theorem tdD_inj {x y : Td} (h : tdD x = tdD y) : x = y := by
  unfold tdD at h
  injection h with h
  injection h with h1 h
  injection h with h2 h
  injection h with h3 h
  injection h1 with h1; injection h1 with _ h1
  injection h2 with h2; injection h2 with _ h2
  injection h3 with h3; injection h3 with _ h3
  cases x; cases y
  simp only at h1 h2 h3
  rw [Int.ofNat_inj.1 h1, Int.ofNat_inj.1 h2, Int.ofNat_inj.1 h3]
def kS (s : Nat) : Lit := .int .u32 s
def kB (s : Nat) : Lit := .int .u64 s
theorem kS_inj {a b : Nat} (h : kS a = kS b) : a = b := by unfold kS at h; injection h with _ h; exact Int.ofNat_inj.1 h
theorem kB_inj {a b : Nat} (h : kB a = kB b) : a = b := by unfold kB at h; injection h with _ h; exact Int.ofNat_inj.1 h
theorem kS_key (s : Nat) : WideAt.IsKeyLit (kS s) := trivial
theorem kB_key (s : Nat) : WideAt.IsKeyLit (kB s) := trivial
theorem kS_of {s : Nat} (h : s ≤ 4294967295) : keyOf Tryz.prog 33 (.int .u32 s) = some (kS s) := keyOf_int_mk Tryz.underlying33 (by simp [Lit.wf, IntKind.min, IntKind.max, IntKind.signed, IntKind.bits]; omega)
theorem kB_of {s : Nat} (h : s ≤ 18446744073709551615) : keyOf Tryz.prog 22 (.int .u64 s) = some (kB s) := keyOf_int_mk Tryz.underlying22 (by simp [Lit.wf, IntKind.min, IntKind.max, IntKind.signed, IntKind.bits]; omega)
theorem keyedS : Keyed Tryz.prog 33 := int_keyed Tryz.underlying33
theorem keyedB : Keyed Tryz.prog 22 := int_keyed Tryz.underlying22
theorem owns_tight {H : Type} {P : Program} {k : TypeId} {R : Value → Option (DataW H × List MemPlace)} {w : World} {b n : Nat} {D : DataW H} (h : w.ownsMap P k R b n D) : w.ownsMap P k R b (Maps.size D) D := by
  obtain ⟨es, clock, hb, F, _, rfl⟩ := h
  exact ⟨es, clock, hb, F, by simp [Maps.size, length_sorted], rfl⟩
theorem owns_mod_map {H : Type} {P : Program} {k : TypeId} {R : Value → Option (DataW H × List MemPlace)} {S : Nat → Prop} {w w' : World} {b n : Nat} {D : DataW H} (h : w.ownsMap P k R b n D) (hm : Mod S w w') (hb : ¬ S b) : w'.ownsMap P k R b n D := by
  obtain ⟨es, clock, h1, h2⟩ := h
  exact ⟨es, clock, hm.heap hb h1, h2⟩
/-- Block b maps the slots of M to what is timed. -/
structure TMap (w : World) (b : Nat) (M : List Td) (D : DataW Unit) : Prop where
  own : w.ownsMap Tryz.prog 33 tdElem b M.length D
  at_ : ∀ x ∈ M, ∀ zd, D.atKey (kS x.slot) zd = tdD x
  has : ∀ s, Maps.has D (kS s) = true → ∃ x ∈ M, x.slot = s
  size : Maps.size D = M.length
/-- Block b holds the births of M. -/
structure BMap (w : World) (b : Nat) (M : List Td) (D : DataW Unit) : Prop where
  own : w.ownsMap Tryz.prog 22 unitElem b M.length D
  has : ∀ s, Maps.has D (kB s) = true ↔ ∃ x ∈ M, x.birth = s
  size : Maps.size D = M.length
section
variable {w w' : World} {b : Nat} {M : List Td} {D : DataW Unit} {S : Nat → Prop}
theorem TMap.mod (h : TMap w b M D) (hm : Mod S w w') (hb : ¬ S b) : TMap w' b M D := ⟨owns_mod_map h.own hm hb, h.at_, h.has, h.size⟩
theorem BMap.mod (h : BMap w b M D) (hm : Mod S w w') (hb : ¬ S b) : BMap w' b M D := ⟨owns_mod_map h.own hm hb, h.has, h.size⟩
theorem TMap.new (w : World) : TMap (w.alloc (.map #[] 0)) w.heap.size [] (.map []) := ⟨World.ownsMap_made _ _ _ _, (fun _ h => by cases h), (fun s h => by cases h), rfl⟩
theorem BMap.new (w : World) : BMap (w.alloc (.map #[] 0)) w.heap.size [] (.map []) := ⟨World.ownsMap_made _ _ _ _, (fun s => ⟨(fun h => by cases h), (fun ⟨x, hx, _⟩ => by cases hx)⟩), rfl⟩
theorem TMap.has_mem (h : TMap w b M D) {x : Td} (hx : x ∈ M) : Maps.has D (kS x.slot) = true := Maps.has_true_of_atKey (h.at_ x hx)
theorem TMap.not_has (h : TMap w b M D) {s : Nat} (hs : ∀ x ∈ M, x.slot ≠ s) : Maps.has D (kS s) = false := by
  cases hh : Maps.has D (kS s) with
  | false => rfl
  | true => obtain ⟨x, hx, e⟩ := h.has s hh; exact absurd e (hs x hx)
theorem zeroTd (w : World) : (zeroValue 45).run Tryz.prog w = .ok (tdV ⟨0, 0, 0⟩) w := by kernel_rfl
/-- v, ok := what[s]. -/
theorem TMap.look (h : TMap w b M D) {x : Td} (hx : x ∈ M) (hs : x.slot ≤ 4294967295) : (Instr.lookup 56 (.map (some b)) (.int .u32 x.slot) true).run Tryz.prog w = .ok (.tuple #[tdV x, .bool true]) w := by
  obtain ⟨v, ps, hrun, hv⟩ := h.own.look_ok keyedS Tryz.underlying56 (zeroTd w) (tdElem_mk _) (kS_of hs)
  rw [h.at_ x hx] at hv
  obtain ⟨y, rfl, e⟩ := tdElem_inv hv
  have := tdD_inj (congrArg Prod.fst e)
  subst this
  rw [hrun, h.has_mem hx]
theorem TMap.look_no (h : TMap w b M D) {s : Nat} (hs : s ≤ 4294967295) (hn : ∀ x ∈ M, x.slot ≠ s) : (Instr.lookup 56 (.map (some b)) (.int .u32 s) true).run Tryz.prog w = .ok (.tuple #[tdV ⟨0, 0, 0⟩, .bool false]) w := by
  obtain ⟨v, ps, hrun, hv⟩ := h.own.look_ok keyedS Tryz.underlying56 (zeroTd w) (tdElem_mk _) (kS_of hs)
  have h0 := h.not_has hn
  rw [Maps.atKey_of_not_has h0] at hv
  obtain ⟨y, rfl, e⟩ := tdElem_inv hv
  have := tdD_inj (congrArg Prod.fst e)
  subst this
  rw [hrun, h0]
theorem TMap.look1 (h : TMap w b M D) {x : Td} (hx : x ∈ M) (hs : x.slot ≤ 4294967295) : (Instr.lookup 56 (.map (some b)) (.int .u32 x.slot) false).run Tryz.prog w = .ok (tdV x) w := by
  obtain ⟨v, ps, hrun, hv⟩ := h.own.lookup keyedS Tryz.underlying56 (zeroTd w) (tdElem_mk _) (kS_of hs)
  rw [h.at_ x hx] at hv
  obtain ⟨y, rfl, e⟩ := tdElem_inv hv
  have := tdD_inj (congrArg Prod.fst e)
  subst this
  exact hrun
theorem BMap.look (h : BMap w b M D) {s : Nat} (hs : s ≤ 18446744073709551615) : (Instr.lookup 81 (.map (some b)) (.int .u64 s) true).run Tryz.prog w = .ok (.tuple #[.agg #[], .bool (Maps.has D (kB s))]) w := by
  obtain ⟨v, ps, hrun, hv⟩ := h.own.look_ok keyedB Tryz.underlying81 (z := .agg #[]) (by kernel_rfl) (unitElem_mk) (kB_of hs)
  obtain ⟨rfl, _⟩ := unitElem_inv hv
  exact hrun
/-- what[x.slot] = x, where the slot is not there. -/
theorem TMap.put {x : Td} (h : TMap w b M D) (hn : ∀ y ∈ M, y.slot ≠ x.slot) (ho : w'.ownsMap Tryz.prog 33 tdElem b (M.length + 1) (D.put (kS x.slot) (tdD x))) : TMap w' b (x :: M) (D.put (kS x.slot) (tdD x)) := by
  have hm := h.own.isMap
  refine ⟨ho, fun y hy zd => ?_, fun s hs => ?_, ?_⟩
  · rcases List.mem_cons.1 hy with rfl | hy
    · exact atKey_put_same hm (kS_key _) _ _
    · rw [atKey_put_other (fun e => hn y hy (kS_inj e))]
      exact h.at_ y hy zd
  · by_cases e : s = x.slot
    · exact ⟨x, List.mem_cons_self, e.symm⟩
    · rw [has_put_other (fun c => e (kS_inj c))] at hs
      obtain ⟨y, hy, e2⟩ := h.has s hs
      exact ⟨y, List.mem_cons_of_mem _ hy, e2⟩
  · rw [Maps.size_put (h.own.tidy keyedS), h.not_has hn, h.size]; rfl
/-- .. where just that is there. -/
theorem TMap.again {x : Td} (h : TMap w b M D) (hx : x ∈ M) (hu : ∀ y ∈ M, y.slot = x.slot → y = x) (ho : w'.ownsMap Tryz.prog 33 tdElem b (M.length + 1) (D.put (kS x.slot) (tdD x))) : TMap w' b M (D.put (kS x.slot) (tdD x)) := by
  have hm := h.own.isMap
  have hsz : Maps.size (D.put (kS x.slot) (tdD x)) = M.length := by rw [Maps.size_put (h.own.tidy keyedS), h.has_mem hx, h.size]; rfl
  refine ⟨by have := owns_tight ho; rw [hsz] at this; exact this, fun y hy zd => ?_, fun s hs => ?_, hsz⟩
  · by_cases e : y.slot = x.slot
    · rw [hu y hy e, atKey_put_same hm (kS_key _)]
    · rw [atKey_put_other (fun c => e (kS_inj c))]
      exact h.at_ y hy zd
  · by_cases e : s = x.slot
    · exact ⟨x, hx, e.symm⟩
    · rw [has_put_other (fun c => e (kS_inj c))] at hs
      exact h.has s hs
/-- delete(what, x.slot). -/
theorem TMap.del {x : Td} {M' : List Td} (h : TMap w b M D) (hx : x ∈ M) (hM : ∀ y, y ∈ M' ↔ y ∈ M ∧ y.slot ≠ x.slot) (hl : M'.length + 1 = M.length) {n : Nat} (ho : w'.ownsMap Tryz.prog 33 tdElem b n (D.del (kS x.slot))) : TMap w' b M' (D.del (kS x.slot)) := by
  have hsz : Maps.size (D.del (kS x.slot)) = M'.length := by
    have := Maps.size_del (k := kS x.slot) (h.own.tidy keyedS)
    rw [h.has_mem hx, h.size] at this
    simp at this
    omega
  refine ⟨by have := owns_tight ho; rw [hsz] at this; exact this, fun y hy zd => ?_, fun s hs => ?_, hsz⟩
  · obtain ⟨h1, h2⟩ := (hM y).1 hy
    rw [atKey_del_other (fun c => h2 (kS_inj c))]
    exact h.at_ y h1 zd
  · by_cases e : s = x.slot
    · subst e
      rw [has_del_same] at hs
      cases hs
    · rw [has_del_other (fun c => e (kS_inj c))] at hs
      obtain ⟨y, hy, e2⟩ := h.has s hs
      exact ⟨y, (hM y).2 ⟨hy, fun c => e (by rw [← e2, c])⟩, e2⟩
theorem BMap.put {x : Td} (h : BMap w b M D) (hn : ∀ y ∈ M, y.birth ≠ x.birth) (ho : w'.ownsMap Tryz.prog 22 unitElem b (M.length + 1) (D.put (kB x.birth) (.agg []))) : BMap w' b (x :: M) (D.put (kB x.birth) (.agg [])) := by
  have hm := h.own.isMap
  have h0 : Maps.has D (kB x.birth) = false := by
    cases hh : Maps.has D (kB x.birth) with
    | false => rfl
    | true => obtain ⟨y, hy, e⟩ := (h.has _).1 hh; exact absurd e (hn y hy)
  refine ⟨ho, fun s => ?_, ?_⟩
  · by_cases e : s = x.birth
    · subst e
      exact ⟨fun _ => ⟨x, List.mem_cons_self, rfl⟩, fun _ => has_put_same hm (kB_key _) _⟩
    · rw [has_put_other (fun c => e (kB_inj c)), h.has]
      constructor
      · rintro ⟨y, hy, e2⟩; exact ⟨y, List.mem_cons_of_mem _ hy, e2⟩
      · rintro ⟨y, hy, e2⟩
        rcases List.mem_cons.1 hy with rfl | hy
        · exact absurd e2.symm e
        · exact ⟨y, hy, e2⟩
  · rw [Maps.size_put (h.own.tidy keyedB), h0, h.size]; rfl
theorem BMap.again {x : Td} (h : BMap w b M D) (hx : x ∈ M) (ho : w'.ownsMap Tryz.prog 22 unitElem b (M.length + 1) (D.put (kB x.birth) (.agg []))) : BMap w' b M (D.put (kB x.birth) (.agg [])) := by
  have hm := h.own.isMap
  have h0 : Maps.has D (kB x.birth) = true := (h.has _).2 ⟨x, hx, rfl⟩
  have hsz : Maps.size (D.put (kB x.birth) (.agg [])) = M.length := by rw [Maps.size_put (h.own.tidy keyedB), h0, h.size]; rfl
  refine ⟨by have := owns_tight ho; rw [hsz] at this; exact this, fun s => ?_, hsz⟩
  by_cases e : s = x.birth
  · subst e
    exact ⟨fun _ => ⟨x, hx, rfl⟩, fun _ => has_put_same hm (kB_key _) _⟩
  · rw [has_put_other (fun c => e (kB_inj c)), h.has]
theorem BMap.del {x : Td} {M' : List Td} (h : BMap w b M D) (hx : x ∈ M) (hM : ∀ y, y ∈ M' ↔ y ∈ M ∧ y.birth ≠ x.birth) (hl : M'.length + 1 = M.length) {n : Nat} (ho : w'.ownsMap Tryz.prog 22 unitElem b n (D.del (kB x.birth))) : BMap w' b M' (D.del (kB x.birth)) := by
  have h0 : Maps.has D (kB x.birth) = true := (h.has _).2 ⟨x, hx, rfl⟩
  have hsz : Maps.size (D.del (kB x.birth)) = M'.length := by
    have := Maps.size_del (k := kB x.birth) (h.own.tidy keyedB)
    rw [h0, h.size] at this
    simp at this
    omega
  refine ⟨by have := owns_tight ho; rw [hsz] at this; exact this, fun s => ?_, hsz⟩
  by_cases e : s = x.birth
  · subst e
    rw [has_del_same]
    exact ⟨fun c => (by cases c), fun ⟨y, hy, e2⟩ => absurd e2 ((hM y).1 hy).2⟩
  · rw [has_del_other (fun c => e (kB_inj c)), h.has]
    constructor
    · rintro ⟨y, hy, e2⟩; exact ⟨y, (hM y).2 ⟨hy, fun c => e (by rw [← e2, c])⟩, e2⟩
    · rintro ⟨y, hy, e2⟩; exact ⟨y, ((hM y).1 hy).1, e2⟩
end
end Go.Proofs.YtlalpenfgkfkpaaGreatDoor

/- due: the map of births to slots. No condition. -/
namespace Go.Proofs.YtlalpenfgkfkpaaGreatDoor
open Go.RowKit Go.Maps
set_option maxRecDepth 100000
def nV (x : Td) : Value := .int .u32 x.slot
def nD (x : Td) : DataW Unit := .lit (.int .u32 x.slot)
def numElem (v : Value) : Option (DataW Unit × List MemPlace) := match v with
  | .int .u32 a => if 0 ≤ a then some (.lit (.int .u32 a), []) else none
  | _ => none
theorem numElem_mk (s : Nat) : numElem (.int .u32 s) = some (.lit (.int .u32 s), []) := by
  unfold numElem
  simp
theorem numElem_inv {v : Value} {z : DataW Unit × List MemPlace} (h : numElem v = some z) : ∃ s : Nat, v = .int .u32 s ∧ z = (.lit (.int .u32 s), []) := by
  unfold numElem at h
  split at h
  · rename_i a
    split at h
    · rename_i hp
      injection h with h
      exact ⟨a.toNat, by rw [Int.toNat_of_nonneg hp], by rw [← h, Int.toNat_of_nonneg hp]⟩
    · cases h
  · cases h
theorem lit_inj {a b : Nat} (h : (DataW.lit (.int .u32 a) : DataW Unit) = .lit (.int .u32 b)) : a = b := by
  injection h with h; injection h with _ h; exact Int.ofNat_inj.1 h
/-- Block b maps the births of M to their slots. -/
structure NMap (w : World) (b : Nat) (M : List Td) (D : DataW Unit) : Prop where
  own : w.ownsMap Tryz.prog 22 numElem b M.length D
  at_ : ∀ x ∈ M, ∀ zd, D.atKey (kB x.birth) zd = nD x
  has : ∀ s, Maps.has D (kB s) = true → ∃ x ∈ M, x.birth = s
  size : Maps.size D = M.length
section
variable {w w' : World} {b : Nat} {M : List Td} {D : DataW Unit} {S : Nat → Prop}
theorem NMap.mod (h : NMap w b M D) (hm : Mod S w w') (hb : ¬ S b) : NMap w' b M D := ⟨owns_mod_map h.own hm hb, h.at_, h.has, h.size⟩
theorem NMap.new (w : World) : NMap (w.alloc (.map #[] 0)) w.heap.size [] (.map []) := ⟨World.ownsMap_made _ _ _ _, (fun _ h => by cases h), (fun s h => by cases h), rfl⟩
theorem NMap.has_mem (h : NMap w b M D) {x : Td} (hx : x ∈ M) : Maps.has D (kB x.birth) = true := Maps.has_true_of_atKey (h.at_ x hx)
theorem NMap.not_has (h : NMap w b M D) {s : Nat} (hs : ∀ x ∈ M, x.birth ≠ s) : Maps.has D (kB s) = false := by
  cases hh : Maps.has D (kB s) with
  | false => rfl
  | true => obtain ⟨x, hx, e⟩ := h.has s hh; exact absurd e (hs x hx)
theorem zeroN (w : World) : (zeroValue 33).run Tryz.prog w = .ok (.int .u32 (0 : Nat)) w := by kernel_rfl
theorem NMap.look (h : NMap w b M D) {x : Td} (hx : x ∈ M) (hs : x.birth ≤ 18446744073709551615) : (Instr.lookup 55 (.map (some b)) (.int .u64 x.birth) true).run Tryz.prog w = .ok (.tuple #[.int .u32 x.slot, .bool true]) w := by
  obtain ⟨v, ps, hrun, hv⟩ := h.own.look_ok keyedB Tryz.underlying55 (zeroN w) (numElem_mk _) (kB_of hs)
  rw [h.at_ x hx] at hv
  obtain ⟨y, rfl, e⟩ := numElem_inv hv
  have := lit_inj (congrArg Prod.fst e)
  subst this
  rw [hrun, h.has_mem hx]
theorem NMap.look_no (h : NMap w b M D) {s : Nat} (hs : s ≤ 18446744073709551615) (hn : ∀ x ∈ M, x.birth ≠ s) : (Instr.lookup 55 (.map (some b)) (.int .u64 s) true).run Tryz.prog w = .ok (.tuple #[.int .u32 0, .bool false]) w := by
  obtain ⟨v, ps, hrun, hv⟩ := h.own.look_ok keyedB Tryz.underlying55 (zeroN w) (numElem_mk _) (kB_of hs)
  have h0 := h.not_has hn
  rw [Maps.atKey_of_not_has h0] at hv
  obtain ⟨y, rfl, e⟩ := numElem_inv hv
  have := lit_inj (congrArg Prod.fst e)
  subst this
  rw [hrun, h0]
  rfl
theorem NMap.put {x : Td} (h : NMap w b M D) (hn : ∀ y ∈ M, y.birth ≠ x.birth) (ho : w'.ownsMap Tryz.prog 22 numElem b (M.length + 1) (D.put (kB x.birth) (nD x))) : NMap w' b (x :: M) (D.put (kB x.birth) (nD x)) := by
  have hm := h.own.isMap
  refine ⟨ho, fun y hy zd => ?_, fun s hs => ?_, ?_⟩
  · rcases List.mem_cons.1 hy with rfl | hy
    · exact atKey_put_same hm (kB_key _) _ _
    · rw [atKey_put_other (fun e => hn y hy (kB_inj e))]
      exact h.at_ y hy zd
  · by_cases e : s = x.birth
    · exact ⟨x, List.mem_cons_self, e.symm⟩
    · rw [has_put_other (fun c => e (kB_inj c))] at hs
      obtain ⟨y, hy, e2⟩ := h.has s hs
      exact ⟨y, List.mem_cons_of_mem _ hy, e2⟩
  · rw [Maps.size_put (h.own.tidy keyedB), h.not_has hn, h.size]; rfl
theorem NMap.del {x : Td} {M' : List Td} (h : NMap w b M D) (hx : x ∈ M) (hM : ∀ y, y ∈ M' ↔ y ∈ M ∧ y.birth ≠ x.birth) (hl : M'.length + 1 = M.length) {n : Nat} (ho : w'.ownsMap Tryz.prog 22 numElem b n (D.del (kB x.birth))) : NMap w' b M' (D.del (kB x.birth)) := by
  have hsz : Maps.size (D.del (kB x.birth)) = M'.length := by
    have := Maps.size_del (k := kB x.birth) (h.own.tidy keyedB)
    rw [h.has_mem hx, h.size] at this
    simp at this
    omega
  refine ⟨by have := owns_tight ho; rw [hsz] at this; exact this, fun y hy zd => ?_, fun s hs => ?_, hsz⟩
  · obtain ⟨h1, h2⟩ := (hM y).1 hy
    rw [atKey_del_other (fun c => h2 (kB_inj c))]
    exact h.at_ y h1 zd
  · by_cases e : s = x.birth
    · subst e
      rw [has_del_same] at hs
      cases hs
    · rw [has_del_other (fun c => e (kB_inj c))] at hs
      obtain ⟨y, hy, e2⟩ := h.has s hs
      exact ⟨y, (hM y).2 ⟨hy, fun c => e (by rw [← e2, c])⟩, e2⟩
end
end Go.Proofs.YtlalpenfgkfkpaaGreatDoor

/- word and control: each function on the lanes of its word. -/
namespace Go.Proofs.YtlalpenfgkfkpaaGreatDoor
open Go.RowKit
set_option maxRecDepth 100000

theorem u64_mod (n : Nat) : IntKind.u64.wrap (n : Int) = ((n % 18446744073709551616 : Nat) : Int) := by
  simp [IntKind.wrap, IntKind.signed, IntKind.bits]
theorem tz_table (s : ByteArray) (hs : s.size = 256) (h : ∀ k (hk : k < 256), wrap64 ((s[k]'(by omega)).toNat : Int) = lane1 k) (m : Nat) (hm : m < 256) (hms : m < s.size) : wrap64 ((s[m]'hms).toNat : Int) = lane1 m := h m hm
theorem pow_lane (j : Nat) (hj : j < 8) (b : Nat) (hb : b < 256) : b * 2 ^ (8 * j) < 18446744073709551616 := by
  have : 2 ^ (8 * j) ≤ 2 ^ 56 := Nat.pow_le_pow_right (by decide) (by omega)
  have : b * 2 ^ (8 * j) ≤ 255 * 2 ^ 56 := Nat.mul_le_mul (by omega) this
  omega
/-! ### control -/
/-- The lanes of a group: tags, empty ones and deleted ones. -/
def Group (l : List Nat) : Prop := l.length = 8 ∧ ∀ c ∈ l, c < 128 ∨ c = 128 ∨ c = 254
theorem Group.bytes {l : List Nat} (h : Group l) : Bytes8 l := ⟨h.1, fun c hc => by have := h.2 c hc; omega⟩
/-- What Erase puts into a lane. -/
def erased (l : List Nat) : Nat := if l.any (· == 128) then 128 else 254
end Go.Proofs.YtlalpenfgkfkpaaGreatDoor

/- A law for a range over a function, at an outermost loop of a fence without a list, for an iterator of one's own contract (IterOk). -/
namespace Go.Proofs.YtlalpenfgkfkpaaGreatDoor
open Go.RowKit Go.Shelf

/-! ## A range over a function -/
@[go_sem] theorem wide_fn (f : Nat) : Fence.wide.fn f = True := rfl
@[go_sem] theorem wide_depth : Fence.wide.depth = none := rfl
@[go_sem] theorem wide_round : Fence.wide.round = none := rfl

/-- From A to B only new blocks that hold no cells (numbers from N on) may have turned. -/
def Quiet (N : Nat) (A B : World) : Prop := Mod (fun k => N ≤ k ∧ ∃ o, A.heap[k]? = some o ∧ o.isCells = false) A B
theorem Quiet.of_pure {N : Nat} {A B : World} (h : Pure A B) : Quiet N A B := Mod.of_pure h
theorem Quiet.putObj {N : Nat} {A : World} {l : Nat} {o : Obj} (o' : Obj) (hN : N ≤ l) (hl : A.heap[l]? = some o) (ho : o.isCells = false) : Quiet N A (A.putObj l o') :=
  ⟨rfl, rfl, rfl, by simp, fun k _ hn => World.putObj_heap_other (fun e => hn (by subst e; exact ⟨hN, o, hl, ho⟩))⟩
theorem Quiet.cells {N : Nat} {A B : World} (h : Quiet N A B) {k : Nat} {cs : Array Value} {T : TypeId} {fz : Nat × Nat} (hc : A.heap[k]? = some (.cells cs T fz)) : B.heap[k]? = some (.cells cs T fz) :=
  Mod.heap h (fun ⟨_, o, ho, hn⟩ => by rw [hc] at ho; cases ho; cases hn) hc
theorem Quiet.cell {N : Nat} {A B : World} (h : Quiet N A B) {a : Addr} {v : Value} (hc : A.cell? a = some v) : B.cell? a = some v := by
  refine Mod.cell h ?_ hc
  rintro ⟨_, o, ho, hn⟩
  unfold World.cell? at hc
  rw [ho] at hc
  cases o <;> simp_all [Obj.isCells]
theorem Quiet.owns {N : Nat} {A B : World} (h : Quiet N A B) {T k : Nat} {v : Value} {n : Nat} {xs : List Value} (ho : A.ownsRow 0 T k v n xs) : B.ownsRow 0 T k v n xs :=
  owns_mod ho h (fun g hg hs => by
    obtain ⟨c, e⟩ := owns_type ho hg
    obtain ⟨_, o, ho, hn⟩ := hs
    rw [e] at ho; cases ho; cases hn)
theorem Quiet.mod {N : Nat} {S : Nat → Prop} {w A B : World} (h : Quiet N A B) (hm : Mod S w A) (hN : w.heap.size ≤ N) : Mod S w B :=
  hm.then h (fun i hi hk => by have := hk.1; omega)

/-- A round keeps the records: blocks from N on that hold no cells. -/
def KeepsRec (N : Nat) (A B : World) : Prop := ∀ k o, N ≤ k → A.heap[k]? = some o → o.isCells = false → B.heap[k]? = some o
theorem KeepsRec.of_mod {N : Nat} {S : Nat → Prop} {A B : World} (h : Mod S A B) (hS : ∀ k, N ≤ k → S k → ∀ o, A.heap[k]? = some o → o.isCells = true) : KeepsRec N A B :=
  fun k o hk ho hn => h.heap (fun hs => by have := hS k hk hs o ho; rw [this] at hn; cases hn) ho

/-- What a round has to leave of the iterator's own blocks. -/
def KeepsIt (It : Nat → Prop) (A B : World) : Prop := A.heap.size ≤ B.heap.size ∧ ∀ k, It k → k < A.heap.size → B.heap[k]? = A.heap[k]?
theorem KeepsIt.of_mod {It S : Nat → Prop} {A B : World} (h : Mod S A B) (hS : ∀ k, It k → ¬ S k) : KeepsIt It A B := ⟨h.size, fun k hk hlt => h.block k hlt (hS k hk)⟩
theorem KeepsIt.trans {It : Nat → Prop} {A B C : World} (h : KeepsIt It A B) (k : KeepsIt It B C) : KeepsIt It A C := ⟨Nat.le_trans h.1 k.1, fun i hi hlt => (k.2 i hi (Nat.lt_of_lt_of_le hlt h.1)).trans (h.2 i hi hlt)⟩
theorem KeepsIt.of_pure {It : Nat → Prop} {A B : World} (h : Pure A B) : KeepsIt It A B := KeepsIt.of_mod h (fun _ _ h => h)

/-- THE CONTRACT OF AN ITERATOR (function gf, captured lb) in the world w: its blocks are It; of the x that it hands over behind pre it promises G; all that it hands over meets S; it makes new blocks alone. -/
def IterOk (P : Program) {α : Type} (gf : Nat) (lb : Array Value) (encs : α → Array Value) (It : Nat → Prop) (G : List α → α → World → Prop) (S : List α → Prop) (w : World) : Prop :=
  ∀ (l : Nat) (J Jx : List α → World → Prop) (W : World), Pure w W → (∀ pre A B, J pre A → Pure A B → J pre B) → (∀ pre A B, Jx pre A → Pure A B → Jx pre B) →
    (∀ pre x W1, J pre W1 → G pre x W1 → YieldAt Fence.wide 0 P l (encs x) W1 fun e W' =>
      (e = .returned (.bool true) ∧ J (pre ++ [x]) W' ∧ KeepsIt It W1 W') ∨ (e = .returned (.bool false) ∧ Jx (pre ++ [x]) W')) →
    J [] W →
    CallsIn Fence.wide 0 P gf (#[.func (.yield l) #[] #[]] ++ lb) W fun e W' => (∃ v, e = .returned v) ∧ ((∃ xs, S xs ∧ J xs W') ∨ (∃ pre, Jx pre W'))

/-- HOW THE BODY OF A ROUND MAY BE LEFT. -/
def roundEnd {α : Type} (N : Nat) (It : Nat → Prop) (I : List α → World → Prop) (Ix : Code → List α → World → Prop) (xs : List α) (W : World) : Exit → Act → World → Prop
  | .normal, _, W' => KeepsRec N W W' ∧ KeepsIt It W W' ∧ I xs W'
  | .ret, _, W' => KeepsRec N W W' ∧ Ix .ret xs W'
  | .exit id, _, W' => KeepsRec N W W' ∧ Ix (.exit id) xs W'
  | .goto t, _, W' => KeepsRec N W W' ∧ Ix (.goto t) xs W'
  | .panic _, _, _ => False
  | .outgrown, _, _ => False

variable {P : Program}

/-- THE LAW, at an outermost loop. -/
theorem wp_range {α : Type} {g : Operand} {ps : Array Tmp} {assign body : Code} {Q : Exit → Act → World → Prop} {a : Act} {w : World}
    {gf : Nat} {lb : Array Value} (hg : a.eval g = .func (.func gf) #[] lb) (eg : ∀ args w, (callFunc gf args).run P w = .ok (.enter gf args) w)
    {encs : α → Array Value} {It : Nat → Prop} {G : List α → α → World → Prop} {S : List α → Prop} (hit : IterOk P gf lb encs It G S w) (hItlt : ∀ k, It k → k < w.heap.size)
    (hps : ∀ x, (encs x).size = ps.size)
    (I : List α → World → Prop) (Ix : Code → List α → World → Prop) (hI : ∀ pre A B, I pre A → Quiet w.heap.size A B → I pre B) (hIx : ∀ c pre A B, Ix c pre A → Quiet w.heap.size A B → Ix c pre B) (h0 : I [] w)
    (Ax : List α → α → Act → World → Prop) (hAx : ∀ pre x a' A B, Ax pre x a' A → Quiet w.heap.size A B → Ax pre x a' B)
    (hassign : ∀ (l : Nat) (pre : List α) (x : α) (W : World) (K : Act → World → Prop), I pre W → G pre x W → (∀ a' W', Pure W W' → Ax pre x a' W' → K a' W') →
      assign.wpIn (Fence.wide.inRound l) 0 P (Exit.then K (fun _ _ _ => False)) { tmps := (ps.zip (encs x)).foldl (fun t (p, v) => t.setIfInBounds p v) a.tmps, defers := [] } W)
    (hbody : ∀ (l : Nat) (pre : List α) (x : α) (a' : Act) (W : World), w.heap.size ≤ l → (∃ r, W.heap[l]? = some (.loop r)) → Ax pre x a' W →
      body.wpIn (Fence.wide.inRound l) 0 P (roundEnd w.heap.size It I Ix (pre ++ [x]) W) a' W)
    (hdone : ∀ (D : Nat) (xs : List α) (W : World), w.heap.size ≤ D → S xs → I xs W → W.heap[D]? = some (.deferred (some [])) → Q .normal { a with defers := { target := .collected D, args := #[] } :: a.defers } W)
    (hstop : ∀ (D : Nat) (c : Code) (pre : List α) (W : World), w.heap.size ≤ D → Ix c pre W → W.heap[D]? = some (.deferred (some [])) → c.wpIn Fence.wide 0 P Q { a with defers := { target := .collected D, args := #[] } :: a.defers } W) :
    (Code.rangeFunc g ps assign body).wpIn Fence.wide 0 P Q a w := by
  refine wpIn_rangeFunc ?_
  intro fn hfn
  obtain ⟨rec, hrec⟩ : ∃ rec : LoopState → Option Code → Loop, rec = fun st pe => { state := st, pending := pe, fn, tmps := a.tmps, params := ps, assign, body, defers := w.heap.size } := ⟨_, rfl⟩
  obtain ⟨W1, hW1⟩ : ∃ W1, (w.alloc (.deferred (some []))).alloc (.loop (rec .ready none)) = W1 := ⟨_, rfl⟩
  have hL1 : W1.heap[w.heap.size + 1]? = some (.loop (rec .ready none)) := by rw [← hW1]; exact heap_new (by simp)
  have hK1 : W1.heap[w.heap.size]? = some (.deferred (some [])) := by rw [← hW1]; exact heap_keep (heap_new rfl)
  have hP1 : Pure w W1 := by rw [← hW1]; exact ((Mod.refl _ w).alloc _).alloc _
  have hI1 : I [] W1 := hI _ _ _ h0 (Quiet.of_pure hP1)
  refine ⟨w.heap.size + 1, [{ target := .collected w.heap.size, args := #[] }], W1, { target := .fn (.func gf) lb, args := #[.func (.yield (w.heap.size + 1)) #[] #[]] }, W1, gf,
    #[.func (.yield (w.heap.size + 1)) #[] #[]] ++ lb, W1, ?_, ?_, fun _ _ => trivial, ?_, (fun h => by cases h), ?_⟩
  · rw [← hW1, hrec]; exact run_enterLoop_outer _ _ _ _ _
  · simp only [resolve, hg]
    simp [go_sem]
  · simp [invoke, go_sem, eg]
  · refine (hit (w.heap.size + 1)
      (fun pre W => I pre W ∧ W.heap[w.heap.size + 1]? = some (.loop (rec .ready none)) ∧ W.heap[w.heap.size]? = some (.deferred (some [])) ∧ w.heap.size ≤ W.heap.size)
      (fun pre W => ∃ c, Ix c pre W ∧ W.heap[w.heap.size + 1]? = some (.loop (rec .done (some c))) ∧ W.heap[w.heap.size]? = some (.deferred (some [])))
      W1 hP1
      (fun pre A B hs hp => ⟨hI _ _ _ hs.1 (Quiet.of_pure hp), hp.heap (fun h => h) hs.2.1, hp.heap (fun h => h) hs.2.2.1, Nat.le_trans hs.2.2.2 hp.size⟩)
      (fun pre A B hs hp => by
        obtain ⟨c, hc, hl, hk⟩ := hs
        exact ⟨c, hIx _ _ _ _ hc (Quiet.of_pure hp), hp.heap (fun h => h) hl, hp.heap (fun h => h) hk⟩)
      ?_ ⟨hI1, hL1, hK1, hP1.size⟩).mono ?_
    · rintro pre x W ⟨hi, hl, hk, hsz⟩ hGx
      have hlt : w.heap.size + 1 < W.heap.size := (Array.getElem?_eq_some_iff.1 hl).1
      have hy := run_yield (P := P) (args := encs x) hl (by rw [hrec]; exact hps x)
      rw [hrec] at hy
      refine ⟨fn, _, assign, body, hy, roundIn_of_wpIn hfn (hassign _ pre x W _ hi hGx ?_)⟩
      clear hy
      intro a' Wa hpa hax
      have hla : Wa.heap[w.heap.size + 1]? = _ := hpa.heap (fun h => h) hl
      have hka : Wa.heap[w.heap.size]? = _ := hpa.heap (fun h => h) hk
      have hlta : w.heap.size + 1 < Wa.heap.size := (Array.getElem?_eq_some_iff.1 hla).1
      refine ⟨_, run_beginRound hla (by rw [hrec]), ?_⟩
      have hq2 : Quiet w.heap.size Wa (Wa.putObj (w.heap.size + 1) (.loop { rec .ready none with state := .busy })) := Quiet.putObj _ (by omega) hla rfl
      have hl2 : (Wa.putObj (w.heap.size + 1) (.loop { rec .ready none with state := .busy })).heap[w.heap.size + 1]? = some (.loop { rec .ready none with state := .busy }) := World.putObj_heap_same hlta
      have hk2 : (Wa.putObj (w.heap.size + 1) (.loop { rec .ready none with state := .busy })).heap[w.heap.size]? = some (.deferred (some [])) := (World.putObj_heap_other (by omega)).trans hka
      have ha2 := hAx _ _ _ _ _ hax hq2
      have hit2 : KeepsIt It W (Wa.putObj (w.heap.size + 1) (.loop { rec .ready none with state := .busy })) :=
        (KeepsIt.of_pure hpa).trans ⟨by simp, fun k hk _ => World.putObj_heap_other (by have := hItlt k hk; omega)⟩
      refine wpIn_mono (hbody _ pre x a' _ (by omega) ⟨_, hl2⟩ ha2) ?_
      have fin : ∀ (jump : Option Code) (W3 : World), KeepsRec w.heap.size (Wa.putObj (w.heap.size + 1) (.loop { rec .ready none with state := .busy })) W3 →
          (Instr.endRound (w.heap.size + 1) jump).run P W3 = .ok (.bool jump.isNone) (W3.putObj (w.heap.size + 1) (.loop (rec (if jump.isNone then .ready else .done) jump))) ∧
          W3.heap[w.heap.size + 1]? = some (.loop { rec .ready none with state := .busy }) ∧
          (W3.putObj (w.heap.size + 1) (.loop (rec (if jump.isNone then .ready else .done) jump))).heap[w.heap.size + 1]? = some (.loop (rec (if jump.isNone then .ready else .done) jump)) ∧
          (W3.putObj (w.heap.size + 1) (.loop (rec (if jump.isNone then .ready else .done) jump))).heap[w.heap.size]? = some (.deferred (some [])) := fun jump W3 hk3 => by
        have hl3 := hk3 _ _ (by omega) hl2 rfl
        have := run_endRound (P := P) jump hl3
        rw [hrec] at this ⊢
        exact ⟨this, by rw [hrec] at hl3; exact hl3, World.putObj_heap_same (Array.getElem?_eq_some_iff.1 hl3).1, (World.putObj_heap_other (by omega)).trans (hk3 _ _ (Nat.le_refl _) hk2 rfl)⟩
      rintro e a3 W3 hp
      cases e with
      | normal =>
        obtain ⟨hk3, hkp3, hi3⟩ := hp
        obtain ⟨hr, hl3, hl4, hk4⟩ := fin none W3 hk3
        have hlt3 : w.heap.size + 1 < W3.heap.size := (Array.getElem?_eq_some_iff.1 hl3).1
        exact ⟨_, _, hr, .inl ⟨rfl, ⟨hI _ _ _ hi3 (Quiet.putObj _ (by omega) hl3 rfl), hl4, hk4, by simp; omega⟩,
          (hit2.trans hkp3).trans ⟨by simp, fun k hk _ => World.putObj_heap_other (by have := hItlt k hk; omega)⟩⟩⟩
      | ret =>
        obtain ⟨hk3, hi3⟩ := hp
        obtain ⟨hr, hl3, hl4, hk4⟩ := fin (some .ret) W3 hk3
        exact ⟨_, _, hr, .inr ⟨rfl, .ret, hIx _ _ _ _ hi3 (Quiet.putObj _ (by omega) hl3 rfl), hl4, hk4⟩⟩
      | exit id =>
        obtain ⟨hk3, hi3⟩ := hp
        obtain ⟨hr, hl3, hl4, hk4⟩ := fin (some (.exit id)) W3 hk3
        exact ⟨_, _, hr, .inr ⟨rfl, .exit id, hIx _ _ _ _ hi3 (Quiet.putObj _ (by omega) hl3 rfl), hl4, hk4⟩⟩
      | goto t =>
        obtain ⟨hk3, hi3⟩ := hp
        obtain ⟨hr, hl3, hl4, hk4⟩ := fin (some (.goto t)) W3 hk3
        exact ⟨_, _, hr, .inr ⟨rfl, .goto t, hIx _ _ _ _ hi3 (Quiet.putObj _ (by omega) hl3 rfl), hl4, hk4⟩⟩
      | panic ch => exact hp.elim
      | outgrown => exact hp.elim
    · rintro e W2 ⟨⟨v, rfl⟩, (⟨xs, hS, hi, hl, hk, _⟩ | ⟨pre, c, hi, hl, hk⟩)⟩
      · exact ⟨none, _, by have := run_endLoop (P := P) hl (by rw [hrec]; simp); rw [hrec] at this; exact this, hdone _ xs _ (Nat.le_refl _) hS (hI _ _ _ hi (Quiet.putObj _ (by omega) hl rfl)) ((World.putObj_heap_other (by omega)).trans hk)⟩
      · exact ⟨some c, _, by have := run_endLoop (P := P) hl (by rw [hrec]; simp); rw [hrec] at this; exact this, hstop _ c pre _ (Nat.le_refl _) (hIx _ _ _ _ hi (Quiet.putObj _ (by omega) hl rfl)) ((World.putObj_heap_other (by omega)).trans hk)⟩

/-- append at a fenced list; what is appended is read. -/
theorem wpListIn_append_read {F : Fence} {m0 : Nat} {P : Program} (w : World) {ops : Array Oper} {rest : List Oper} {o : Oper} {a : Act} {Q : Exit → Act → World → Prop} (hgd : o.guard = none) (s x : Operand) (t : TypeId)
    (ho : o.op = .call { callee := .builtin .append, args := #[s, x], argTypes := #[t, t] })
    (e : TypeId) (i : TypeInfo) (z : Value) (k bytes : Nat) (ht : P.underlying t = some (.slice e)) (hi : P.info? e = some i) (hz : i.zero = some z)
    (hsize : i.size = k) (hby : i.bytes = bytes) (hzs : z.cells.size = k) (hsz : 0 < k)
    (v : Value) (n : Nat) (xs : List Value) (hs : a.eval s = v) (hown : w.ownsRow 0 e k v n xs) (xv : Value) (ys : List Value) (m : Nat) (hxv : a.eval x = xv) (hx : ReadAt w xv k ys) (hm : ys.length = m * k)
    (h63 : n + m ≤ maxLen) (hbytes : (n + m) * bytes ≤ 140737488355328)
    (h : ∀ a' c' w', w'.ownsRow 0 e k (.slice a' (n + m) c') (n + m) (xs ++ ys) → w.grownBy w' v.ownBlock → ((Value.slice a' (n + m) c').ownBlock = v.ownBlock ∨ (Value.slice a' (n + m) c').ownBlock = some w.heap.size) → wpListIn F m0 P ops Q rest (a.put o.dst (.slice a' (n + m) c')) w') : wpListIn F m0 P ops Q (o :: rest) a w := by
  refine wpListIn_plain hgd fun K hK' => ?_
  obtain ⟨a', c', w', hr, h2, h3, h4⟩ := run_append_read (P := P) w t o.type e i z k bytes ht hi hz hsize hby hzs hsz v n xs hown xv ys m hx hm h63 hbytes
  unfold Oper.wpIn
  refine ⟨?_, ?_⟩
  · simp [Oper.about, ho, resolve, Target.leads, Sem.run_pure]
  · rw [Oper.semAt_plain F _ _ (by rw [ho]; intro c hc'; cases hc')]
    simp [execOp, ho, resolve, invoke, builtin, hs, hxv, hr, Result.andThen]
    exact hK' _ _ (h a' c' w' h2 h3 h4)
/-- A function's end behind one range over a function that nothing was deferred in. -/
theorem bodyPostM_drained {P : Program} {fn : Func} {R : Ending → World → Prop} {l : Nat} {tmps : Array Value} {w : World} (v : Value) (hK : w.heap[l]? = some (.deferred (some []))) (hr : (results fn tmps).run P (w.putObj l (.deferred none)) = .ok v (w.putObj l (.deferred none)))
    (hR : R (.returned v) (w.putObj l (.deferred none))) : bodyPostM Fence.wide 0 P fn R .ret { tmps := tmps, defers := [{ target := .collected l, args := #[] }] } w :=
  ⟨by simp, .inl ⟨_, _, rfl, run_takeDeferred hK, v, hr, hR⟩⟩
end Go.Proofs.YtlalpenfgkfkpaaGreatDoor
