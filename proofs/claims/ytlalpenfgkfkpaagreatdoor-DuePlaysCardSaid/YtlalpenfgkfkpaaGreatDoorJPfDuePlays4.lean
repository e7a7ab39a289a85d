/- Lemmas and contracts of functions, strung together out of 10 texts. No condition. -/
import Derived.Test.YtlalpenfgkfkpaaGreatDoorJPfDuePlays3
import Derived.Test.YtlalpenfgkfkpaaGreatDoorJPfDuePlays2
import Derived.RegionTactic
import Derived.WalkLawsBesides
import Derived.WalkSpells
import Derived.Deep.RegionHeld3
/- links: Renumber, where each node keeps its number. Conditions: the field lies in memory, the numbers are allowed. -/
namespace Go.Proofs.YtlalpenfgkfkpaaGreatDoor
open Go.RowKit
set_option maxRecDepth 100000
/-- The lists as they are made anew: those before list h, and j nodes of that one. -/
def outL (Ls : List (List Nat)) (h j : Nat) : List (List Nat) := (List.range Ls.length).map (fun k => if k < h then Ls.getD k [] else if k = h then (Ls.getD h []).take j else [])
theorem outL_length (Ls : List (List Nat)) (h j : Nat) : (outL Ls h j).length = Ls.length := by simp [outL]
theorem outL_get {Ls : List (List Nat)} {h j k : Nat} (hk : k < Ls.length) : (outL Ls h j)[k]? = some (if k < h then Ls.getD k [] else if k = h then (Ls.getD h []).take j else []) := by
  unfold outL; rw [List.getElem?_map, List.getElem?_range hk]; rfl
theorem getD_some {Ls : List (List Nat)} {h : Nat} {l : List Nat} (hl : Ls[h]? = some l) : Ls.getD h [] = l := by rw [List.getD_eq_getElem?_getD, hl]; rfl
theorem outL_zero (Ls : List (List Nat)) : outL Ls 0 0 = List.replicate Ls.length [] := by
  refine List.ext_getElem? (fun k => ?_)
  rw [List.getElem?_replicate]
  by_cases hk : k < Ls.length
  · rw [outL_get hk, if_pos hk, if_neg (by omega)]
    split <;> simp
  · rw [if_neg hk, List.getElem?_eq_none (by rw [outL_length]; omega)]
theorem outL_all (Ls : List (List Nat)) (j : Nat) : outL Ls Ls.length j = Ls := by
  refine List.ext_getElem? (fun k => ?_)
  by_cases hk : k < Ls.length
  · rw [outL_get hk, if_pos hk, List.getD_eq_getElem?_getD, List.getElem?_eq_getElem hk]; rfl
  · rw [List.getElem?_eq_none (by rw [outL_length]; omega), List.getElem?_eq_none (by omega)]
theorem outL_next {Ls : List (List Nat)} {h : Nat} {l : List Nat} (hl : Ls[h]? = some l) : outL Ls h l.length = outL Ls (h + 1) 0 := by
  refine List.ext_getElem? (fun k => ?_)
  by_cases hk : k < Ls.length
  · rw [outL_get hk, outL_get hk, getD_some hl, List.take_length]
    congr 1
    by_cases c1 : k < h
    · rw [if_pos c1, if_pos (by omega)]
    · rw [if_neg c1]
      by_cases c2 : k = h
      · subst c2; rw [if_pos rfl, if_pos (by omega), getD_some hl]
      · rw [if_neg c2, if_neg (by omega)]
        split <;> simp
  · rw [List.getElem?_eq_none (by rw [outL_length]; omega), List.getElem?_eq_none (by rw [outL_length]; omega)]
theorem outL_at {Ls : List (List Nat)} {h j : Nat} {l : List Nat} (hl : Ls[h]? = some l) : (outL Ls h j)[h]? = some (l.take j) := by
  rw [outL_get (List.getElem?_eq_some_iff.1 hl).1, if_neg (by omega), if_pos rfl, getD_some hl]
theorem outL_step {Ls : List (List Nat)} {h j n : Nat} {l : List Nat} (hl : Ls[h]? = some l) (hn : l[j]? = some n) : (outL Ls h j).set h (l.take j ++ [n]) = outL Ls h (j + 1) := by
  have hh := (List.getElem?_eq_some_iff.1 hl).1
  refine List.ext_getElem? (fun k => ?_)
  by_cases hk : k < Ls.length
  · rw [outL_get hk]
    by_cases e : h = k
    · subst e
      rw [List.getElem?_set_self (by rw [outL_length]; exact hk), if_neg (by omega), if_pos rfl, getD_some hl, List.take_add_one, hn]
      rfl
    · rw [List.getElem?_set_ne e, outL_get hk]
      simp only [if_neg (fun c : k = h => e c.symm)]
  · rw [List.getElem?_eq_none (by rw [List.length_set, outL_length]; omega), List.getElem?_eq_none (by rw [outL_length]; omega)]
theorem outL_free {N : Nat} {Ls : List (List Nat)} {F : List Nd} (ok : LkOk N Ls F) {h j n : Nat} {l : List Nat} (hl : Ls[h]? = some l) (hn : l[j]? = some n) : ¬ inL (outL Ls h j) n := by
  rintro ⟨k, m, hm, hmem⟩
  have hnl := List.mem_of_getElem? hn
  have hk : k < Ls.length := by have := (List.getElem?_eq_some_iff.1 hm).1; rwa [outL_length] at this
  rw [outL_get hk] at hm
  injection hm with hm
  have h1 := (ok.own h l hl n hnl).2
  by_cases c1 : k < h
  · rw [if_pos c1] at hm
    have hLk : Ls[k]? = some m := by rw [← hm, List.getD_eq_getElem?_getD, List.getElem?_eq_getElem hk]; rfl
    have := (ok.own k m hLk n hmem).2
    omega
  · rw [if_neg c1] at hm
    by_cases c2 : k = h
    · rw [if_pos c2, getD_some hl] at hm
      rw [← hm] at hmem
      obtain ⟨i, hi⟩ := List.getElem?_of_mem hmem
      rw [List.getElem?_take] at hi
      split at hi
      · have hnd := ok.nodup h l hl
        have := (List.getElem?_inj (List.getElem?_eq_some_iff.1 hi).1 hnd (j := j)).1 (hi.trans hn.symm)
        omega
      · cases hi
    · rw [if_neg c2] at hm
      rw [← hm] at hmem
      cases hmem
theorem read_num {W : World} {a : Option Addr} {n c : Nat} {xs : List Nat} (h : ReadAt W (.slice a n c) 1 (nums xs)) {j y : Nat} (hy : xs[j]? = some y) : ∃ ad, a = some ad ∧ W.cell? (ad.add j) = some (.int .u32 y) := by
  obtain ⟨a', n', c', e, hl, _, h0, hc⟩ := h
  cases e
  have hu : (nums xs)[j]? = some (.int .u32 y) := by unfold nums; rw [List.getElem?_map, hy]; rfl
  cases a with
  | none =>
    have h1 := h0 rfl
    have h2 := (List.getElem?_eq_some_iff.1 hu).1
    omega
  | some ad => exact ⟨ad, rfl, hc ad rfl j _ hu⟩
theorem num_read {W : World} {a : Option Addr} {c : Nat} {xs : List Nat} (h : NumRow W a c xs) : ReadAt W (.slice a xs.length c) 1 (nums xs) := ReadAt.of_owns h (nums_one xs)
theorem fin3 {X : World} {b : Nat} {u0 u1 u2 v0 v1 v2 : Value} {T : TypeId} (h : X.heap[b]? = some (.cells #[u0, u1, u2] T (0, 0))) :
    (((X.setCell ⟨b, 0, none⟩ v0).setCell ⟨b, 1, none⟩ v1).setCell ⟨b, 2, none⟩ v2).heap[b]? = some (.cells #[v0, v1, v2] T (0, 0)) := by
  have h1 := heap_setCell_same X b 0 _ T v0 h
  have h2 := heap_setCell_same _ b 1 _ T v1 h1
  have h3 := heap_setCell_same _ b 2 _ T v2 h2
  simpa using h3
section
variable {w w' : World} {p N : Nat} {Ls : List (List Nat)} {D : Nat → Prop}
theorem LkAt.lenH (h : LkAt w D p N Ls) : Ls.length ≤ 4096 ∧ N ≤ 4194304 ∧ 1 ≤ N := by obtain ⟨gF, gL, cF, cL, F, h1, h2⟩ := h; exact ⟨h1.hm, h1.nm, h1.n1⟩
set_option maxHeartbeats 2000000 in
theorem lrenum_ok (h : LkAt w D p N Ls) (hH : 1 ≤ Ls.length) (a : Option Addr) (c : Nat) (hto : ReadAt w (.slice a N c) 1 (nums (List.range N))) {M : Nat} (hNM : N ≤ M) (hM : M ≤ 4194304) :
    Calls Tryz.prog 110 #[lkP p, .slice a N c, .int .i64 M] w fun e w' => e = .returned (.int .i64 0) ∧ (∃ D', LkAt w' D' p M Ls ∧ ∀ k, D' k → k = p ∨ w.heap.size ≤ k) ∧ Mod (fun k => k = p) w w' := by
  obtain ⟨h4, h5, h6⟩ := h.lenH
  have HAt := Lib.hid h
  obtain ⟨gF, gL, cF, cL, F, hm, hD⟩ := h
  have HOK := Lib.hid hm.ok
  have HTO := Lib.hid hto
  have HN := Lib.hid (lnone_ok hm)
  obtain ⟨H, hHe⟩ : ∃ H, Ls.length = H := ⟨_, rfl⟩
  have HNe := Lib.hid (lnew_ok w (N := M) (H := H) (by omega) hM (by omega) (by omega))
  have hb := hm.box
  obtain ⟨FL, hFL⟩ : ∃ FL, F.length = FL := ⟨_, rfl⟩
  rw [hHe, hFL] at hb
  rw [hHe] at h4 hH
  have HB := Lib.hid hb; have HHe := Lib.hid hHe
  clear hm hD hFL hto hHe
  have wH : IntKind.i64.wrap (H : Int) = H := IntWalk.i64_in _ (by omega)
  have wN : IntKind.i64.wrap (N : Int) = N := IntWalk.i64_in _ (by omega)
  have hb_0 := cell_of_row _ _ 0 _ _ _ hb; have hb_1 := cell_of_row _ _ 1 _ _ _ hb; have hb_2 := cell_of_row _ _ 2 _ _ _ hb; have hb_f := (fun j => frozen_of_row _ _ j _ _ hb); have hb_l := lt_of_block hb; simp at hb_0 hb_1 hb_2; have H_hb := Lib.hid hb; clear hb
  go_enter Tryz.func110, Tryz.ntmps110
  go_upto_region 4 with (first
    | (go_at_call 113; refine Calls.mono HN.out ?_; rintro e w' ⟨rfl, rfl⟩)
    | (go_at_call 63; refine Calls.mono HNe.out ?_; rintro e w1 ⟨q, D2, rfl, hq, hp1, hf1⟩))
  have hb1 := hp1.heap (fun h => h) HB.out
  have HQ := Lib.hid hq; have HP1 := Lib.hid hp1; have HF1 := Lib.hid hf1
  clear hb_0 hb_1 hb_2 hb_f hb_l
  clear H_hb hq hp1 hf1
  have HB1 := Lib.hid hb1
  have hb1_0 := cell_of_row _ _ 0 _ _ _ hb1; have hb1_1 := cell_of_row _ _ 1 _ _ _ hb1; have hb1_2 := cell_of_row _ _ 2 _ _ _ hb1; have hb1_f := (fun j => frozen_of_row _ _ j _ _ hb1); have hb1_l := lt_of_block hb1; simp at hb1_0 hb1_1 hb1_2; have H_hb1 := Lib.hid hb1; clear hb1
  go_upto_region 7 with fail
  clear hb1_0 hb1_1 hb1_2 hb1_f hb1_l
  clear H_hb1
  go_loopw [40] (fun v wr => ∃ i, v = .int .i64 (i : Nat) ∧ i ≤ H ∧ LkAt wr D2 q M (outL Ls i 0) ∧ Pure w wr) (fun v _ => H - (intOf v).toNat)
  case atStart => exact ⟨0, rfl, Nat.zero_le _, by rw [outL_zero, HHe.out]; exact HQ.out, HP1.out⟩
  case round =>
    clear HQ HP1 HB1
    obtain ⟨i, rfl, hi, hq, hpw⟩ := hrel
    have HQ := Lib.hid hq; have HPW := Lib.hid hpw
    clear hq hpw
    by_cases hlt : i < H
    · have hlt' : (i : Int) < (H : Int) := by omega
      have i0 : (0 : Int) ≤ (i : Int) := by omega
      have wi : IntKind.i64.wrap ((i : Int) + 1) = (i : Int) + 1 := IntWalk.i64_in _ (by omega)
      obtain ⟨l, hl⟩ : ∃ l, Ls[i]? = some l := ⟨_, List.getElem?_eq_getElem (by rw [HHe.out]; exact hlt)⟩
      have HL := Lib.hid hl
      have HAl := Lib.hid (lall_ok (HAt.out.pure HPW.out) hl)
      have hll : l.length ≤ N := HOK.out.short hl
      obtain ⟨n, hn⟩ : ∃ n, l.length = n := ⟨_, rfl⟩
      rw [hn] at HAl hll
      have HLN := Lib.hid hn
      clear hl hn
      go_upto_region 10 with (go_at_call 100; refine Calls.mono HAl.out ?_; rintro e w3 ⟨a3, c3, rfl, hrow, hfr, hp3⟩)
      have hnD : ∀ g, (Value.slice a3 n c3).ownBlock = some g → ¬ D2 g := fun g hg e => by have := hfr g hg; have := HQ.out.lt e; omega
      have HRow := Lib.hid hrow; have HND := Lib.hid hnD
      have HQ3 := Lib.hid (HQ.out.pure hp3); have HP3 := Lib.hid (HPW.out.trans hp3)
      clear hrow hfr hp3 hnD HAl
      have wn : IntKind.i64.wrap (n : Int) = n := IntWalk.i64_in _ (by omega)
      go_loopw [47] (fun v wr => ∃ j, v = .int .i64 (j : Nat) ∧ j ≤ n ∧ LkAt wr D2 q M (outL Ls i j) ∧ Pure w wr ∧ NumRow wr a3 c3 l) (fun v _ => n - (intOf v).toNat)
      case atStart => exact ⟨0, rfl, Nat.zero_le _, HQ3.out, HP3.out, by unfold NumRow; rw [HLN.out]; have := HRow.out; unfold NumRow at this; rw [HLN.out] at this; exact this⟩
      case round =>
        clear HQ HPW HQ3 HP3 HRow
        obtain ⟨j, rfl, hj, hq, hpw, hrow⟩ := hrel
        by_cases hlt2 : j < n
        · have hlt2' : (j : Int) < (n : Int) := by omega
          have j0 : (0 : Int) ≤ (j : Int) := by omega
          have wj : IntKind.i64.wrap ((j : Int) + 1) = (j : Int) + 1 := IntWalk.i64_in _ (by omega)
          obtain ⟨y, hy⟩ : ∃ y, l[j]? = some y := ⟨_, List.getElem?_eq_getElem (by rw [HLN.out]; exact hlt2)⟩
          obtain ⟨ad, had, z0⟩ := read_num (num_read hrow) hy
          have hyN : y < N := (HOK.out.own i l HL.out y (List.mem_of_getElem? hy)).1
          obtain ⟨ad2, had2, z1⟩ := read_num (HTO.out.frame hpw (fun _ _ h => h)) (j := y) (y := y) (by rw [List.getElem?_range hyN])
          have HBk := Lib.hid (lback_ok hq (n := y) (k := i) (l := l.take j) (by omega) (outL_at HL.out) (outL_free HOK.out HL.out hy))
          rw [outL_step HL.out hy] at HBk
          have dy : decide (y < N) = true := decide_eq_true hyN
          have hyb : y ≤ 4294967295 := by omega
          have HPW := Lib.hid hpw; have HRow := Lib.hid hrow; have HQl := Lib.hid hq
          subst had had2
          clear hy hq hpw hrow
          go_wp2_with (go_at_call 103; refine Calls.mono HBk.out ?_; rintro e w5 ⟨rfl, hq5, hm5⟩)
          go_roundw
          case rel => exact ⟨j + 1, by go_num, hlt2, hq5, HPW.out.then hm5 (fun k hk e => by have := HF1.out k e; omega), owns_mod HRow.out hm5 (by rw [HLN.out]; exact HND.out)⟩
          case measure => simp [intOf]; omega
        · have e : n = j := by omega
          subst e
          have HQf : Hid (LkAt wr D2 q M (outL Ls (i + 1) 0)) := Lib.hid (by rw [← outL_next HL.out, HLN.out]; exact hq)
          have HPW := Lib.hid hpw
          clear hq hpw hrow hj hlt2
          go_wp2
          go_roundw
          case rel => exact ⟨i + 1, by go_num, hlt, HQf.out, HPW.out⟩
          case measure => simp [intOf]; omega
    · have e : H = i := by omega
      subst e
      have hq := HQ.out
      rw [← HHe.out, outL_all] at hq
      obtain ⟨gF2, gL2, cF2, cL2, F2, hm2, hD2⟩ := hq
      have hb := HPW.out.heap (fun h => h) HB.out
      have hb2 := hm2.box
      rw [HHe.out] at hb2
      have hqp : q ≠ p := by
        have h1 := HF1.out q ((hD2 q).2 (.inl rfl))
        have h2 := lt_of_block HB.out
        omega
      have HM2 := Lib.hid hm2; have HD2 := Lib.hid hD2
      obtain ⟨FL2, hFL2⟩ : ∃ FL, F2.length = FL := ⟨_, rfl⟩
      rw [hFL2] at hb2
      have HFL2 := Lib.hid hFL2
      have hfin : ((wr.setCell ⟨p, 0, none⟩ (.slice (some ⟨gF2, 0, none⟩) FL2 cF2)).setCell ⟨p, 1, none⟩ (.int .i64 M)).setCell ⟨p, 2, none⟩ (.slice (some ⟨gL2, 0, none⟩) H cL2) = ((wr.setCell ⟨p, 0, none⟩ (.slice (some ⟨gF2, 0, none⟩) FL2 cF2)).setCell ⟨p, 1, none⟩ (.int .i64 M)).setCell ⟨p, 2, none⟩ (.slice (some ⟨gL2, 0, none⟩) H cL2) := rfl
      have HBr := Lib.hid hb
      clear hm2 hD2 hFL2 hfin hi hlt
      have hb_0 := cell_of_row _ _ 0 _ _ _ hb; have hb_1 := cell_of_row _ _ 1 _ _ _ hb; have hb_2 := cell_of_row _ _ 2 _ _ _ hb; have hb_f := (fun j => frozen_of_row _ _ j _ _ hb); have hb_l := lt_of_block hb; simp at hb_0 hb_1 hb_2; have H_hb := Lib.hid hb; clear hb
      have hb2_0 := cell_of_row _ _ 0 _ _ _ hb2; have hb2_1 := cell_of_row _ _ 1 _ _ _ hb2; have hb2_2 := cell_of_row _ _ 2 _ _ _ hb2; have hb2_f := (fun j => frozen_of_row _ _ j _ _ hb2); have hb2_l := lt_of_block hb2; simp at hb2_0 hb2_1 hb2_2; have H_hb2 := Lib.hid hb2; clear hb2
      go_wp2
      have hm := (((Mod.refl (fun k => k = p) wr).setCell (p := ⟨p, 0, none⟩) (fun _ => rfl) (.slice (some ⟨gF2, 0, none⟩) FL2 cF2)).setCell (p := ⟨p, 1, none⟩) (fun _ => rfl) (.int .i64 M)).setCell (p := ⟨p, 2, none⟩) (fun _ => rfl) (.slice (some ⟨gL2, 0, none⟩) H cL2)
      have hbx := fin3 (v0 := .slice (some ⟨gF2, 0, none⟩) FL2 cF2) (v1 := .int .i64 M) (v2 := .slice (some ⟨gL2, 0, none⟩) H cL2) HBr.out
      have hpp : p < w.heap.size := lt_of_block HB.out
      have h1 := HF1.out gF2 ((HD2.out gF2).2 (.inr (.inl rfl)))
      have h2 := HF1.out gL2 ((HD2.out gL2).2 (.inr (.inr rfl)))
      go_ret
      refine ⟨rfl, ⟨fun k => k = p ∨ k = gF2 ∨ k = gL2, ⟨gF2, gL2, cF2, cL2, F2, ⟨?_, hm.heap (fun e => by omega) HM2.out.fld, hm.heap (fun e => by omega) HM2.out.len, HM2.out.ok, HM2.out.n1, HM2.out.nm, HM2.out.hm⟩, fun k => Iff.rfl⟩, fun k hk => ?_⟩, (Mod.of_pure HPW.out).trans hm⟩
      · rw [HFL2.out, HHe.out]; exact hbx
      · rcases hk with rfl | rfl | rfl
        · exact .inl rfl
        · exact .inr h1
        · exact .inr h2
end
end Go.Proofs.YtlalpenfgkfkpaaGreatDoor

/- wheel: New, check, room, Put. Conditions: the level lies in memory. -/
namespace Go.Proofs.YtlalpenfgkfkpaaGreatDoor
open Go.RowKit
set_option maxRecDepth 100000
def neB (Ls : List (List Nat)) (b : Nat) : Bool := match Ls[b]? with
  | some (_ :: _) => true
  | _ => false
theorem neB_set {Ls : List (List Nat)} {b : Nat} (hb : b < Ls.length) (l : List Nat) : neB (Ls.set b l) = setB (neB Ls) b (!l.isEmpty) := by
  funext x
  unfold neB setB
  by_cases e : b = x
  · subst e
    rw [List.getElem?_set_self hb, if_pos rfl]
    cases l <;> rfl
  · rw [List.getElem?_set_ne e, if_neg (fun c => e c.symm)]
theorem neB_new (H : Nat) : neB (List.replicate H []) = fun _ => false := by
  funext x
  unfold neB
  rw [List.getElem?_replicate]
  split
  · rename_i h; split at h <;> cases h
  · rfl
theorem setB_same {f : Nat → Bool} {b : Nat} {v : Bool} (h : f b = v) : setB f b v = f := by
  funext x
  unfold setB
  split
  · rename_i e; rw [e, h]
  · rfl
/-- A level of buckets: block p, its own blocks D. -/
def WhAt (w : World) (D : Nat → Prop) (p : Nat) (Ls : List (List Nat)) : Prop :=
  ∃ q many N Dl, w.heap[p]? = some (.cells (whC q (neB Ls) many) 112 (0, 0)) ∧ LkAt w Dl q N Ls ∧ Ls.length = 256 ∧ ∀ k, D k ↔ (k = p ∨ Dl k)
theorem LkAt.types {w : World} {D : Nat → Prop} {p N : Nat} {Ls : List (List Nat)} (h : LkAt w D p N Ls) {k : Nat} (hk : D k) {cs : Array Value} {T : TypeId} {fz : Nat × Nat} (e : w.heap[k]? = some (.cells cs T fz)) : T = 140 ∨ T = 144 ∨ T = 3 := by
  obtain ⟨gF, gL, cF, cL, F, h1, h2⟩ := h
  rcases (h2 k).1 hk with rfl | rfl | rfl
  · have := e.symm.trans h1.box; injection this with this; injection this with _ this; exact .inl this
  · have := e.symm.trans h1.fld; injection this with this; injection this with _ this; exact .inr (.inl this)
  · have := e.symm.trans h1.len; injection this with this; injection this with _ this; exact .inr (.inr this)
section
variable {w w' : World} {D S : Nat → Prop} {p : Nat} {Ls : List (List Nat)}
theorem WhAt.frame (h : WhAt w D p Ls) (hm : Mod S w w') (hd : ∀ k, D k → ¬ S k) : WhAt w' D p Ls := by
  obtain ⟨q, many, N, Dl, h1, h2, h3, h4⟩ := h
  exact ⟨q, many, N, Dl, hm.heap (hd p ((h4 p).2 (.inl rfl))) h1, h2.frame hm (fun k hk => hd k ((h4 k).2 (.inr hk))), h3, h4⟩
theorem WhAt.pure (h : WhAt w D p Ls) (hm : Pure w w') : WhAt w' D p Ls := h.frame hm (fun _ _ h => h)
theorem WhAt.lt (h : WhAt w D p Ls) {k : Nat} (hk : D k) : k < w.heap.size := by
  obtain ⟨q, many, N, Dl, h1, h2, h3, h4⟩ := h
  rcases (h4 k).1 hk with rfl | e
  · exact lt_of_block h1
  · exact h2.lt e
theorem WhAt.self (h : WhAt w D p Ls) : D p := by obtain ⟨q, many, N, Dl, h1, h2, h3, h4⟩ := h; exact (h4 p).2 (.inl rfl)
theorem WhAt.len (h : WhAt w D p Ls) : Ls.length = 256 := by obtain ⟨q, many, N, Dl, h1, h2, h3, h4⟩ := h; exact h3
theorem box_not {q : Nat} {f : Nat → Bool} {many : Int} (h : w.heap[p]? = some (.cells (whC q f many) 112 (0, 0))) {Dl : Nat → Prop} {q' N : Nat} (hl : LkAt w Dl q' N Ls) : ¬ Dl p := fun hd => by
  rcases hl.types hd h with e | e | e <;> exact absurd e (by decide)
theorem wh_cells {q : Nat} {f : Nat → Bool} {many : Int} (h : w.heap[p]? = some (.cells (whC q f many) 112 (0, 0))) :
    w.cell? ⟨p, 0, none⟩ = some (.pointer (some ⟨q, 0, none⟩)) ∧ w.cell? ⟨p, 5, none⟩ = some (.int .i64 many) ∧ (∀ i, w.frozen? ⟨p, i, none⟩ = false) ∧ p < w.heap.size :=
  ⟨cell_of_row w p 0 _ _ (0, 0) h, cell_of_row w p 5 _ _ (0, 0) h, fun i => frozen_of_row w p i _ _ h, lt_of_block h⟩
theorem wh_many {q : Nat} {f : Nat → Bool} {many : Int} (h : w.heap[p]? = some (.cells (whC q f many) 112 (0, 0))) (m2 : Int) : (w.setCell ⟨p, 5, none⟩ (.int .i64 m2)).heap[p]? = some (.cells (whC q f m2) 112 (0, 0)) := by
  have arr : ∀ (a x0 x1 x2 x3 y z : Value), (#[a, x0, x1, x2, x3, z] : Array Value).setIfInBounds 5 y = #[a, x0, x1, x2, x3, y] := fun _ _ _ _ _ _ _ => rfl
  have := heap_setCell_same w p 5 _ _ (.int .i64 m2) h
  unfold whC at this ⊢
  rw [arr] at this
  exact this
theorem wcheck_ok (h : WhAt w D p Ls) {s : Nat} (hs : s < 4194304) {b : Int} (hb0 : 0 ≤ b) (hb : b < 256) : Calls Tryz.prog 81 #[lkP p, .int .u32 s, .int .i64 b] w fun e w' => e = .returned (.int .i64 0) ∧ w = w' := by
  obtain ⟨q, many, N, Dl, h1, h2, h3, h4⟩ := h
  obtain ⟨c0, _, _, _⟩ := wh_cells h1
  clear h1 h2 h3 h4
  have d1 : decide ((4194304 : Int) ≤ (s : Int)) = false := decide_eq_false (by omega)
  have d1n : decide (4194304 ≤ s) = false := decide_eq_false (by omega)
  have d2 : decide (b < 0) = false := decide_eq_false (by omega)
  have d3 : decide ((256 : Int) ≤ b) = false := decide_eq_false (by omega)
  go_enter Tryz.func81, Tryz.ntmps81
  go_wp2
  go_ret
  exact ⟨rfl, rfl⟩
theorem wnew_ok (w : World) : Calls Tryz.prog 41 #[] w fun e w' => ∃ p D, e = .returned (lkP p) ∧ WhAt w' D p (List.replicate 256 []) ∧ Pure w w' ∧ ∀ k, D k → w.heap.size ≤ k := by
  have HN := Lib.hid (lnew_ok w (N := 8) (H := 256) (by omega) (by omega) (by omega) (by omega))
  have hwd : ∀ k, wd64 (fun _ => false) k = 0 := fun k => wd_zero.2 (fun _ _ => rfl)
  have HWD := Lib.hid hwd
  clear hwd
  go_enter Tryz.func41, Tryz.ntmps41
  go_wp2_with (go_at_call 63; refine Calls.mono HN.out ?_; rintro e w1 ⟨q, D, rfl, hl, hp, hf⟩)
  go_ret
  have hal : Pure w1 (w1.alloc (.cells #[.pointer (some ⟨q, 0, none⟩), .int .u64 0, .int .u64 0, .int .u64 0, .int .u64 0, .int .i64 0] 112)) := (Mod.refl _ w1).alloc _
  have hbx := heap_new (w := w1) (o := .cells #[.pointer (some ⟨q, 0, none⟩), .int .u64 0, .int .u64 0, .int .u64 0, .int .u64 0, .int .i64 0] 112 (0, 0)) rfl
  refine ⟨w1.heap.size, fun k => k = w1.heap.size ∨ D k, rfl, ⟨q, 0, 8, D, ?_, hl.pure hal, List.length_replicate, fun k => Iff.rfl⟩, hp.trans hal, fun k hk => ?_⟩
  · unfold whC
    rw [neB_new, HWD.out, HWD.out, HWD.out, HWD.out]
    exact hbx
  · rcases hk with rfl | hk
    · exact hp.size
    · exact hf k hk
end
end Go.Proofs.YtlalpenfgkfkpaaGreatDoor

/- wheel: room, Put. Conditions: the level lies in memory. -/
namespace Go.Proofs.YtlalpenfgkfkpaaGreatDoor
open Go.RowKit
set_option maxRecDepth 100000
/-- The first i numbers, and noughts behind them. -/
def idsL (n i : Nat) : List Nat := (List.range n).map (fun j => if j < i then j else 0)
theorem idsL_length (n i : Nat) : (idsL n i).length = n := by simp [idsL]
theorem idsL_all (n : Nat) : idsL n n = List.range n := by
  unfold idsL
  refine List.ext_getElem? (fun j => ?_)
  rw [List.getElem?_map]
  by_cases hj : j < n
  · rw [List.getElem?_range hj]; simp [hj]
  · rw [List.getElem?_eq_none (by simpa using hj)]; rfl
theorem idsL_step {n i : Nat} (hi : i < n) : (nums (idsL n i)).set i (.int .u32 (i : Nat)) = nums (idsL n (i + 1)) := by
  unfold nums idsL
  refine List.ext_getElem? (fun j => ?_)
  by_cases e : i = j
  · subst e
    rw [List.getElem?_set_self (by simpa using hi)]
    simp [List.getElem?_range hi]
  · rw [List.getElem?_set_ne e, List.getElem?_map, List.getElem?_map, List.getElem?_map, List.getElem?_map]
    by_cases hj : j < n
    · rw [List.getElem?_range hj]
      have : (j < i) = (j < i + 1) := by rw [eq_iff_iff]; omega
      simp [this]
    · rw [List.getElem?_eq_none (by simpa using hj)]; rfl
theorem made_nums (m : Nat) : madeCells (Value.int .u32 0).cells (m * 1) = (nums (idsL m 0)).toArray := by
  rw [show (Value.int .u32 0).cells = #[.int .u32 0] from rfl]
  apply Array.ext_getElem?
  intro k
  unfold madeCells nums idsL
  rw [Array.getElem?_map, show ((((List.range m).map (fun j => if j < 0 then j else 0)).map (fun x : Nat => (Value.int .u32 x))).toArray)[k]? = (((List.range m).map (fun j => if j < 0 then j else 0)).map (fun x : Nat => (Value.int .u32 x)))[k]? from List.getElem?_toArray, Nat.mul_one]
  rw [List.getElem?_map, List.getElem?_map]
  by_cases hk : k < m
  · rw [Array.getElem?_range, if_pos hk, List.getElem?_range hk]
    show some (#[Value.int .u32 0][k % 1]!) = _
    rw [Nat.mod_one]; rfl
  · rw [Array.getElem?_range, if_neg hk, List.getElem?_eq_none (by simpa using hk)]; rfl
section
variable {w w' : World} {D : Nat → Prop} {p : Nat} {Ls : List (List Nat)}
set_option maxHeartbeats 1000000 in
/-- room: the field has a node for the slot behind it. -/
theorem wroom_ok {q N : Nat} {many : Int} {Dl : Nat → Prop} (hb : w.heap[p]? = some (.cells (whC q (neB Ls) many) 112 (0, 0))) (hl : LkAt w Dl q N Ls) (h256 : Ls.length = 256) {s : Nat} (hs : s < 4194304) :
    Calls Tryz.prog 102 #[lkP p, .int .u32 s] w fun e w' => e = .returned (.tuple #[]) ∧ ∃ N' Dl', LkAt w' Dl' q N' Ls ∧ s < N' ∧ Mod Dl w w' ∧ ∀ k, Dl' k → Dl k ∨ w.heap.size ≤ k := by
  obtain ⟨c0, _, _, hlt⟩ := wh_cells hb
  obtain ⟨l4, l5, l6⟩ := hl.lenH
  have HNo := Lib.hid (lnodes_ok hl)
  have HL := Lib.hid hl
  have HNB : Hid (¬ Dl p) := Lib.hid (box_not hb hl)
  have HB := Lib.hid hb
  clear hb hl l4
  have wn : IntKind.i64.wrap (s : Int) = (s : Int) := IntWalk.i64_in _ (by omega)
  by_cases c : s < N
  · have d1 : decide ((s : Int) < (N : Int)) = true := decide_eq_true (by omega)
    have d1n : decide (s < N) = true := decide_eq_true c
    go_enter Tryz.func102, Tryz.ntmps102
    go_wp2_with (go_at_call 109; refine Calls.mono HNo.out ?_; rintro e w' ⟨rfl, rfl⟩)
    exact bodyPost_ret (results_none rfl _ _ _) rfl ⟨rfl, N, Dl, HL.out, c, Mod.refl _ _, fun k hk => .inl hk⟩
  · have d1 : decide ((s : Int) < (N : Int)) = false := decide_eq_false (by omega)
    have d1n : decide (s < N) = false := decide_eq_false c
    obtain ⟨i0, hi, iz0, iz1, iz2⟩ := info_parts info_n32
    have hmk : ∀ W : World, (Instr.makeSlice 36 (.int .i64 (N : Int)) (.int .i64 (N : Int))).run Tryz.prog W = .ok (.slice (some ⟨W.heap.size, 0, none⟩) N N) (W.alloc (.cells (nums (idsL N 0)).toArray 33)) := fun W => by
      have := run_make W 36 33 i0 _ Tryz.underlying36 hi iz0 .i64 .i64 (N : Int) (N : Int) (by omega) (Int.le_refl _) (by rw [iz2]; omega) (by omega)
      rw [iz1, show ((N : Int)).toNat = N by omega, made_nums] at this
      exact this
    clear hi iz0 iz1 iz2
    go_enter Tryz.func102, Tryz.ntmps102
    go_upto_region 4 with (go_at_call 109; refine Calls.mono HNo.out ?_; rintro e w' ⟨rfl, rfl⟩)
    have hal : Pure w (w.alloc (.cells (nums (idsL N 0)).toArray 33)) := (Mod.refl _ w).alloc _
    have hr0 := heap_new (w := w) (o := .cells (nums (idsL N 0)).toArray 33 (0, 0)) rfl
    have HAL := Lib.hid hal; have HR0 := Lib.hid hr0
    clear hal hr0 hmk
    generalize w.alloc (.cells (nums (idsL N 0)).toArray 33) = W1 at *
    obtain ⟨g, hg⟩ : ∃ g, w.heap.size = g := ⟨_, rfl⟩
    rw [hg] at HR0 ⊢
    have HG := Lib.hid hg
    clear hg
    have hN0 : 1 ≤ N := l6
    go_loopw [20] (fun v wr => ∃ i, v = .int .i64 (i : Nat) ∧ i ≤ N ∧ Pure w wr ∧ wr.heap[g]? = some (.cells (nums (idsL N i)).toArray 33 (0, 0))) (fun v _ => N - (intOf v).toNat)
    case atStart => exact ⟨0, rfl, Nat.zero_le _, HAL.out, HR0.out⟩
    case round =>
      clear HAL HR0
      obtain ⟨i, rfl, hi, hpu, hrw⟩ := hrel
      have HPU := Lib.hid hpu; have HRW := Lib.hid hrw
      clear hpu hrw
      by_cases hlt2 : i < N
      · have hlt' : (i : Int) < (N : Int) := by omega
        have i0 : (0 : Int) ≤ (i : Int) := by omega
        have wi : IntKind.i64.wrap ((i : Int) + 1) = (i : Int) + 1 := IntWalk.i64_in _ (by omega)
        have wu : IntKind.u32.wrap (i : Int) = (i : Int) := u32_of i (by omega)
        have q0 : ∃ v, wr.cell? ⟨g, i, none⟩ = some v := by
          rw [cell_of_row wr g i _ _ (0, 0) HRW.out, List.getElem?_toArray, List.getElem?_eq_getElem (by rw [nums_length, idsL_length]; exact hlt2)]
          exact ⟨_, rfl⟩
        obtain ⟨v0, q0⟩ := q0
        have g0 := frozen_of_row wr g i _ _ HRW.out
        have hX : g < wr.heap.size := lt_of_block HRW.out
        have di : decide (i < N) = true := decide_eq_true hlt2
        have e1 := heap_setCell_same wr g i _ _ (.int .u32 (i : Nat)) HRW.out
        rw [List.setIfInBounds_toArray, idsL_step hlt2] at e1
        have HE1 := Lib.hid e1
        clear e1
        go_wp2
        go_roundw
        case rel => exact ⟨i + 1, by go_num, hlt2, HPU.out.then ((Mod.refl (fun k => k = g) wr).setCell (p := ⟨g, i, none⟩) (fun _ => rfl) _) (fun k hk e => by have := HG.out; omega), HE1.out⟩
        case measure => simp [intOf]; omega
      · have e : N = i := by omega
        subst e
        have hrd : ReadAt wr (.slice (some ⟨g, 0, none⟩) N N) 1 (nums (List.range N)) := by
          have := ReadAt.of_block (w := wr) N N 1 HRW.out (by simp [nums_length, idsL_length]) (by simpa using nums_one (idsL N N))
          simpa [idsL_all] using this
        have hren : ∀ M : Int, (N : Int) ≤ M → M ≤ 4194304 → (s : Int) < M → Calls Tryz.prog 110 #[lkP q, .slice (some ⟨g, 0, none⟩) N N, .int .i64 M] wr fun e w' => e = .returned (.int .i64 0) ∧ ∃ N' Dl', LkAt w' Dl' q N' Ls ∧ s < N' ∧ Mod Dl w w' ∧ ∀ k, Dl' k → Dl k ∨ w.heap.size ≤ k := fun M h1 h2 h3 => by
          obtain ⟨M, rfl⟩ := Int.eq_ofNat_of_zero_le (show 0 ≤ M by omega)
          refine (lrenum_ok (HL.out.pure HPU.out) (by omega) (some ⟨g, 0, none⟩) N hrd (M := M) (by omega) (by omega)).mono ?_
          rintro e w' ⟨he, ⟨D', g1, g2⟩, g3⟩
          have hq := HL.out.self
          refine ⟨he, M, D', g1, by omega, (Mod.of_pure HPU.out).trans (g3.mono (fun k _ hk => by rw [hk]; exact hq)), fun k hk => ?_⟩
          rcases g2 k hk with e | e
          · exact .inl (by rw [e]; exact hq)
          · exact .inr (Nat.le_trans HPU.out.size e)
        have HRen := Lib.hid hren
        clear hren
        have c0 := HPU.out.cell (fun h => h) c0
        have hlt2 := HPU.out.lt hlt
        have w2 : IntKind.i64.wrap (2 * (N : Int)) = 2 * (N : Int) := IntWalk.i64_in _ (by omega)
        have w3 : IntKind.i64.wrap ((s : Int) + 1) = (s : Int) + 1 := IntWalk.i64_in _ (by omega)
        clear hrd hi
        go_wp2_with fail
        all_goals
          refine Calls.mono (HRen.out _ (by omega) (by omega) (by omega)) ?_
          rintro e w5 ⟨rfl, N', Dl', q1, q2, q3, q4⟩
          go_wp2
          go_end0
          exact ⟨rfl, N', Dl', q1, q2, q3, q4⟩
end
end Go.Proofs.YtlalpenfgkfkpaaGreatDoor

/- links: Remove. Conditions: the field lies in memory, the node is in a list. -/
namespace Go.Proofs.YtlalpenfgkfkpaaGreatDoor
open Go.RowKit
set_option maxRecDepth 100000
theorem fld_cut2 {w : World} {gF : Nat} {F : List Nd} {T : TypeId} {n a b : Nat} (ha : (nd F n).pv = a) (hb : (nd F n).nx = b) (h : w.heap[gF]? = some (.cells (fldC F).toArray T (0, 0))) (haF : a < F.length) (hbF : b < F.length) :
    ((w.setCell ⟨gF, a * 3 + 1, none⟩ (.int .u32 b)).setCell ⟨gF, b * 3, none⟩ (.int .u32 a)).heap[gF]? = some (.cells (fldC ((F.set a ⟨(nd F a).pv, b, (nd F a).ow⟩).set b ⟨a, (nd (F.set a ⟨(nd F a).pv, b, (nd F a).ow⟩) b).nx, (nd (F.set a ⟨(nd F a).pv, b, (nd F a).ow⟩) b).ow⟩)).toArray T (0, 0)) := by
  have h1 := fld_set h (i := a) (j := 1) (u := .int .u32 b) (m := ⟨(nd F a).pv, b, (nd F a).ow⟩) haF (by decide) rfl
  exact fld_set h1 (i := b) (j := 0) (u := .int .u32 a) (by simpa using hbF) (by decide) rfl
def SCut (p b6 : Nat) (v0 v1 u0 u1 : Value) (w' : World) : Prop := w'.cell? ⟨p, 0, none⟩ = some v0 ∧ w'.cell? ⟨p, 2, none⟩ = some v1 ∧ w'.cell? ⟨b6, 0, none⟩ = some u0 ∧ w'.cell? ⟨b6, 1, none⟩ = some u1
theorem SCut.set {p b6 g i : Nat} {v0 v1 u0 u1 v : Value} {X : World} (h : SCut p b6 v0 v1 u0 u1 X) (h1 : g ≠ p) (h2 : g ≠ b6) : SCut p b6 v0 v1 u0 u1 (X.setCell ⟨g, i, none⟩ v) :=
  ⟨cell_set h.1 (.inl h1), cell_set h.2.1 (.inl h1), cell_set h.2.2.1 (.inl h2), cell_set h.2.2.2 (.inl h2)⟩
section
variable {w w' : World} {p gF gL cF cL N : Nat} {Ls : List (List Nat)} {F : List Nd} {D : Nat → Prop}
set_option maxHeartbeats 1000000 in
theorem lrem_mem (h : LkMem w p gF gL cF cL N Ls F) {n k : Nat} {l : List Nat} (hl : Ls[k]? = some l) (hm : n ∈ l) :
    Calls Tryz.prog 90 #[lkP p, .int .u32 n] w fun e w' => e = .returned (.int .i64 0) ∧ LkMem w' p gF gL cF cL N (Ls.set k (l.erase n)) (cutF F n) ∧ Mod (fun b => b = gF ∨ b = gL) w w' := by
  obtain ⟨a1, hn, how, haF, hbF, han, hbn⟩ := h.ok.cut hl hm
  have hk : k < Ls.length := (List.getElem?_eq_some_iff.1 hl).1
  have hk4 : k < 4096 := by have := h.hm; omega
  have hnF : n < F.length := by rw [h.ok.len]; omega
  have h32 : n ≤ 4294967295 := by have := h.nm; omega
  have HI := lin_ok h h32
  have e0 : inE N F n = 0 := by unfold inE; rw [if_pos hn, if_neg (by omega)]
  rw [e0] at HI
  have HI := Lib.hid HI
  have hll : l.length ≤ N := h.ok.short hl
  have hl0 : 0 < l.length := List.length_pos_of_mem hm
  have hnm := h.nm
  have hend : ∀ (w' : World), w'.heap[gF]? = some (.cells (fldC (cutF F n)).toArray 144 (0, 0)) → w'.heap[gL]? = some (.cells ((lensC Ls).set k (.int .i64 ((l.length - 1 : Nat) : Int))).toArray 3 (0, 0)) → Mod (fun b => b = gF ∨ b = gL) w w' → LkMem w' p gF gL cF cL N (Ls.set k (l.erase n)) (cutF F n) := fun w' g1 g2 g3 => by
    obtain ⟨n1, n2, n3⟩ := h.ne
    refine ⟨?_, g1, ?_, a1, h.n1, h.nm, by rw [List.length_set]; exact h.hm⟩
    · rw [cutF_length, List.length_set]; exact g3.heap (fun e => by rcases e with e | e; exact n1 e; exact n2 e) h.box
    · rw [← lensC_set, List.length_erase_of_mem hm]; exact g2
  have HE := Lib.hid hend
  have hFb : F.length ≤ 4198400 := by rw [h.ok.len]; have := h.hm; omega
  obtain ⟨c0, c1, c2⟩ := h.at_ hnF
  rw [how] at c2
  obtain ⟨ne1, ne2, ne3⟩ := h.ne
  have HFL := Lib.hid h.fld; have HLN := Lib.hid h.len
  have HNX := Lib.hid (fun (X : World) (hX : X.heap[gL]? = some (.cells (lensC Ls).toArray 3 (0, 0))) => (show X.cell? ⟨gL, k, none⟩ = some (.int .i64 (l.length : Nat)) by rw [cell_of_row X gL k _ _ (0, 0) hX, List.getElem?_toArray]; exact lensC_get hl))
  have hbx := h.box
  have hp6 : p < w.heap.size := lt_of_block hbx
  have hg6 : gF < w.heap.size := lt_of_block h.fld
  have hL6 : gL < w.heap.size := lt_of_block h.len
  obtain ⟨FL, hFL⟩ : ∃ FL, F.length = FL := ⟨_, rfl⟩
  obtain ⟨a, ha⟩ : ∃ a, (nd F n).pv = a := ⟨_, rfl⟩
  obtain ⟨b, hb⟩ : ∃ b, (nd F n).nx = b := ⟨_, rfl⟩
  rw [ha] at haF han c0
  rw [hb] at hbF hbn c1
  rw [hFL] at hbx hFb hnF haF hbF
  have HBX := Lib.hid hbx
  have HA := Lib.hid ha; have HB := Lib.hid hb; have HFLe := Lib.hid hFL; have HOW := Lib.hid how
  clear h hend hFL a1 hl hm ha hb how e0 hbx
  have hbx := HBX.out
  obtain ⟨kk, hkk⟩ : ∃ kk, k + 1 = kk := ⟨_, rfl⟩
  rw [hkk] at c2 HOW
  have wk : IntKind.u32.wrap ((kk : Int) - 1) = (k : Int) := by rw [← hkk, show ((k + 1 : Nat) : Int) - 1 = (k : Int) by omega]; exact u32_of k (by omega)
  have dn : decide (n < FL) = true := decide_eq_true hnF
  have da : decide (a < FL) = true := decide_eq_true haF
  have db : decide (b < FL) = true := decide_eq_true hbF
  clear hkk
  have hbx_0 := cell_of_row _ _ 0 _ _ _ hbx; have hbx_1 := cell_of_row _ _ 1 _ _ _ hbx; have hbx_2 := cell_of_row _ _ 2 _ _ _ hbx; have hbx_f := (fun j => frozen_of_row _ _ j _ _ hbx); have hbx_l := lt_of_block hbx; simp at hbx_0 hbx_1 hbx_2; have H_hbx := Lib.hid hbx; clear hbx
  go_enter Tryz.func90, Tryz.ntmps90
  go_upto_region 5 with (go_at_call 106; refine Calls.mono HI.out ?_; rintro e w' ⟨rfl, rfl⟩)
  have hal : Pure w (w.alloc (.cells #[.int .u32 a, .int .u32 b, .int .u32 kk] 144)) := (Mod.refl _ w).alloc _
  have h6 := heap_new (w := w) (o := .cells #[.int .u32 a, .int .u32 b, .int .u32 kk] 144 (0, 0)) rfl
  have hbx0 := hal.heap (fun h => h) HBX.out
  have hf0 := hal.heap (fun h => h) HFL.out
  have hl0' := hal.heap (fun h => h) HLN.out
  have n6 : gF ≠ w.heap.size := by omega
  have n6L : gL ≠ w.heap.size := by omega
  have HM0 := Lib.hid hal
  clear hbx_0 hbx_1 hbx_2 hbx_f hbx_l
  clear H_hbx c0 c1 c2 hal hp6 hg6 hL6
  generalize w.alloc (.cells #[.int .u32 a, .int .u32 b, .int .u32 kk] 144) = X0 at *
  generalize w.heap.size = b6 at *
  have HF0 := Lib.hid hf0; have HL0 := Lib.hid hl0'; have HBX0 := Lib.hid hbx0; have H60 := Lib.hid h6
  obtain ⟨r0, r1, r2⟩ := fldC_at hf0 (i := a) (by rw [HFLe.out]; exact haF)
  obtain ⟨s0, s1, s2⟩ := fldC_at hf0 (i := b) (by rw [HFLe.out]; exact hbF)
  have g0 := frozen_of_row X0 gF (a * 3 + 1) _ _ hf0
  have g1 := frozen_of_row X0 gF (b * 3) _ _ hf0
  have hX : gF < X0.heap.size := lt_of_block hf0
  clear hf0 hl0'
  have hbx0_0 := cell_of_row _ _ 0 _ _ _ hbx0; have hbx0_1 := cell_of_row _ _ 1 _ _ _ hbx0; have hbx0_2 := cell_of_row _ _ 2 _ _ _ hbx0; have hbx0_f := (fun j => frozen_of_row _ _ j _ _ hbx0); have hbx0_l := lt_of_block hbx0; simp at hbx0_0 hbx0_1 hbx0_2; have H_hbx0 := Lib.hid hbx0; clear hbx0
  have h6_0 := cell_of_row _ _ 0 _ _ _ h6; have h6_1 := cell_of_row _ _ 1 _ _ _ h6; have h6_2 := cell_of_row _ _ 2 _ _ _ h6; have h6_f := (fun j => frozen_of_row _ _ j _ _ h6); have h6_l := lt_of_block h6; simp at h6_0 h6_1 h6_2; have H_h6 := Lib.hid h6; clear h6
  have HS : Hid (SCut p b6 (.slice (some ⟨gF, 0, none⟩) FL cF) (.slice (some ⟨gL, 0, none⟩) Ls.length cL) (.int .u32 a) (.int .u32 b) X0) := Lib.hid ⟨hbx0_0, hbx0_2, h6_0, h6_1⟩
  go_upto_region 5 with fail
  go_region_held3 (fun w' => w'.cell? ⟨p, 0, none⟩ = some (.slice (some ⟨gF, 0, none⟩) FL cF) ∧ w'.cell? ⟨p, 2, none⟩ = some (.slice (some ⟨gL, 0, none⟩) Ls.length cL) ∧ w'.cell? ⟨b6, 0, none⟩ = some (.int .u32 a) ∧ w'.cell? ⟨b6, 1, none⟩ = some (.int .u32 b))
    (first | exact HS.out | exact HS.out.set ne1.symm n6 | exact (HS.out.set ne1.symm n6).set ne1.symm n6) (fail)
  have hm2 : Mod (fun b => b = gF) X0 ((X0.setCell ⟨gF, a * 3 + 1, none⟩ (.int .u32 b)).setCell ⟨gF, b * 3, none⟩ (.int .u32 a)).drew :=
    (((Mod.refl (fun b => b = gF) X0).setCell (p := ⟨gF, a * 3 + 1, none⟩) (fun _ => rfl) _).setCell (p := ⟨gF, b * 3, none⟩) (fun _ => rfl) _).drew
  have hf2 : ((X0.setCell ⟨gF, a * 3 + 1, none⟩ (.int .u32 b)).setCell ⟨gF, b * 3, none⟩ (.int .u32 a)).drew.heap[gF]? = _ := fld_cut2 HA.out HB.out HF0.out (by rw [HFLe.out]; exact haF) (by rw [HFLe.out]; exact hbF)
  generalize ((X0.setCell ⟨gF, a * 3 + 1, none⟩ (.int .u32 b)).setCell ⟨gF, b * 3, none⟩ (.int .u32 a)).drew = X2 at hm2 hf2 ⊢
  have hbx2 := hm2.heap (fun e => ne1 e) HBX0.out
  have hln2 := hm2.heap (fun e => ne3 e.symm) HL0.out
  have h62 := hm2.heap (fun e => n6 e.symm) H60.out
  have hl9 := HNX.out _ hln2
  clear hbx0_0 hbx0_1 hbx0_2 hbx0_f hbx0_l
  clear h6_0 h6_1 h6_2 h6_f h6_l
  clear H_hbx0 H_h6 r0 r1 r2 s0 s1 s2 g0 g1 hX HS
  have g0 := frozen_of_row X2 gL k _ _ hln2
  have HM := Lib.hid ((HM0.out.mono (fun _ _ h => h.elim)).trans (hm2.mono (fun _ _ h => Or.inl h)) : Mod (fun b => b = gF ∨ b = gL) w X2)
  have HF2 := Lib.hid hf2; have HL2 := Lib.hid hln2
  have hX2 : gL < X2.heap.size := lt_of_block hln2
  have hX3 : gF < X2.heap.size := lt_of_block hf2
  clear hm2 hf2 hln2
  have dk : decide (k < Ls.length) = true := decide_eq_true hk
  have wl : IntKind.i64.wrap ((l.length : Int) - 1) = (l.length : Int) - 1 := IntWalk.i64_in _ (by omega)
  have hbx2_0 := cell_of_row _ _ 0 _ _ _ hbx2; have hbx2_1 := cell_of_row _ _ 1 _ _ _ hbx2; have hbx2_2 := cell_of_row _ _ 2 _ _ _ hbx2; have hbx2_f := (fun j => frozen_of_row _ _ j _ _ hbx2); have hbx2_l := lt_of_block hbx2; simp at hbx2_0 hbx2_1 hbx2_2; have H_hbx2 := Lib.hid hbx2; clear hbx2
  have h62_0 := cell_of_row _ _ 0 _ _ _ h62; have h62_1 := cell_of_row _ _ 1 _ _ _ h62; have h62_2 := cell_of_row _ _ 2 _ _ _ h62; have h62_f := (fun j => frozen_of_row _ _ j _ _ h62); have h62_l := lt_of_block h62; simp at h62_0 h62_1 h62_2; have H_h62 := Lib.hid h62; clear h62
  go_upto_region 6 with fail
  go_still_tail 11, (by kernel_rfl)
  go_upto_region 7 with fail
  have e1 : (X2.setCell ⟨gL, k, none⟩ (.int .i64 ((l.length : Int) - 1))).drew.heap[gF]? = _ := heap_set_other HF2.out ne3
  have e2 : (X2.setCell ⟨gL, k, none⟩ (.int .i64 ((l.length : Int) - 1))).drew.heap[gL]? = _ := heap_setCell_same X2 gL k _ _ (.int .i64 ((l.length : Int) - 1)) HL2.out
  rw [List.setIfInBounds_toArray, show ((l.length : Int) - 1) = ((l.length - 1 : Nat) : Int) by omega] at e2
  rw [show ((l.length : Int) - 1) = ((l.length - 1 : Nat) : Int) by omega] at e1
  have e3 := (HM.out.setCell (p := ⟨gL, k, none⟩) (fun _ => .inr rfl) (.int .i64 ((l.length - 1 : Nat) : Int))).drew
  have e4 : (X2.setCell ⟨gL, k, none⟩ (.int .i64 ((l.length - 1 : Nat) : Int))).drew.heap[p]? = _ := heap_set_other H_hbx2.out ne2
  rw [show ((l.length : Int) - 1) = ((l.length - 1 : Nat) : Int) by omega]
  clear hbx2_0 hbx2_1 hbx2_2 hbx2_f hbx2_l
  clear h62_0 h62_1 h62_2 h62_f h62_l
  clear H_hbx2 H_h62 wl dk hl9 g0 hX2 hX3
  generalize (X2.setCell ⟨gL, k, none⟩ (.int .i64 ((l.length - 1 : Nat) : Int))).drew = X3 at e1 e2 e3 e4 ⊢
  obtain ⟨q0, q1, q2⟩ := fldC_at e1 (i := n) (by simp; rw [HFLe.out]; exact hnF)
  have g0 := frozen_of_row X3 gF (n * 3) _ _ e1
  have g1 := frozen_of_row X3 gF (n * 3 + 1) _ _ e1
  have g2 := frozen_of_row X3 gF (n * 3 + 2) _ _ e1
  have hX3 : gF < X3.heap.size := lt_of_block e1
  have HE1 := Lib.hid e1; have HE2 := Lib.hid e2; have HE3 := Lib.hid e3
  have hfin := fld_put e1 (i := n) (by simp; rw [HFLe.out]; exact hnF) 0 0 0
  have HFIN := Lib.hid hfin
  clear e1 e2 e3 hfin
  have e4_0 := cell_of_row _ _ 0 _ _ _ e4; have e4_1 := cell_of_row _ _ 1 _ _ _ e4; have e4_2 := cell_of_row _ _ 2 _ _ _ e4; have e4_f := (fun j => frozen_of_row _ _ j _ _ e4); have e4_l := lt_of_block e4; simp at e4_0 e4_1 e4_2; have H_e4 := Lib.hid e4; clear e4
  go_wp2
  have r1 := HFIN.out
  have r2 := heap_set_other (v := .int .u32 0) (heap_set_other (v := .int .u32 0) (heap_set_other (a := ⟨gF, n * 3, none⟩) (v := .int .u32 0) HE2.out (fun e => ne3 e.symm)) (a := ⟨gF, n * 3 + 1, none⟩) (fun e => ne3 e.symm)) (a := ⟨gF, n * 3 + 2, none⟩) (fun e => ne3 e.symm)
  have r3 := ((HE3.out.setCell (p := ⟨gF, n * 3, none⟩) (fun _ => .inl rfl) (.int .u32 0)).setCell (p := ⟨gF, n * 3 + 1, none⟩) (fun _ => .inl rfl) (.int .u32 0)).setCell (p := ⟨gF, n * 3 + 2, none⟩) (fun _ => .inl rfl) (.int .u32 0)
  go_ret
  refine ⟨rfl, HE.out _ ?_ r2 r3, r3⟩
  unfold cutF
  rw [HA.out, HB.out]
  exact r1
/-- A node of list k is taken out. -/
theorem lrem_ok (h : LkAt w D p N Ls) {n k : Nat} {l : List Nat} (hl : Ls[k]? = some l) (hm : n ∈ l) :
    Calls Tryz.prog 90 #[lkP p, .int .u32 n] w fun e w' => e = .returned (.int .i64 0) ∧ LkAt w' D p N (Ls.set k (l.erase n)) ∧ Mod D w w' := by
  obtain ⟨gF, gL, cF, cL, F, h1, h2⟩ := h
  refine (lrem_mem h1 hl hm).mono ?_
  rintro e w' ⟨he, q1, q2⟩
  exact ⟨he, ⟨gF, gL, cF, cL, _, q1, h2⟩, q2.mono (fun k _ hk => (h2 k).2 (.inr hk))⟩
end
end Go.Proofs.YtlalpenfgkfkpaaGreatDoor

/- wheel: Put, Bucket, Remove. Conditions: the level lies in memory. -/
namespace Go.Proofs.YtlalpenfgkfkpaaGreatDoor
open Go.RowKit
set_option maxRecDepth 100000
section
variable {w w' : World} {D : Nat → Prop} {p : Nat} {Ls : List (List Nat)}
def grewD (D D' : Nat → Prop) (w : World) : Prop := ∀ k, D' k → D k ∨ w.heap.size ≤ k
theorem grewD.refl (D : Nat → Prop) (w : World) : grewD D D w := fun _ h => .inl h
set_option maxHeartbeats 1000000 in
theorem wput_ok (h : WhAt w D p Ls) {s b : Nat} {l : List Nat} (hs : s < 4194304) (hl : Ls[b]? = some l) (hf : ¬ inL Ls s) :
    Calls Tryz.prog 86 #[lkP p, .int .u32 s, .int .i64 b] w fun e w' => e = .returned (.int .i64 0) ∧ (∃ D', WhAt w' D' p (Ls.set b (l ++ [s])) ∧ grewD D D' w) ∧ Mod D w w' := by
  have hb : b < 256 := by have := (List.getElem?_eq_some_iff.1 hl).1; rw [h.len] at this; exact this
  have HCk := Lib.hid (wcheck_ok h hs (b := (b : Int)) (by omega) (by omega))
  have HW := Lib.hid h
  obtain ⟨q, many, N, Dl, h1, h2, h3, h4⟩ := h
  have HRo := Lib.hid (wroom_ok h1 h2 h3 hs)
  have HB := Lib.hid h1; have HDD := Lib.hid h4; have HL := Lib.hid hl; have HF := Lib.hid hf; have H3 := Lib.hid h3
  have HNB := Lib.hid (box_not h1 h2)
  have hpq : p ≠ q := fun e => box_not h1 h2 (e ▸ h2.self)
  have hpl : p < w.heap.size := lt_of_block h1
  clear h1 h2 h3 h4 hl hf
  have b0 : (0 : Int) ≤ (b : Int) := by omega
  go_enter Tryz.func86, Tryz.ntmps86
  go_upto_region 5 with (first
    | (go_at_call 81; refine Calls.mono HCk.out ?_; rintro e w' ⟨rfl, rfl⟩)
    | (go_at_call 102; refine Calls.mono HRo.out ?_; rintro e w1 ⟨rfl, N', Dl', hl1, hsN, hm1, hg1⟩))
  have hbx1 := hm1.heap HNB.out HB.out
  have hnb1 := box_not hbx1 hl1
  have HBk := Lib.hid (lback_ok hl1 hsN HL.out HF.out)
  have HM1 := Lib.hid hm1; have HG1 := Lib.hid hg1; have HBX1 := Lib.hid hbx1; have HNB1 := Lib.hid hnb1
  obtain ⟨c0, c5, _, _⟩ := wh_cells hbx1
  clear hl1 hm1 hg1 hbx1 hnb1 c5
  go_upto_region 8 with (go_at_call 103; refine Calls.mono HBk.out ?_; rintro e w2 ⟨rfl, hl2, hm2⟩)
  have hbx2 := hm2.heap HNB1.out HBX1.out
  have HSe := Lib.hid (mset_ok hbx2 hb)
  have HL2 := Lib.hid hl2; have HM2 := Lib.hid hm2
  clear hl2 hm2 hbx2 c0
  go_upto_region 9 with (go_at_call 104; refine Calls.mono HSe.out ?_; rintro e w3 ⟨rfl, hbx3, hm3⟩)
  obtain ⟨c0, c5, g5, hlt3⟩ := wh_cells hbx3
  have g55 := g5 5
  have HBX3 := Lib.hid hbx3; have HM3 := Lib.hid hm3
  clear hbx3 hm3 g5
  obtain ⟨m2, hm2⟩ : ∃ m2, IntKind.i64.wrap (many + 1) = m2 := ⟨_, rfl⟩
  have hend := wh_many HBX3.out m2
  have hmd := (Mod.refl (fun k => k = p) w3).setCell (p := ⟨p, 5, none⟩) (fun _ => rfl) (.int .i64 m2)
  have HEnd := Lib.hid hend; have HMd := Lib.hid hmd
  clear hend hmd
  go_wp2
  go_ret
  have hne : neB (Ls.set b (l ++ [s])) = setB (neB Ls) b true := by
    rw [neB_set (by rw [H3.out]; exact hb)]
    congr 1
    simp
  refine ⟨rfl, ⟨fun k => k = p ∨ Dl' k, ⟨q, m2, N', Dl', ?_, (HL2.out.frame HM3.out (fun k hk e => HNB1.out (e ▸ hk))).frame HMd.out (fun k hk e => HNB1.out (e ▸ hk)), by rw [List.length_set]; exact H3.out, fun k => Iff.rfl⟩, fun k hk => ?_⟩, ?_⟩
  · rw [hne]; exact HEnd.out
  · rcases hk with rfl | hk
    · exact .inl ((HDD.out k).2 (.inl rfl))
    · rcases HG1.out k hk with e | e
      · exact .inl ((HDD.out k).2 (.inr e))
      · exact .inr e
  · refine (HM1.out.mono (fun k _ hk => (HDD.out k).2 (.inr hk))).then ((HM2.out.mono (fun k _ hk => Or.inr hk) : Mod (fun k => k = p ∨ Dl' k) w1 w2).trans ((HM3.out.trans HMd.out).mono (fun k _ hk => Or.inl hk))) (fun k hk e => ?_)
    rcases e with rfl | e
    · exact (HDD.out k).2 (.inl rfl)
    · rcases HG1.out k e with e2 | e2
      · exact (HDD.out k).2 (.inr e2)
      · omega
/-- What Bucket says: the bucket of a slot that is there. -/
theorem wbucket_ok (h : WhAt w D p Ls) {s : Nat} (hs : s < 4194304) {b : Nat} {l : List Nat} (hl : Ls[b]? = some l) (hm : s ∈ l) :
    Calls Tryz.prog 89 #[lkP p, .int .u32 s] w fun e w' => e = .returned (.tuple #[.int .i64 b, .int .i64 0]) ∧ w = w' := by
  have HCk := Lib.hid (wcheck_ok h hs (b := 0) (by omega) (by omega))
  obtain ⟨q, many, N, Dl, h1, h2, h3, h4⟩ := h
  have HOf : Hid (Calls Tryz.prog 105 #[lkP q, .int .u32 s] w fun e w' => e = .returned (.tuple #[.int .i64 b, .int .i64 0]) ∧ w = w') := Lib.hid (by
    refine (lof_ok h2 (n := s) (by omega)).mono ?_
    rintro e w' ⟨hp, rfl⟩
    refine ⟨?_, rfl⟩
    rcases hp with ⟨k, l', e1, e2, rfl⟩ | ⟨hn, _⟩
    · obtain ⟨gF, gL, cF, cL, F, m1, m2⟩ := h2
      have := (m1.ok.own k l' e1 s e2).2
      have h9 := (m1.ok.own b l hl s hm).2
      rw [show k = b by omega]
    · exact absurd ⟨b, l, hl, hm⟩ hn)
  obtain ⟨c0, _, _, _⟩ := wh_cells h1
  clear h1 h2 h3 h4 hl hm
  go_enter Tryz.func89, Tryz.ntmps89
  go_wp2_with (first
    | (go_at_call 81; refine Calls.mono HCk.out ?_; rintro e w' ⟨rfl, rfl⟩)
    | (go_at_call 105; refine Calls.mono HOf.out ?_; rintro e w' ⟨rfl, rfl⟩))
  go_ret2
  exact ⟨rfl, rfl⟩
set_option maxHeartbeats 1000000 in
theorem wrem_ok (h : WhAt w D p Ls) {s b : Nat} {l : List Nat} (hs : s < 4194304) (hl : Ls[b]? = some l) (hm : s ∈ l) :
    Calls Tryz.prog 67 #[lkP p, .int .u32 s] w fun e w' => e = .returned (.tuple #[.int .i64 b, .int .i64 0]) ∧ WhAt w' D p (Ls.set b (l.erase s)) ∧ Mod D w w' := by
  have hb : b < 256 := by have := (List.getElem?_eq_some_iff.1 hl).1; rw [h.len] at this; exact this
  have HBu := Lib.hid (wbucket_ok h hs hl hm)
  obtain ⟨q, many, N, Dl, h1, h2, h3, h4⟩ := h
  have HRe := Lib.hid (lrem_ok h2 hl hm)
  have HNB := Lib.hid (box_not h1 h2)
  have HB := Lib.hid h1; have HDD := Lib.hid h4; have H3 := Lib.hid h3
  have HNE0 : Hid (neB Ls b = true) := Lib.hid (by unfold neB; rw [hl]; cases l with | nil => cases hm | cons x l => rfl)
  have hbl : b < Ls.length := by rw [h3]; exact hb
  have hl9 : (Ls.set b (l.erase s))[b]? = some (l.erase s) := List.getElem?_set_self hbl
  have HL9 := Lib.hid hl9
  obtain ⟨c0, c5, _, _⟩ := wh_cells h1
  clear h1 h2 h3 h4 hl hm hl9
  have b0 : (0 : Int) ≤ (b : Int) := by omega
  go_enter Tryz.func67, Tryz.ntmps67
  go_upto_region 5 with (first
    | (go_at_call 89; refine Calls.mono HBu.out ?_; rintro e w' ⟨rfl, rfl⟩)
    | (go_at_call 90; refine Calls.mono HRe.out ?_; rintro e w1 ⟨rfl, hl1, hm1⟩))
  have hbx1 := hm1.heap HNB.out HB.out
  obtain ⟨m2, hmm⟩ : ∃ m2, IntKind.i64.wrap (many - 1) = m2 := ⟨_, rfl⟩
  have hend := wh_many hbx1 m2
  have hmd := (Mod.refl (fun k => k = p) w1).setCell (p := ⟨p, 5, none⟩) (fun _ => rfl) (.int .i64 m2)
  have hl2 := hl1.frame hmd (fun k hk e => HNB.out (e ▸ hk))
  have hmt : Mod (fun k => k = p ∨ Dl k) w (w1.setCell ⟨p, 5, none⟩ (.int .i64 m2)) := (hm1.mono (fun _ _ h => Or.inr h)).trans (hmd.mono (fun _ _ h => Or.inl h))
  have HLe := Lib.hid (fun W (hW : w1.setCell ⟨p, 5, none⟩ (.int .i64 m2) = W) => (hW ▸ llen_ok hl2 HL9.out : Calls Tryz.prog 91 #[lkP q, .int .i64 b] W fun e w' => e = .returned (.int .i64 (l.erase s).length) ∧ W = w'))
  obtain ⟨d0, d5, g5, hlt1⟩ := wh_cells hbx1
  have g55 := g5 5
  have HL2 := Lib.hid hl2; have HMt := Lib.hid hmt; have HEnd := Lib.hid hend
  clear hl1 hm1 hl2 hmt hend hmd g5 hbx1 c0 c5
  go_upto_region 6 with fail
  generalize hW3 : w1.setCell ⟨p, 5, none⟩ (.int .i64 m2) = W3 at *
  have HLe3 := Lib.hid (HLe.out W3 rfl)
  have hb3 := HEnd.out
  have HFin : Hid (∀ X : World, X.heap[p]? = some (.cells (whC q (neB (Ls.set b (l.erase s))) m2) 112 (0, 0)) → LkAt X Dl q N (Ls.set b (l.erase s)) → WhAt X D p (Ls.set b (l.erase s))) := Lib.hid (fun X g1 g2 => ⟨q, m2, N, Dl, g1, g2, by rw [List.length_set]; exact H3.out, HDD.out⟩)
  have hne := neB_set (Ls := Ls) hbl (l.erase s)
  have HNE := Lib.hid hne
  have HMD : Hid (Mod D w W3) := Lib.hid (HMt.out.mono (fun k _ hk => (HDD.out k).2 hk))
  have HCl := Lib.hid (mclear_ok hb3 hb)
  obtain ⟨d0, d5, _, _⟩ := wh_cells hb3
  clear hne hW3 HLe hb3 HMt
  obtain ⟨l', hl'⟩ : ∃ l', l.erase s = l' := ⟨_, rfl⟩
  rw [hl'] at HLe3 HFin HNE HL2
  have HLE := Lib.hid hl'
  clear hl'
  cases l' with
  | nil =>
    have HLe4 : Hid (Calls Tryz.prog 91 #[lkP q, .int .i64 b] W3 fun e w' => e = .returned (.int .i64 0) ∧ W3 = w') := HLe3
    clear HLe3
    go_wp2_with (first
      | (go_at_call 91; refine Calls.mono HLe4.out ?_; rintro e w' ⟨rfl, rfl⟩)
      | (go_at_call 92; refine Calls.mono HCl.out ?_; rintro e w5 ⟨rfl, q1, q2⟩))
    go_ret2
    refine ⟨rfl, by rw [HLE.out]; exact HFin.out _ (by rw [HNE.out]; exact q1) (HL2.out.frame q2 (fun k hk e => HNB.out (e ▸ hk))), HMD.out.trans (q2.mono (fun k _ hk => by rw [hk]; exact (HDD.out p).2 (.inl rfl)))⟩
  | cons x l2 =>
    obtain ⟨n, hn⟩ : ∃ n, (x :: l2).length = n := ⟨_, rfl⟩
    have hn0 : n ≠ 0 := by rw [← hn]; simp
    rw [hn] at HLe3
    have e0 : ((n : Int) == 0) = false := by simp; omega
    have HN := Lib.hid hn
    clear hn hn0
    go_wp2_with (go_at_call 91; refine Calls.mono HLe3.out ?_; rintro e w' ⟨rfl, rfl⟩)
    go_ret2
    exact ⟨rfl, by rw [HLE.out]; exact HFin.out _ (by rw [HNE.out, setB_same (by rw [HNE0.out]; rfl)]; exact HEnd.out) HL2.out, HMD.out⟩
end
end Go.Proofs.YtlalpenfgkfkpaaGreatDoor

/- links: All, slices.Collect of what it goes over. Conditions: the field lies in memory. -/
namespace Go.Proofs.YtlalpenfgkfkpaaGreatDoor
open Go.RowKit Go.Shelf
set_option maxRecDepth 100000
structure NumIter (w : World) (B : Nat) (a : Option Addr) (c : Nat) (l : List Nat) : Prop where
  box : w.heap[B]? = some (.cells #[.slice a l.length c] 36 (0, 0))
  row : NumRow w a c l
def numBlocks (B : Nat) (a : Option Addr) (n c : Nat) (k : Nat) : Prop := k = B ∨ (Value.slice a n c).ownBlock = some k
theorem NumIter.keeps {w w' : World} {B : Nat} {a : Option Addr} {c : Nat} {l : List Nat} (h : NumIter w B a c l) (hk : KeepsIt (numBlocks B a l.length c) w w') : NumIter w' B a c l :=
  ⟨(hk.2 B (.inl rfl) (lt_of_block h.box)).trans h.box, owns_heap h.row (fun g hg hlt => hk.2 g (.inr hg) hlt)⟩
theorem NumIter.cell {w : World} {B : Nat} {a : Option Addr} {c : Nat} {l : List Nat} (h : NumIter w B a c l) {j x : Nat} (hx : l[j]? = some x) : ∃ g, a = some ⟨g, 0, none⟩ ∧ w.cell? ⟨g, j, none⟩ = some (.int .u32 x) := by
  have hlt := (List.getElem?_eq_some_iff.1 hx).1
  obtain ⟨g, c', hsv, _, hg, hc, hf, _⟩ := owns_at h.row (by omega)
  cases hsv
  refine ⟨g, rfl, hc _ _ ?_⟩
  unfold nums
  rw [List.getElem?_map, hx]
  rfl
def encU (x : Nat) : Array Value := #[.int .u32 x]
def numInv (J : List Nat → World → Prop) (B : Nat) (a : Option Addr) (c : Nat) (l : List Nat) (k : Value) (wr : World) : Prop :=
  ∃ pre post : List Nat, k = .int .i64 (pre.length : Nat) ∧ l = pre ++ post ∧ J pre wr ∧ NumIter wr B a c l
set_option maxHeartbeats 1000000 in
theorem Nums_iter {w : World} {B : Nat} {a : Option Addr} {c : Nat} {l : List Nat} (h : NumIter w B a c l) (hl : l.length ≤ 4194304) :
    IterOk Tryz.prog 101 #[.pointer (some ⟨B, 0, none⟩)] encU (numBlocks B a l.length c) (fun pre x _ => ∃ post, l = pre ++ x :: post) (fun xs => xs = l) w := by
  intro lb J Jx W hW hJ hJx hY h0
  have hA := h.keeps (KeepsIt.of_pure hW)
  have hB := cell_of_row W B 0 _ _ _ hA.box
  simp at hB
  have HA := Lib.hid hA
  have HY := Lib.hid hY
  clear hA hY hJ hJx h hW
  refine callsIn_of_wp Tryz.func101 rfl trivial ?_ rfl
  simp only [Tryz.ntmps101, List.size_toArray, List.length_cons, List.length_nil, Nat.reduceAdd, Nat.reduceSub, Array.replicate_succ, Array.replicate_zero, List.push_toArray, List.append_toArray, List.nil_append, List.cons_append]
  obtain ⟨n, hn⟩ : ∃ n, l.length = n := ⟨_, rfl⟩
  rw [hn] at hB hl HY
  have wn : IntKind.i64.wrap (n : Int) = n := IntWalk.i64_in _ (by omega)
  have HN := Lib.hid hn
  clear hn
  gi_wp2
  gi_loopw [7] (fun k wr => numInv J B a c l k wr) (fun k _ => n - (intOf k).toNat)
  case atStart => exact ⟨[], l, rfl, rfl, h0, HA.out⟩
  case round =>
    obtain ⟨pre, post, rfl, hpp, hJs, hI⟩ := hrel
    have hlen : pre.length + post.length = n := by rw [← HN.out, hpp, List.length_append]
    cases post with
    | nil =>
      have he : pre = l := by rw [hpp, List.append_nil]
      have HE := Lib.hid he; have HJS := Lib.hid hJs
      have hpn : n = pre.length := by simpa using hlen.symm
      have d1 : decide (pre.length < n) = false := decide_eq_false (by omega)
      have d2 : decide ((pre.length : Int) < (n : Int)) = false := decide_eq_false (by omega)
      clear hpp hlen he hI hJs hpn
      gi_wp2
      go_end0
      exact ⟨⟨_, rfl⟩, .inl ⟨pre, HE.out, HJS.out⟩⟩
    | cons x post =>
      obtain ⟨g, rfl, hc⟩ := hI.cell (j := pre.length) (x := x) (by rw [hpp]; simp)
      obtain ⟨fn, tmps, assign, body, hy, hR⟩ := HY.out pre x wr hJs ⟨post, hpp⟩
      dsimp only [encU] at hy
      have hRR := Lib.hid hR
      have HL := Lib.hid hpp; have HI := Lib.hid hI
      have hlt : pre.length < n := by simp at hlen; omega
      obtain ⟨j, hj⟩ : ∃ j, pre.length = j := ⟨_, rfl⟩
      rw [hj] at hc hlt ⊢
      have hlt' : (j : Int) < (n : Int) := by omega
      have j0 : (0 : Int) ≤ (j : Int) := by omega
      have wj : IntKind.i64.wrap ((j : Int) + 1) = (j : Int) + 1 := IntWalk.i64_in _ (by omega)
      have HJ := Lib.hid hj
      clear hpp hI hR hJs hlen hj
      gi_wp2
      refine hRR.out.mono ?_
      rintro e W' (⟨rfl, hJ', hk⟩ | ⟨rfl, hJx'⟩)
      · have HJ' := Lib.hid hJ'
        have HK := Lib.hid (HI.out.keeps (by rw [HN.out]; exact hk))
        clear hJ' hk
        gi_wp2
        go_roundw
        case rel =>
          unfold numInv
          exact ⟨pre ++ [x], post, by rw [List.length_append, HJ.out]; go_num, by rw [HL.out]; simp, HJ'.out, HK.out⟩
        case measure => simp [intOf]; omega
      · gi_wp2
        refine bodyPost_ret (results_none rfl _ _ _) rfl ?_
        exact ⟨⟨_, rfl⟩, .inr ⟨_, hJx'⟩⟩
end Go.Proofs.YtlalpenfgkfkpaaGreatDoor

/- links: All; slices.AppendSeq and Collect of what it goes over. Conditions: the field lies in memory. -/
namespace Go.Proofs.YtlalpenfgkfkpaaGreatDoor
open Go.RowKit Go.Shelf
set_option maxRecDepth 100000
attribute [local go_sem] Oper.semAt_some
def lallPost (w : World) (l : List Nat) (e : Ending) (w' : World) : Prop :=
  ∃ B a c, e = .returned (.func (.func 101) #[] #[.pointer (some ⟨B, 0, none⟩)]) ∧ NumIter w' B a c l ∧ Pure w w'
set_option maxHeartbeats 1000000 in
theorem lAll_ok {w : World} {D : Nat → Prop} {p N : Nat} {Ls : List (List Nat)} (h : LkAt w D p N Ls) {k : Nat} {l : List Nat} (hl : Ls[k]? = some l) (hll : l.length ≤ 4194304) : Calls Tryz.prog 84 #[lkP p, .int .i64 k] w (lallPost w l) := by
  have HA := Lib.hid (lall_ok h hl)
  obtain ⟨n, hn⟩ : ∃ n, l.length = n := ⟨_, rfl⟩
  rw [hn] at HA hll
  have HN := Lib.hid hn
  clear h hl hn
  obtain ⟨i0, hi, iz0, iz1, iz2⟩ := info_parts info_n32
  go_enter Tryz.func84, Tryz.ntmps84
  go_upto_region 2 with (first
    | (go_at_call 100; refine Calls.mono HA.out ?_; rintro e w1 ⟨a, c, rfl, hrow, hfr, hp1⟩; have hrd := num_read hrow; rw [HN.out] at hrd; have HRD := Lib.hid hrd; have HP1 := Lib.hid hp1; clear hrow hfr hp1 hrd)
    | (at_builtin; refine wpList_append_read _ rfl _ _ 36 rfl 33 i0 _ 1 4 Tryz.underlying36 hi iz0 iz1 iz2 rfl (by decide) (.slice none 0 0) 0 [] rfl (World.ownsRow_nil _ _ _ _) _ (nums l) n rfl HRD.out (by rw [nums_length, HN.out]; omega) (by unfold maxLen; omega) (by omega) ?_; intro a7 c7 w5 hr7 hg7 hb7))
  have hp5 : Pure w1 w5 := Mod.of_grown hg7 (fun k e _ => by cases e)
  have hr := hr7
  rw [Nat.zero_add, List.nil_append] at hr
  have hal : Pure w5 (w5.alloc (.cells #[.slice a7 n c7] 36)) := (Mod.refl _ w5).alloc _
  have hbx := heap_new (w := w5) (o := .cells #[.slice a7 n c7] 36 (0, 0)) rfl
  have HE : Hid (lallPost w l (.returned (.func (.func 101) #[] #[.pointer (some ⟨w5.heap.size, 0, none⟩)])) (w5.alloc (.cells #[.slice a7 n c7] 36))) := Lib.hid
    ⟨w5.heap.size, a7, c7, rfl, ⟨by rw [HN.out]; exact hbx, by unfold NumRow; rw [HN.out]; exact owns_mod hr hal (fun _ _ h => h)⟩, (HP1.out.trans hp5).trans hal⟩
  clear hr hr7 hg7 hb7 hp5 hal hbx
  go_wp2
  go_ret
  exact HE.out
structure SqInv (w : World) (l : List Nat) (pre : List Nat) (W : World) : Prop where
  pu : Pure w W
  row : ∃ a c, W.heap[w.heap.size]? = some (.cells #[.slice a pre.length c] 36 (0, 0)) ∧ NumRow W a c pre ∧ ∀ g, (Value.slice a pre.length c).ownBlock = some g → w.heap.size < g
theorem SqInv.quiet {w A B : World} {l pre : List Nat} {N : Nat} (h : SqInv w l pre A) (hN : w.heap.size ≤ N) (hq : Quiet N A B) : SqInv w l pre B := by
  obtain ⟨a, c, h1, h2, h3⟩ := h.row
  exact ⟨hq.mod h.pu hN, a, c, hq.cells h1, hq.owns h2, h3⟩
def seqPost (w : World) (l : List Nat) (e : Ending) (w' : World) : Prop := ∃ a c, e = .returned (.slice a l.length c) ∧ NumRow w' a c l ∧ FreshV w (.slice a l.length c) ∧ Pure w w'
set_option maxHeartbeats 1000000 in
theorem AppendSeq_ok {w : World} {B : Nat} {a : Option Addr} {c : Nat} {l : List Nat} (h : NumIter w B a c l) (hl : l.length ≤ 4194304) :
    Calls Tryz.prog 99 #[.slice none 0 0, .func (.func 101) #[] #[.pointer (some ⟨B, 0, none⟩)]] w (seqPost w l) := by
  have hp1 : Pure w (w.alloc (.cells #[.slice none 0 0] 36)) := (Mod.refl _ w).alloc _
  have hit := h.keeps (KeepsIt.of_pure hp1)
  have HIT := Lib.hid hit
  have hItlt0 : ∀ k, numBlocks B a l.length c k → k < w.heap.size := by
    rintro k (rfl | h2)
    · exact lt_of_block h.box
    · exact owns_lt h.row h2
  have hI0 : SqInv w l [] (w.alloc (.cells #[.slice none 0 0] 36)) := ⟨hp1, none, 0, heap_new rfl, World.ownsRow_nil _ _ _ _, fun g hg => by cases hg⟩
  have hz1 : (w.alloc (.cells #[.slice none 0 0] 36)).heap.size = w.heap.size + 1 := by simp
  clear h hit hp1
  obtain ⟨i0, hi, iz0, iz1, iz2⟩ := info_parts info_n32
  have HLL := Lib.hid hl
  clear hl
  (refine (callsIn_wide (n := 0)).1 (callsIn_of_wp_marks Tryz.func99 rfl trivial (wpIn_wide.2 ?_) rfl); simp only [Tryz.ntmps99, List.size_toArray, List.length_cons, List.length_nil, Nat.reduceAdd, Nat.reduceSub, Array.replicate_succ, Array.replicate_zero, List.push_toArray, List.append_toArray, List.nil_append, List.cons_append])
  go_upto_region 1 with fail
  generalize w.alloc (.cells #[.slice none 0 0] 36) = W1 at *
  have HI0 := Lib.hid hI0; have HZ1 := Lib.hid hz1
  clear hI0 hz1
  have hItlt : ∀ k, numBlocks B a l.length c k → k < W1.heap.size := fun k hk => by have := hItlt0 k hk; have := HZ1.out; omega
  have HIL := Lib.hid hItlt0
  clear hItlt0
  generalize hItd : numBlocks B a l.length c = It at *
  go_wp2
  refine wpIn_wide.1 (wp_range2 (gf := 101) (lb := #[.pointer (some ⟨B, 0, none⟩)]) rfl (enters_of Tryz.func101 (by kernel_rfl) rfl) (It := It) (hItd ▸ Nums_iter HIT.out HLL.out) hItlt (fun _ => rfl)
    (fun pre W => SqInv w l pre W) (fun _ _ _ => False) ?hI ?hIx HI0.out ?round ?done ?stop)
  case hI => exact fun pre A B h hq => h.quiet (by have := HZ1.out; omega) hq
  case hIx => exact fun _ _ _ _ h _ => h
  case stop => exact fun _ _ _ _ _ h _ => h.elim
  case done =>
    rintro lb xs W hlb hS hI hK
    have hS' : xs = l := hS
    subst hS'
    obtain ⟨a2, c2, h1, h2, h3⟩ := hI.row
    have HI := Lib.hid hI; have H2 := Lib.hid h2; have H3 := Lib.hid h3
    have hq : Quiet W1.heap.size _ _ := Quiet.putObj (.deferred none) hlb hK rfl
    clear hI hS h2 h3 hItlt hItd
    obtain ⟨n, hn⟩ : ∃ n, xs.length = n := ⟨_, rfl⟩
    rw [hn] at h1
    have HN := Lib.hid hn
    clear hn
    have h1_0 := cell_of_row _ _ 0 _ _ _ h1; have h1_f := (fun j => frozen_of_row _ _ j _ _ h1); have h1_l := lt_of_block h1; simp at h1_0; have H_h1 := Lib.hid h1; clear h1
    go_wp2
    exact bodyPostM_drained (v := .slice a2 n c2) hK (by simp [results, Tryz.results99, go_sem]) ⟨a2, c2, by rw [HN.out], hq.owns H2.out, fun g hg => Nat.le_of_lt (H3.out g hg), hq.mod HI.out.pu (by have := HZ1.out; omega)⟩
  case round =>
    rintro lb pre x W K hI ⟨post, hpost⟩ hK
    dsimp only [encU]
    have hpl : pre.length < 4194304 := by have := HLL.out; rw [hpost] at this; simp at this; omega
    have HCI := Lib.hid hI; have HK := Lib.hid hK
    clear hI hK hItlt hpost hItd
    gi_wp2
    refine HK.out _ _ (Mod.refl _ _) (fun l' W2 hl2 hr2 hq2 => ?_)
    have hI2 := HCI.out.quiet (by have := HZ1.out; omega) hq2
    obtain ⟨a2, c2, h1, h2, h3⟩ := hI2.row
    have HI2 := Lib.hid hI2; have HR2 := Lib.hid h2; have HF2 := Lib.hid h3
    have HW2 : Hid (w.heap.size < W2.heap.size) := Lib.hid (lt_of_block h1)
    clear hI2 h2 h3 HK HCI
    obtain ⟨j, hj⟩ : ∃ j, pre.length = j := ⟨_, rfl⟩
    rw [hj] at h1 HF2 hpl
    have hrr : W2.ownsRow 0 33 1 (.slice a2 j c2) j (nums pre) := by rw [← hj]; exact HR2.out
    have HRR := Lib.hid hrr; have HJ := Lib.hid hj
    clear hrr hj
    obtain ⟨b2, hb2⟩ : ∃ b, w.heap.size = b := ⟨_, rfl⟩
    rw [hb2] at h1 HF2 HW2 HIL HZ1 ⊢
    have HB2 := Lib.hid hb2
    clear hb2
    have h1b := h1
    have H1 := Lib.hid h1b
    clear h1b
    have h1_0 := cell_of_row _ _ 0 _ _ _ h1; have h1_f := (fun j => frozen_of_row _ _ j _ _ h1); have h1_l := lt_of_block h1; simp at h1_0; have H_h1 := Lib.hid h1; clear h1
    gi_wp2_with (gi_at_builtin; refine wpListIn_append_read _ rfl _ _ 36 rfl 33 i0 (.int .u32 0) 1 4 Tryz.underlying36 hi iz0 iz1 iz2 rfl (by decide) (.slice a2 j c2) j _ rfl (owns_mod HRR.out ((Mod.refl (fun _ => False) W2).alloc _) (fun _ _ h => h)) _ [.int .u32 x] 1 rfl (ReadAt.of_block 1 1 1 (heap_new rfl) (by rfl) (by simp [Value.oneCell'])) rfl (by unfold maxLen; omega) (by omega) ?_; intro a7 c7 w5 hr7 hg7 hb7; have M7 := Lib.hid (Mod.heap (Mod.of_grown (S := fun k => (Value.slice a2 j c2).ownBlock = some k) hg7 (fun k e _ => e)) (fun e => by have := HF2.out _ e; omega) (heap_keep H1.out)); have m7 := cell_of_row w5 _ 0 _ _ _ M7.out; have fr7 := (fun j => frozen_of_row w5 _ j _ _ M7.out); have hlt5 := lt_of_block M7.out)
    have hM : Mod (fun k => (Value.slice a2 j c2).ownBlock = some k ∨ k = b2) W2 (w5.setCell ⟨b2, 0, none⟩ (.slice a7 (j + 1) c7)) :=
      (((Mod.refl _ W2).alloc (.cells #[.int .u32 x] 33)).then (Mod.of_grown (S := fun k => (Value.slice a2 j c2).ownBlock = some k) hg7 (fun k e _ => e)) (fun _ _ h => .inl h)).setCell (fun _ => .inr rfl) _
    have h7 : ∀ g, (Value.slice a7 (j + 1) c7).ownBlock = some g → b2 < g := fun g hg => by
      rcases hb7 with e | e
      · exact HF2.out g (e ▸ hg)
      · rw [e] at hg
        have hg2 : (W2.alloc (.cells #[.int .u32 x] 33)).heap.size = g := by injection hg
        have := HW2.out
        simp at hg2
        omega
    refine ⟨KeepsRec.of_mod hM (fun k _ h o ho => ?_), KeepsIt.of_mod hM (fun k hk h => ?_), ⟨HI2.out.pu.then hM (fun k hk h => ?_), a7, c7, ?_, ?_, ?_⟩⟩
    · rcases h with h | rfl
      · obtain ⟨cur, e⟩ := owns_type HRR.out h
        rw [e] at ho; cases ho; rfl
      · rw [H1.out] at ho; cases ho; rfl
    · have := HIL.out k hk
      rcases h with h | h
      · have := HF2.out k h; omega
      · omega
    · have := HB2.out
      rcases h with h | h
      · have := HF2.out k h; omega
      · omega
    · rw [HB2.out, List.length_append, HJ.out]
      simpa using heap_setCell_same w5 b2 0 _ _ (.slice a7 (j + 1) c7) M7.out
    · unfold NumRow
      rw [List.length_append, HJ.out, nums_append]
      exact owns_mod hr7 ((Mod.refl (fun k => k = b2) w5).setCell (fun _ => rfl) _) (fun g hg e => by have := h7 g hg; omega)
    · rw [HB2.out, List.length_append, HJ.out]
      exact h7
theorem Collect_ok {w : World} {B : Nat} {a : Option Addr} {c : Nat} {l : List Nat} (h : NumIter w B a c l) (hl : l.length ≤ 4194304) :
    Calls Tryz.prog 83 #[.func (.func 101) #[] #[.pointer (some ⟨B, 0, none⟩)]] w (seqPost w l) := by
  have HA := Lib.hid (AppendSeq_ok h hl)
  obtain ⟨n, hn⟩ : ∃ n, l.length = n := ⟨_, rfl⟩
  unfold seqPost at HA
  rw [hn] at HA
  have HN := Lib.hid hn
  clear h hl hn
  go_enter Tryz.func83, Tryz.ntmps83
  go_wp2_with (go_at_call 99; refine Calls.mono HA.out ?_; rintro e w1 ⟨a2, c2, rfl, h1, h2, h3⟩)
  go_ret
  exact ⟨a2, c2, by rw [HN.out]; rfl, h1, by rw [HN.out]; exact h2, h3⟩
end Go.Proofs.YtlalpenfgkfkpaaGreatDoor

/- wheel: List, Take, Next from 0. Conditions: the level lies in memory, the table too. -/
namespace Go.Proofs.YtlalpenfgkfkpaaGreatDoor
open Go.RowKit
set_option maxRecDepth 100000
theorem set_self {Ls : List (List Nat)} {b : Nat} {l : List Nat} (h : Ls[b]? = some l) : Ls.set b l = Ls := by
  refine List.ext_getElem? (fun j => ?_)
  by_cases e : b = j
  · subst e; rw [List.getElem?_set_self (List.getElem?_eq_some_iff.1 h).1, h]
  · rw [List.getElem?_set_ne e]
section
variable {w w' : World} {D : Nat → Prop} {p : Nat} {Ls : List (List Nat)}
theorem WhAt.small (h : WhAt w D p Ls) {b : Nat} {l : List Nat} (hl : Ls[b]? = some l) : l.length ≤ 4194304 ∧ (∀ s ∈ l, s < 4194304) ∧ b < 256 ∧ l.Nodup := by
  have hb : b < 256 := by have := (List.getElem?_eq_some_iff.1 hl).1; rw [h.len] at this; exact this
  obtain ⟨q, many, N, Dl, h1, ⟨gF, gL, cF, cL, F, m1, m2⟩, h3, h4⟩ := h
  have := m1.nm
  exact ⟨Nat.le_trans (m1.ok.short hl) this, fun s hs => by have := (m1.ok.own b l hl s hs).1; omega, hb, m1.ok.nodup b l hl⟩
theorem wlist_ok (h : WhAt w D p Ls) {b : Nat} {l : List Nat} (hl : Ls[b]? = some l) :
    Calls Tryz.prog 56 #[lkP p, .int .i64 b] w fun e w' => ∃ a c, e = .returned (.tuple #[.slice a l.length c, .int .i64 0]) ∧ NumRow w' a c l ∧ FreshV w (.slice a l.length c) ∧ Pure w w' := by
  obtain ⟨hll, _, hb, _⟩ := h.small hl
  have HCk := Lib.hid (wcheck_ok h (s := 0) (by omega) (b := (b : Int)) (by omega) (by omega))
  obtain ⟨q, many, N, Dl, h1, h2, h3, h4⟩ := h
  have HA := Lib.hid (lAll_ok h2 hl hll)
  have HC := Lib.hid (fun (W : World) B a c (hi : NumIter W B a c l) => Collect_ok hi hll)
  obtain ⟨n, hn⟩ : ∃ n, l.length = n := ⟨_, rfl⟩
  unfold seqPost at HC
  unfold lallPost at HA
  rw [hn] at HC
  obtain ⟨c0, _, _, _⟩ := wh_cells h1
  have HN := Lib.hid hn
  clear h1 h2 h3 h4 hl hn hll
  have b0 : (0 : Int) ≤ (b : Int) := by omega
  go_enter Tryz.func56, Tryz.ntmps56
  go_wp2_with (first
    | (go_at_call 81; refine Calls.mono HCk.out ?_; rintro e w' ⟨rfl, rfl⟩)
    | (go_at_call 84; refine Calls.mono HA.out ?_; rintro e w1 ⟨B, a, c, rfl, hi, hp1⟩; have HI1 := Lib.hid hi; have HP1 := Lib.hid hp1; clear hi hp1)
    | (go_at_call 83; refine Calls.mono (HC.out _ _ _ _ HI1.out) ?_; rintro e w2 ⟨a2, c2, rfl, q1, q2, q3⟩))
  go_ret2
  exact ⟨a2, c2, by rw [HN.out]; rfl, q1, fun g hg => by rw [HN.out] at hg; have := q2 g hg; have := HP1.out.size; omega, HP1.out.trans q3⟩
def nextE (f : Nat → Bool) : Value := match firstB f 256 with
  | some b => .tuple #[.int .i64 (b : Nat), .int .i64 0]
  | none => .tuple #[.int .i64 0, .int .i64 9]
theorem wnext_ok (h : WhAt w D p Ls) (hT : TabW w) : Calls Tryz.prog 55 #[lkP p, .int .i64 0] w fun e w' => e = .returned (nextE (neB Ls)) ∧ w = w' := by
  have HCk := Lib.hid (wcheck_ok h (s := 0) (by omega) (b := 0) (by omega) (by omega))
  obtain ⟨q, many, N, Dl, h1, h2, h3, h4⟩ := h
  have HNx := Lib.hid (mnext_ok h1 hT)
  clear h1 h2 h3 h4 hT
  unfold nextV at HNx
  unfold nextE
  cases hf : firstB (neB Ls) 256 with
  | none =>
    rw [hf] at HNx
    clear hf
    have HNx2 : Hid (Calls Tryz.prog 82 #[mkP p, .int .i64 0] w fun e w' => e = .returned (.tuple #[.int .i64 0, .bool false]) ∧ w = w') := HNx
    clear HNx
    go_enter Tryz.func55, Tryz.ntmps55
    go_wp2_with (first
      | (go_at_call 81; refine Calls.mono HCk.out ?_; rintro e w' ⟨rfl, rfl⟩)
      | (go_at_call 82; refine Calls.mono HNx2.out ?_; rintro e w' ⟨rfl, rfl⟩))
    go_ret2
    exact ⟨rfl, rfl⟩
  | some b =>
    rw [hf] at HNx
    clear hf
    have HNx2 : Hid (Calls Tryz.prog 82 #[mkP p, .int .i64 0] w fun e w' => e = .returned (.tuple #[.int .i64 (b : Nat), .bool true]) ∧ w = w') := HNx
    clear HNx
    go_enter Tryz.func55, Tryz.ntmps55
    go_wp2_with (first
      | (go_at_call 81; refine Calls.mono HCk.out ?_; rintro e w' ⟨rfl, rfl⟩)
      | (go_at_call 82; refine Calls.mono HNx2.out ?_; rintro e w' ⟨rfl, rfl⟩))
    go_ret2
    exact ⟨rfl, rfl⟩
set_option maxHeartbeats 1000000 in
/-- Take: the bucket is empty behind it. -/
theorem wtake_ok (h : WhAt w D p Ls) {b : Nat} {l : List Nat} (hl : Ls[b]? = some l) :
    Calls Tryz.prog 85 #[lkP p, .int .i64 b] w fun e w' => ∃ a c, e = .returned (.tuple #[.slice a l.length c, .int .i64 0]) ∧ NumRow w' a c l ∧ FreshV w (.slice a l.length c) ∧ WhAt w' D p (Ls.set b []) ∧ Mod D w w' := by
  obtain ⟨hll, hsm, hb, _⟩ := h.small hl
  have hbl : b < Ls.length := by rw [h.len]; exact hb
  have HLi := Lib.hid (wlist_ok h hl)
  have HW := Lib.hid h; have HSM := Lib.hid hsm; have HL := Lib.hid hl; have HBL := Lib.hid hbl
  obtain ⟨n, hn⟩ : ∃ n, l.length = n := ⟨_, rfl⟩
  rw [hn] at HLi hll
  have HN := Lib.hid hn
  clear h hl hsm hn hbl
  have b0 : (0 : Int) ≤ (b : Int) := by omega
  have wn : IntKind.i64.wrap (n : Int) = n := IntWalk.i64_in _ (by omega)
  go_enter Tryz.func85, Tryz.ntmps85
  go_upto_region 3 with (go_at_call 56; refine Calls.mono HLi.out ?_; rintro e w1 ⟨a, c, rfl, hr, hf, hp⟩)
  have HW1 := Lib.hid (HW.out.pure hp)
  have HND : Hid (∀ g, (Value.slice a n c).ownBlock = some g → ¬ D g) := Lib.hid (fun g hg e => by have := hf g hg; have := HW.out.lt e; omega)
  have HFr := Lib.hid hf; have HR := Lib.hid hr; have HP := Lib.hid hp
  clear hr hf hp
  go_loopw [18] (fun v wr => ∃ j, v = .int .i64 (j : Nat) ∧ j ≤ n ∧ WhAt wr D p (Ls.set b (l.drop j)) ∧ NumRow wr a c l ∧ Mod D w wr) (fun v _ => n - (intOf v).toNat)
  case atStart =>
    refine ⟨0, rfl, Nat.zero_le _, ?_, HR.out, Mod.of_pure HP.out⟩
    rw [List.drop_zero, set_self HL.out]
    exact HW1.out
  case round =>
    obtain ⟨j, rfl, hj, hw, hr, hm⟩ := hrel
    have HWr := Lib.hid hw; have HRr := Lib.hid hr; have HMr := Lib.hid hm
    by_cases hlt : j < n
    · have hlt' : (j : Int) < (n : Int) := by omega
      have j0 : (0 : Int) ≤ (j : Int) := by omega
      have wj : IntKind.i64.wrap ((j : Int) + 1) = (j : Int) + 1 := IntWalk.i64_in _ (by omega)
      obtain ⟨y, hy⟩ : ∃ y, l[j]? = some y := ⟨_, List.getElem?_eq_getElem (by rw [HN.out]; exact hlt)⟩
      have hdr : l.drop j = y :: l.drop (j + 1) := by
        have hjl : j < l.length := by rw [HN.out]; exact hlt
        rw [List.drop_eq_getElem_cons hjl]
        rw [List.getElem?_eq_getElem hjl] at hy
        injection hy with hy
        rw [hy]
      obtain ⟨ad, had, z0⟩ := read_num (num_read hr) hy
      have hRe := wrem_ok hw (s := y) (b := b) (l := l.drop j) (HSM.out y (List.mem_of_getElem? hy)) (List.getElem?_set_self HBL.out) (by rw [hdr]; exact List.mem_cons_self)
      rw [List.set_set, hdr, List.erase_cons_head] at hRe
      have HRe := Lib.hid hRe
      subst had
      clear hy hw hr hm hdr hRe
      go_wp2_with (go_at_call 67; refine Calls.mono HRe.out ?_; rintro e w5 ⟨rfl, q1, q2⟩)
      go_roundw
      case rel => exact ⟨j + 1, by go_num, hlt, q1, owns_mod HRr.out q2 (by rw [HN.out]; exact HND.out), HMr.out.trans q2⟩
      case measure => simp [intOf]; omega
    · have e : n = j := by omega
      subst e
      have HWe : Hid (WhAt wr D p (Ls.set b [])) := Lib.hid (by have := hw; rw [List.drop_of_length_le (by rw [HN.out]; exact Nat.le_refl _)] at this; exact this)
      clear hw hr hm hj hlt
      go_wp2
      go_ret2
      exact ⟨a, c, by rw [HN.out]; rfl, HRr.out, by rw [HN.out]; exact HFr.out, HWe.out, HMr.out⟩
end
end Go.Proofs.YtlalpenfgkfkpaaGreatDoor

/- cascade: the box; check, at, place. Conditions: the box lies in memory. -/
namespace Go.Proofs.YtlalpenfgkfkpaaGreatDoor
open Go.RowKit
set_option maxRecDepth 100000
@[go_sem] theorem eql_nil_what (w : World) (r : Option Nat) : (binOp .eql 56 (.map r) (.map none)).run Tryz.prog w = .ok (.bool r.isNone) w := run_eql_map_nil w _ _ _ r Tryz.underlying56
/-- What a cascade's box holds: the time, the levels, the two maps. -/
def casC (now : Nat) (ws : List Nat) (bm bb : Nat) : List Value := .int .u64 now :: (ws.map lkP ++ [.map (some bm), .map (some bb)])
structure CasBox (w : World) (p now : Nat) (ws : List Nat) (bm bb : Nat) : Prop where
  box : w.heap[p]? = some (.cells (casC now ws bm bb).toArray 85 (0, 0))
  len : ws.length = 8
  now : now < 18446744073709551616
section
variable {w w' : World} {p now bm bb : Nat} {ws : List Nat}
theorem CasBox.mod {S : Nat → Prop} (h : CasBox w p now ws bm bb) (hm : Mod S w w') (hp : ¬ S p) : CasBox w' p now ws bm bb := ⟨hm.heap hp h.box, h.len, h.now⟩
theorem CasBox.cells (h : CasBox w p now ws bm bb) : w.cell? ⟨p, 0, none⟩ = some (.int .u64 now) ∧ w.cell? ⟨p, 9, none⟩ = some (.map (some bm)) ∧ w.cell? ⟨p, 10, none⟩ = some (.map (some bb)) ∧ (∀ i, w.frozen? ⟨p, i, none⟩ = false) ∧ p < w.heap.size := by
  have g := fun j => cell_of_row w p j _ _ (0, 0) h.box
  have hl := h.len
  refine ⟨by rw [g, List.getElem?_toArray]; rfl, ?_, ?_, fun i => frozen_of_row w p i _ _ h.box, lt_of_block h.box⟩
  · rw [g, List.getElem?_toArray]
    unfold casC
    rw [List.getElem?_cons_succ, List.getElem?_append_right (by simp; omega)]
    simp [hl]
  · rw [g, List.getElem?_toArray]
    unfold casC
    rw [List.getElem?_cons_succ, List.getElem?_append_right (by simp; omega)]
    simp [hl]
theorem CasBox.level (h : CasBox w p now ws bm bb) {l q : Nat} (hq : ws[l]? = some q) : w.cell? ⟨p, 1 + l, none⟩ = some (lkP q) := by
  rw [cell_of_row w p (1 + l) _ _ (0, 0) h.box, List.getElem?_toArray]
  unfold casC
  rw [show 1 + l = l + 1 by omega, List.getElem?_cons_succ, List.getElem?_append_left (by have := (List.getElem?_eq_some_iff.1 hq).1; simpa using this), List.getElem?_map, hq]
  rfl
theorem ccheck_ok (h : CasBox w p now ws bm bb) {s : Nat} (hs : s < 4194304) : Calls Tryz.prog 46 #[lkP p, .int .u32 s] w fun e w' => e = .returned (.int .i64 0) ∧ w = w' := by
  obtain ⟨c0, c9, c10, _, _⟩ := h.cells
  clear h
  have d1 : decide ((4194304 : Int) ≤ (s : Int)) = false := decide_eq_false (by omega)
  have d1n : decide (4194304 ≤ s) = false := decide_eq_false (by omega)
  go_enter Tryz.func46, Tryz.ntmps46
  go_wp2
  go_ret
  exact ⟨rfl, rfl⟩
theorem ccheck_arg (h : CasBox w p now ws bm bb) {s : Nat} (hs : 4194304 ≤ s) (h32 : s ≤ 4294967295) : Calls Tryz.prog 46 #[lkP p, .int .u32 s] w fun e w' => e = .returned (.int .i64 2) ∧ w = w' := by
  obtain ⟨c0, c9, c10, _, _⟩ := h.cells
  clear h
  have d1 : decide ((4194304 : Int) ≤ (s : Int)) = true := decide_eq_true (by omega)
  have d1n : decide (4194304 ≤ s) = true := decide_eq_true hs
  go_enter Tryz.func46, Tryz.ntmps46
  go_wp2
  go_ret
  exact ⟨rfl, rfl⟩
def slotE (s : Nat) : Int := if s < 4194304 then 0 else 2
theorem ccheck_any (h : CasBox w p now ws bm bb) {s : Nat} (h32 : s ≤ 4294967295) : Calls Tryz.prog 46 #[lkP p, .int .u32 s] w fun e w' => e = .returned (.int .i64 (slotE s)) ∧ w = w' := by
  unfold slotE
  by_cases hs : s < 4194304
  · rw [if_pos hs]; exact ccheck_ok h hs
  · rw [if_neg hs]; exact ccheck_arg h (by omega) h32
set_option maxHeartbeats 1000000 in
theorem cplace_ok (h : CasBox w p now ws bm bb) {dl : Nat} (hd : dl < 18446744073709551616) (hne : dl ≠ now) :
    Calls Tryz.prog 57 #[lkP p, .int .u64 dl] w fun e w' => e = .returned (.tuple #[.int .i64 (lvl now dl : Nat), .int .i64 (bkt now dl : Nat)]) ∧ Pure w w' := by
  obtain ⟨c0, _, _, _, _⟩ := h.cells
  have hn := h.now
  obtain ⟨b1, b2, b3⟩ := blen_lvl hn hd hne
  have hx : dl ^^^ now < 18446744073709551616 := Nat.xor_lt_two_pow (n := 64) hd hn
  have HLn := Lib.hid (Len64_any _ hx w)
  have hxor := bits_xor64 dl now hd hn
  have hl8 := (lvl_spec hn hd).1
  have hbk : bkt now dl = dl / 256 ^ lvl now dl % 256 := rfl
  have HBK := Lib.hid hbk
  clear h hbk hx
  generalize blen (dl ^^^ now) = bl at *
  generalize dl ^^^ now = x at *
  obtain ⟨lv, hlv⟩ : ∃ lv, lvl now dl = lv := ⟨_, rfl⟩
  obtain ⟨bk, hbk2⟩ : ∃ bk, bkt now dl = bk := ⟨_, rfl⟩
  rw [hlv] at b3 hl8 HBK
  rw [hbk2] at HBK
  have w1 : IntKind.i64.wrap ((bl : Int) - 1) = (bl : Int) - 1 := IntWalk.i64_in _ (by omega)
  have e8 : ((bl : Int) - 1) / 8 = (lv : Int) := by omega
  have w2 : wrap64 (((bl : Int) - 1) / 8) = (lv : Int) := by rw [e8]; exact w64_nat _ (by omega)
  have b0 : (0 : Int) ≤ (bl : Int) - 1 := by omega
  have HLV := Lib.hid hlv; have HB2 := Lib.hid hbk2
  clear hlv hbk2 hne
  go_enter Tryz.func57, Tryz.ntmps57
  go_upto_region 2 with (go_at_call 78; refine Calls.mono HLn.out ?_; rintro e w' ⟨rfl, rfl⟩)
  have w3 : IntKind.i64.wrap (8 * (lv : Int)) = 8 * (lv : Int) := IntWalk.i64_in _ (by omega)
  have l0 : (0 : Int) ≤ (lv : Int) := by omega
  have l1 : (lv : Int) < 8 := by omega
  have hand : bits .and .u64 ((dl : Int) / (2 : Int) ^ (8 * lv)) 255 = (bk : Int) := by
    have hq : dl / 2 ^ (8 * lv) < 18446744073709551616 := Nat.lt_of_le_of_lt (Nat.div_le_self _ _) hd
    have := bits_and64 (dl / 2 ^ (8 * lv)) 255 hq (by decide)
    rw [show (255 : Nat) = 2 ^ 8 - 1 from rfl, Nat.and_two_pow_sub_one_eq_mod] at this
    rw [HBK.out, show (256 : Nat) ^ lv = 2 ^ (8 * lv) by rw [Nat.pow_mul], ← this]
    simp
  have hbk8 : bk < 256 := by rw [HBK.out]; exact Nat.mod_lt _ (by decide)
  have wb : wrap64 (bk : Int) = (bk : Int) := w64_nat _ (by omega)
  have hend : Ending.returned (.tuple #[.int .i64 (((bl : Int) - 1) / 8), .int .i64 (bk : Int)]) = .returned (.tuple #[.int .i64 (lvl now dl : Nat), .int .i64 (bkt now dl : Nat)]) := by rw [e8, HLV.out, HB2.out]
  have HEnd := Lib.hid hend
  clear hend wb HBK hxor
  go_region
  go_wp2
  go_ret2
  exact ⟨HEnd.out, (Mod.refl _ _).drew⟩
end
end Go.Proofs.YtlalpenfgkfkpaaGreatDoor

/- cascade: what lies in memory; put, forget. Conditions: the cascade lies in memory. -/
namespace Go.Proofs.YtlalpenfgkfkpaaGreatDoor
open Go.RowKit
set_option maxRecDepth 100000
/-- The cascade in block p: its levels Lss, what is timed M; D: all its own blocks. -/
structure CasMem (w : World) (D : Nat → Prop) (p now : Nat) (ws : List Nat) (bm bb : Nat) (Ds : Nat → Nat → Prop) (Dm Db : DataW Unit) (M : List Td) (Lss : List (List (List Nat))) : Prop where
  box : CasBox w p now ws bm bb
  what : TMap w bm M Dm
  births : BMap w bb M Db
  len : Lss.length = 8
  lev : ∀ (l q : Nat) (Ls : List (List Nat)), ws[l]? = some q → Lss[l]? = some Ls → WhAt w (Ds l) q Ls
  apart : ∀ l l' k, l < 8 → l' < 8 → l ≠ l' → Ds l k → ¬ Ds l' k
  own : ∀ l k, l < 8 → Ds l k → k ≠ p ∧ k ≠ bm ∧ k ≠ bb
  ne : bm ≠ bb ∧ bm ≠ p ∧ bb ≠ p
  dd : ∀ k, D k ↔ (k = p ∨ k = bm ∨ k = bb ∨ ∃ l, l < 8 ∧ Ds l k)
section
variable {w w' : World} {D : Nat → Prop} {p now : Nat} {ws : List Nat} {bm bb : Nat} {Ds : Nat → Nat → Prop} {Dm Db : DataW Unit} {M : List Td} {Lss : List (List (List Nat))}
theorem CasMem.frame {S : Nat → Prop} (h : CasMem w D p now ws bm bb Ds Dm Db M Lss) (hm : Mod S w w') (hd : ∀ k, D k → ¬ S k) : CasMem w' D p now ws bm bb Ds Dm Db M Lss :=
  ⟨h.box.mod hm (hd p ((h.dd p).2 (.inl rfl))), h.what.mod hm (hd bm ((h.dd bm).2 (.inr (.inl rfl)))), h.births.mod hm (hd bb ((h.dd bb).2 (.inr (.inr (.inl rfl))))), h.len,
    fun l q Ls hq hl => (h.lev l q Ls hq hl).frame hm (fun k hk => hd k ((h.dd k).2 (.inr (.inr (.inr ⟨l, by have := (List.getElem?_eq_some_iff.1 hl).1; rw [h.len] at this; exact this, hk⟩))))), h.apart, h.own, h.ne, h.dd⟩
theorem CasMem.pure (h : CasMem w D p now ws bm bb Ds Dm Db M Lss) (hm : Pure w w') : CasMem w' D p now ws bm bb Ds Dm Db M Lss := h.frame hm (fun _ _ h => h)
theorem CasMem.lt (h : CasMem w D p now ws bm bb Ds Dm Db M Lss) {k : Nat} (hk : D k) : k < w.heap.size := by
  rcases (h.dd k).1 hk with rfl | rfl | rfl | ⟨l, hl, hk⟩
  · exact lt_of_block h.box.box
  · exact h.what.own.lt
  · exact h.births.own.lt
  · obtain ⟨q, hq⟩ : ∃ q, ws[l]? = some q := ⟨_, List.getElem?_eq_getElem (by rw [h.box.len]; exact hl)⟩
    obtain ⟨Ls, hL⟩ : ∃ Ls, Lss[l]? = some Ls := ⟨_, List.getElem?_eq_getElem (by rw [h.len]; exact hl)⟩
    exact (h.lev l q Ls hq hL).lt hk
set_option maxHeartbeats 1000000 in
/-- forget: the slot and the birth are struck out. -/
theorem cforget_ok (h : CasMem w D p now ws bm bb Ds Dm Db M Lss) {x : Td} {M' : List Td} (hx : x ∈ M) (hs : x.slot ≤ 4294967295) (hb : x.birth ≤ 18446744073709551615) (hM : ∀ y, y ∈ M' ↔ y ∈ M ∧ y.slot ≠ x.slot) (hM2 : ∀ y, y ∈ M' ↔ y ∈ M ∧ y.birth ≠ x.birth) (hl : M'.length + 1 = M.length) :
    Calls Tryz.prog 61 #[lkP p, tdV x] w fun e w' => e = .returned (.tuple #[]) ∧ (∃ Dm' Db', CasMem w' D p now ws bm bb Ds Dm' Db' M' Lss) ∧ Mod (fun k => k = bm ∨ k = bb) w w' := by
  have hal : Pure w (w.alloc (.cells #[.int .u32 x.slot, .int .u64 x.dl, .int .u64 x.birth] 45)) := (Mod.refl _ w).alloc _
  have h3 := heap_new (w := w) (o := .cells #[.int .u32 x.slot, .int .u64 x.dl, .int .u64 x.birth] 45 (0, 0)) rfl
  have HC := Lib.hid (h.pure hal)
  have n1 : bm ≠ w.heap.size := fun e => by have := h.what.own.lt; omega
  have n2 : bb ≠ w.heap.size := fun e => by have := h.births.own.lt; omega
  have HX := Lib.hid hx; have HM := Lib.hid hM; have HM2 := Lib.hid hM2; have HAL := Lib.hid hal
  obtain ⟨ne1, ne2, ne3⟩ := h.ne
  clear h hx hM hM2 hal
  unfold tdV
  go_enter Tryz.func61, Tryz.ntmps61
  go_upto_region 1 with fail
  generalize w.alloc (.cells #[.int .u32 x.slot, .int .u64 x.dl, .int .u64 x.birth] 45) = W1 at *
  generalize w.heap.size = b3 at *
  obtain ⟨c0, c9, c10, _, _⟩ := HC.out.box.cells
  have H3 := Lib.hid h3
  have h3_0 := cell_of_row _ _ 0 _ _ _ h3; have h3_1 := cell_of_row _ _ 1 _ _ _ h3; have h3_2 := cell_of_row _ _ 2 _ _ _ h3; have h3_f := (fun j => frozen_of_row _ _ j _ _ h3); have h3_l := lt_of_block h3; simp at h3_0 h3_1 h3_2; have H_h3 := Lib.hid h3; clear h3
  go_still_tail 6, (by kernel_rfl)
  go_upto_region 2 with (at_delete; refine wpList_delete_own _ rfl _ _ 56 33 rfl 45 keyedS Tryz.underlying56 tdElem bm M.length Dm rfl HC.out.what.own.drew (.int .u32 x.slot) (kS x.slot) rfl (kS_of hs) ?_; intro w2 ho2 ht2; go_frame)
  have hm2 : Mod (fun k => k = bm) W1 w2 := Mod.of_drew (Mod.of_grown ht2.grown (fun k e _ => by cases e; rfl))
  have hbx2 := HC.out.box.mod hm2 (fun e => ne2 e.symm)
  have hbi2 := HC.out.births.mod hm2 (fun e => ne1 e.symm)
  have h32 := hm2.heap (fun e => n1 e.symm) H3.out
  have hT2 := HC.out.what.del HX.out HM.out hl ho2
  have HM2' := Lib.hid hm2; have HT2 := Lib.hid hT2; have HBI2 := Lib.hid hbi2
  clear h3_0 h3_1 h3_2 h3_f h3_l
  clear H_h3 c0 c9 c10 ho2 ht2 hm2 hbi2 hT2
  obtain ⟨c0, c9, c10, _, _⟩ := hbx2.cells
  clear hbx2
  have h32_0 := cell_of_row _ _ 0 _ _ _ h32; have h32_1 := cell_of_row _ _ 1 _ _ _ h32; have h32_2 := cell_of_row _ _ 2 _ _ _ h32; have h32_f := (fun j => frozen_of_row _ _ j _ _ h32); have h32_l := lt_of_block h32; simp at h32_0 h32_1 h32_2; have H_h32 := Lib.hid h32; clear h32
  go_still_tail 6, (by kernel_rfl)
  go_wp2_with (at_delete; refine wpList_delete_own _ rfl _ _ 81 22 rfl 117 keyedB Tryz.underlying81 unitElem bb M.length Db rfl HBI2.out.own.drew (.int .u64 x.birth) (kB x.birth) rfl (kB_of hb) ?_; intro w3 ho3 ht3; go_frame)
  have hm3 : Mod (fun k => k = bb) w2 w3 := Mod.of_drew (Mod.of_grown ht3.grown (fun k e _ => by cases e; rfl))
  have hB3 := HBI2.out.del HX.out HM2.out hl ho3
  have hmm : Mod (fun k => k = bm ∨ k = bb) W1 w3 := (HM2'.out.mono (fun _ _ h => Or.inl h)).trans (hm3.mono (fun _ _ h => Or.inr h))
  go_end0
  refine ⟨rfl, ⟨_, _, HC.out.box.mod hmm (fun e => by rcases e with e | e; exact ne2 e.symm; exact ne3 e.symm), HT2.out.mod hm3 (fun e => ne1 e), hB3, HC.out.len, fun l q Ls hq hL => (HC.out.lev l q Ls hq hL).frame hmm (fun k hk e => ?_), HC.out.apart, HC.out.own, HC.out.ne, HC.out.dd⟩, (HAL.out.mono (fun _ _ h => h.elim)).trans hmm⟩
  have hl8 : l < 8 := by have := (List.getElem?_eq_some_iff.1 hL).1; rw [HC.out.len] at this; exact this
  obtain ⟨_, o2, o3⟩ := HC.out.own l k hl8 hk
  rcases e with e | e
  · exact o2 e
  · exact o3 e
end
end Go.Proofs.YtlalpenfgkfkpaaGreatDoor
