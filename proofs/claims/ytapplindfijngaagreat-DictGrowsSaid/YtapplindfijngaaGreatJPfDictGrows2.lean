/- Lemmas and contracts of functions, strung together out of 2 texts. No condition. -/
import Derived.Test.YtapplindfijngaaGreatJPfDictGrows1
/- growth.within, check, limit, Insert. -/
namespace Go.Proofs.YtapplindfijngaaGreat
open Go.RowKit Go.Shelf
set_option maxRecDepth 100000

def intsV (l : List Int) : List Value := l.map (Value.int .i64)
theorem within_ok {w : World} {a : Option Addr} {c : Nat} {l : List Int} {most : Int} (h : ReadAt w (.slice a l.length c) 1 (intsV l)) (hl : ∀ z ∈ l, 0 ≤ z ∧ z ≤ most) (hn : l.length ≤ 8) :
    Calls Tryz.prog 156 #[.int .i64 most, .slice a l.length c] w fun e w' => e = .returned (.int .i64 0) ∧ w = w' := by
  have HR := Lib.hid h; have HL := Lib.hid hl
  clear h hl
  obtain ⟨n, hn'⟩ : ∃ n, l.length = n := ⟨_, rfl⟩
  rw [hn'] at HR hn ⊢
  have HN := Lib.hid hn'
  clear hn'
  have wn : IntKind.i64.wrap (n : Int) = n := IntWalk.i64_in _ (by omega)
  go_enter Tryz.func156, Tryz.ntmps156
  go_upto_region 2 with fail
  go_loopw [9] (fun v9 wr => ∃ i, v9 = .int .i64 (i : Nat) ∧ i ≤ n ∧ wr = w) (fun v9 _ => n - (intOf v9).toNat)
  case atStart => exact ⟨0, rfl, Nat.zero_le _, rfl⟩
  case round =>
    obtain ⟨i, rfl, hi, rfl⟩ := hrel
    by_cases hlt : i < n
    · have hlt' : (i : Int) < (n : Int) := by omega
      obtain ⟨z, hz⟩ : ∃ z, l[i]? = some z := ⟨_, List.getElem?_eq_getElem (by have := HN.out; omega)⟩
      obtain ⟨h1, h2⟩ := HL.out z (List.mem_of_getElem? hz)
      obtain ⟨a', n', c', e, _, _, h0, hc⟩ := HR.out
      cases e
      obtain ⟨ad, rfl⟩ : ∃ ad, a = some ad := by
        cases a with
        | none => have := h0 rfl; omega
        | some ad => exact ⟨ad, rfl⟩
      have c0 := hc ad rfl i (.int .i64 z) (by unfold intsV; rw [List.getElem?_map, hz]; rfl)
      clear hc h0 hz
      have wi : IntKind.i64.wrap ((i : Int) + 1) = (i : Int) + 1 := IntWalk.i64_in _ (by omega)
      have d1 : decide (z < 0) = false := by simp; omega
      have d2 : decide (most < z) = false := by simp; omega
      go_wp2
      go_roundw
      case rel => exact ⟨i + 1, by go_num, hlt, trivial⟩
      case measure => simp [intOf]; omega
    · have hlt' : (n : Int) ≤ (i : Int) := by omega
      go_wp2
      go_ret
      exact ⟨rfl, rfl⟩
theorem gcheck_ok {g live tombs : Nat} (hg : Pow g) (h : live + tombs ≤ 8 * g) (w : World) : Calls Tryz.prog 116 #[.int .i64 g, .int .i64 live, .int .i64 tombs] w fun e w' => e = .returned (.int .i64 0) ∧ Pure w w' := by
  have hg1 := hg.le
  have HV := Lib.hid (fun W => PValid_ok g W hg)
  have w8 : IntKind.i64.wrap ((g : Int) * 8) = (g : Int) * 8 := IntWalk.i64_in _ (by omega)
  have wl : IntKind.i64.wrap ((live : Int) + (tombs : Int)) = (live : Int) + (tombs : Int) := IntWalk.i64_in _ (by omega)
  have h1 := heap_new (w := w) (o := .cells #[.int .i64 live, .int .i64 tombs] 3 (0, 0)) rfl
  have hp1 : Pure w (w.alloc (.cells #[.int .i64 live, .int .i64 tombs] 3)) := (Mod.refl _ w).alloc _
  have HW1 := Lib.hid (within_ok (a := some ⟨w.heap.size, 0, none⟩) (c := 2) (l := [(live : Int), (tombs : Int)]) (most := (g : Int) * 8) (ReadAt.of_block 2 2 1 h1 (by rfl) (by simp [intsV, Value.oneCell'])) (by simp; omega) (by simp))
  have HP1 := Lib.hid hp1
  clear h1 hp1 hg
  simp only [List.length_cons, List.length_nil, Nat.zero_add, Nat.reduceAdd] at HW1
  go_enter Tryz.func116, Tryz.ntmps116
  go_upto_region 5 with (first
    | (go_at_call 102; refine Calls.mono (HV.out _) ?_; rintro e w' ⟨rfl, rfl⟩)
    | (go_at_call 156; refine Calls.mono HW1.out ?_; rintro e w' ⟨rfl, rfl⟩))
  generalize w.alloc (.cells #[.int .i64 live, .int .i64 tombs] 3) = w1 at *
  have h2 := heap_new (w := w1) (o := .cells #[.int .i64 ((live : Int) + (tombs : Int))] 3 (0, 0)) rfl
  have HW2 := Lib.hid (within_ok (a := some ⟨w1.heap.size, 0, none⟩) (c := 1) (l := [(live : Int) + (tombs : Int)]) (most := (g : Int) * 8) (ReadAt.of_block 1 1 1 h2 (by rfl) (by simp [intsV, Value.oneCell'])) (by simp; omega) (by simp))
  clear h2 HW1
  simp only [List.length_cons, List.length_nil, Nat.zero_add, Nat.reduceAdd] at HW2
  go_wp2_with (go_at_call 156; refine Calls.mono HW2.out ?_; rintro e w' ⟨rfl, rfl⟩)
  go_ret
  exact ⟨rfl, HP1.out.alloc _⟩
theorem limit_ok {g : Nat} (hg : Pow g) (w : World) : Calls Tryz.prog 140 #[.int .i64 g] w fun e w' => e = .returned (.int .i64 (7 * (g : Int))) ∧ w = w' := by
  have hg1 := hg.le
  have w7 : IntKind.i64.wrap (7 * (g : Int)) = 7 * (g : Int) := IntWalk.i64_in _ (by omega)
  clear hg
  go_enter Tryz.func140, Tryz.ntmps140
  go_wp2
  go_ret
  exact ⟨rfl, rfl⟩
theorem gfin {w X Y : World} {b6 : Nat} {u0 u1 v0 v1 : Value} {T : TypeId} (h6 : X.heap[b6]? = some (.cells #[u0, u1] T (0, 0))) (hp : Pure w X) (hb : w.heap.size ≤ b6) (hY : (X.setCell ⟨b6, 0, none⟩ v0).setCell ⟨b6, 1, none⟩ v1 = Y) : Pure w Y ∧ Y.cell? ⟨b6, 0, none⟩ = some v0 ∧ Y.cell? ⟨b6, 1, none⟩ = some v1 := by
  have m2 := heap_set12 (v0 := v0) (v1 := v1) h6
  have hmm : Mod (fun i => i = b6) X ((X.setCell ⟨b6, 0, none⟩ v0).setCell ⟨b6, 1, none⟩ v1) := Mod.set2 b6 0 1 _ _
  rw [hY] at m2 hmm
  exact ⟨hp.then hmm (fun i hi e => by omega), cell_of_row _ b6 0 _ _ _ m2, cell_of_row _ b6 1 _ _ _ m2⟩
/-- What is to be done before a slot number is put in: how many groups, and whether it is made again. -/
def planI (g live tombs : Nat) : Option (Nat × Bool) :=
  if live + tombs < 7 * g then some (g, false) else if 2 * live ≤ 7 * g then some (g, true) else if g < 1048576 then some (2 * g, true) else if live < 7 * g then some (g, true) else none
def planV (o : Option (Nat × Bool)) : Value := match o with
  | some x => .tuple #[.agg #[.int .i64 (x.1 : Nat), .bool x.2], .int .i64 0]
  | none => .tuple #[.agg #[.int .i64 0, .bool false], .int .i64 7]
set_option maxHeartbeats 1000000 in
theorem gInsert_ok {g live tombs : Nat} (hg : Pow g) (h : live + tombs ≤ 8 * g) (w : World) : Calls Tryz.prog 106 #[.int .i64 g, .int .i64 live, .int .i64 tombs] w fun e w' => e = .returned (planV (planI g live tombs)) ∧ Pure w w' := by
  have hg1 := hg.le
  have HC := Lib.hid (fun W => gcheck_ok hg h W)
  have HLm := Lib.hid (fun W => limit_ok hg W)
  have wl : IntKind.i64.wrap ((live : Int) + (tombs : Int)) = (live : Int) + (tombs : Int) := IntWalk.i64_in _ (by omega)
  have w2 : IntKind.i64.wrap (2 * (live : Int)) = 2 * (live : Int) := IntWalk.i64_in _ (by omega)
  have wg : IntKind.i64.wrap (2 * (g : Int)) = 2 * (g : Int) := IntWalk.i64_in _ (by omega)
  obtain ⟨r, hr⟩ : ∃ r, planI g live tombs = r := ⟨_, rfl⟩
  rw [hr]
  unfold planI at hr
  have HRr := Lib.hid hr
  clear hr hg
  go_enter Tryz.func106, Tryz.ntmps106
  go_upto_region 5 with (first
    | (go_at_call 116; refine Calls.mono (HC.out _) ?_; rintro e w1 ⟨rfl, hp1⟩)
    | (go_at_call 140; refine Calls.mono (HLm.out _) ?_; rintro e w' ⟨rfl, rfl⟩))
  have hp0 : Pure w (w.alloc (.cells #[.int .i64 0, .bool false] 112)) := (Mod.refl _ w).alloc _
  have h6 := hp1.heap (fun h => h) (heap_new (w := w) (o := .cells #[.int .i64 0, .bool false] 112 (0, 0)) rfl)
  have HP := Lib.hid (hp0.trans hp1)
  have hle := hp0.size
  clear hp0 hp1 HC HLm
  obtain ⟨b6, hb6⟩ : ∃ b6, w.heap.size = b6 := ⟨_, rfl⟩
  rw [hb6] at h6 ⊢
  have HB6 := Lib.hid hb6
  have hlt6 := lt_of_block h6
  have H6 := Lib.hid h6
  clear hb6 hle
  obtain ⟨rb, hrb⟩ : ∃ rb, decide (7 * (g : Int) ≤ (live : Int) + (tombs : Int)) = rb := ⟨_, rfl⟩
  have h10 := heap_new (w := w1) (o := .cells #[.int .i64 g, .bool rb] 112 (0, 0)) rfl
  have hp10 : Pure w1 (w1.alloc (.cells #[.int .i64 g, .bool rb] 112)) := (Mod.refl _ w1).alloc _
  have h6b := hp10.heap (fun h => h) h6
  have HP2 := Lib.hid (HP.out.trans hp10)
  have hne : w1.heap.size ≠ b6 := by omega
  clear hp10 H6 h6
  have HRB := Lib.hid hrb
  have hsz : w.heap.size ≤ w1.heap.size := Mod.size HP.out
  clear HP
  go_cut [9, 10, 6, 0, 1] (fun v9 v10 v6 v0 v1 wx => v9 = .int .i64 (7 * (g : Int)) ∧ v10 = .pointer (some ⟨w1.heap.size, 0, none⟩) ∧ v6 = .pointer (some ⟨b6, 0, none⟩) ∧ v0 = .int .i64 g ∧ v1 = .int .i64 live ∧ wx = w1.alloc (.cells #[.int .i64 g, .bool rb] 112))
  case first =>
    cases rb with
    | true =>
      have := of_decide_eq_true hrb
      go_wp2
      go_meet
      exact ⟨rfl, rfl, rfl, rfl, rfl, rfl⟩
    | false =>
      have := of_decide_eq_false hrb
      go_wp2
      go_meet
      exact ⟨rfl, rfl, rfl, rfl, rfl, rfl⟩
  case rest =>
    obtain ⟨rfl, rfl, rfl, rfl, rfl, hwc⟩ := hcut
    rw [← hwc] at h10 h6b HP2
    clear hwc hrb
    generalize w1.heap.size = b10 at *
    have hb6 : w.heap.size ≤ b6 := by have := HB6.out; omega
    have h10_0 := cell_of_row _ _ 0 _ _ _ h10; have h10_1 := cell_of_row _ _ 1 _ _ _ h10; have h10_f := (fun j => frozen_of_row _ _ j _ _ h10); have h10_l := lt_of_block h10; simp at h10_0 h10_1; have H_h10 := Lib.hid h10; clear h10
    have h6b_0 := cell_of_row _ _ 0 _ _ _ h6b; have h6b_1 := cell_of_row _ _ 1 _ _ _ h6b; have h6b_f := (fun j => frozen_of_row _ _ j _ _ h6b); have h6b_l := lt_of_block h6b; simp at h6b_0 h6b_1; have H_h6b := Lib.hid h6b; clear h6b
    have hr := HRr.out
    have hrb := HRB.out
    clear HRr HRB
    by_cases c1 : live + tombs < 7 * g
    · rw [if_pos c1] at hr
      have e1 : rb = false := by rw [← hrb]; exact decide_eq_false (by omega)
      subst hr e1
      clear hrb
      go_wp2
      obtain ⟨f1, x0, x1⟩ := gfin (v0 := .int .i64 g) (v1 := .bool false) H_h6b.out HP2.out hb6 rfl
      obtain ⟨Y, hY⟩ : ∃ Y, (wc.setCell ⟨b6, 0, none⟩ (.int .i64 g)).setCell ⟨b6, 1, none⟩ (.bool false) = Y := ⟨_, rfl⟩
      rw [hY] at f1 x0 x1 ⊢
      exact bodyPost_ret (v := .tuple #[.agg #[.int .i64 g, .bool false], .int .i64 0]) (by simp [results, Tryz.results106, go_sem, x0, x1]) rfl ⟨rfl, f1⟩
    · rw [if_neg c1] at hr
      have e1 : rb = true := by rw [← hrb]; exact decide_eq_true (by omega)
      subst e1
      clear hrb
      by_cases c2 : 2 * live ≤ 7 * g
      · rw [if_pos c2] at hr
        subst hr
        have c2' : 2 * (live : Int) ≤ 7 * (g : Int) := by omega
        go_wp2
        obtain ⟨f1, x0, x1⟩ := gfin (v0 := .int .i64 g) (v1 := .bool true) H_h6b.out HP2.out hb6 rfl
        obtain ⟨Y, hY⟩ : ∃ Y, (wc.setCell ⟨b6, 0, none⟩ (.int .i64 g)).setCell ⟨b6, 1, none⟩ (.bool true) = Y := ⟨_, rfl⟩
        rw [hY] at f1 x0 x1 ⊢
        exact bodyPost_ret (v := .tuple #[.agg #[.int .i64 g, .bool true], .int .i64 0]) (by simp [results, Tryz.results106, go_sem, x0, x1]) rfl ⟨rfl, f1⟩
      · rw [if_neg c2] at hr
        have d2 : decide (2 * (live : Int) ≤ 7 * (g : Int)) = false := decide_eq_false (by omega)
        by_cases c3 : g < 1048576
        · rw [if_pos c3] at hr
          subst hr
          have d3 : decide ((g : Int) < 1048576) = true := decide_eq_true (by omega)
          clear c1 c2 c3
          go_wp2
          have h6x := (Mod.set1 (w := wc) b10 0 (.int .i64 (2 * (g : Int)))).heap (fun e => hne e.symm) H_h6b.out
          have hpx : Pure w (wc.setCell ⟨b10, 0, none⟩ (.int .i64 (2 * (g : Int)))) := HP2.out.then (Mod.set1 b10 0 _) (fun i hi e => by omega)
          obtain ⟨f1, x0, x1⟩ := gfin (v0 := .int .i64 (2 * (g : Int))) (v1 := .bool true) h6x hpx hb6 rfl
          obtain ⟨Y, hY⟩ : ∃ Y, ((wc.setCell ⟨b10, 0, none⟩ (.int .i64 (2 * (g : Int)))).setCell ⟨b6, 0, none⟩ (.int .i64 (2 * (g : Int)))).setCell ⟨b6, 1, none⟩ (.bool true) = Y := ⟨_, rfl⟩
          rw [hY] at f1 x0 x1 ⊢
          exact bodyPost_ret (v := .tuple #[.agg #[.int .i64 (2 * (g : Int)), .bool true], .int .i64 0]) (by simp [results, Tryz.results106, go_sem, x0, x1]) rfl ⟨rfl, f1⟩
        · rw [if_neg c3] at hr
          have d3 : decide ((g : Int) < 1048576) = false := decide_eq_false (by omega)
          by_cases c4 : live < 7 * g
          · rw [if_pos c4] at hr
            subst hr
            have d4 : decide ((live : Int) < 7 * (g : Int)) = true := decide_eq_true (by omega)
            clear c1 c2 c3 c4
            go_wp2
            obtain ⟨f1, x0, x1⟩ := gfin (v0 := .int .i64 g) (v1 := .bool true) H_h6b.out HP2.out hb6 rfl
            obtain ⟨Y, hY⟩ : ∃ Y, (wc.setCell ⟨b6, 0, none⟩ (.int .i64 g)).setCell ⟨b6, 1, none⟩ (.bool true) = Y := ⟨_, rfl⟩
            rw [hY] at f1 x0 x1 ⊢
            exact bodyPost_ret (v := .tuple #[.agg #[.int .i64 g, .bool true], .int .i64 0]) (by simp [results, Tryz.results106, go_sem, x0, x1]) rfl ⟨rfl, f1⟩
          · rw [if_neg c4] at hr
            subst hr
            have d4 : decide ((live : Int) < 7 * (g : Int)) = false := decide_eq_false (by omega)
            clear c1 c2 c3 c4
            go_wp2
            obtain ⟨f1, x0, x1⟩ := gfin (v0 := .int .i64 0) (v1 := .bool false) H_h6b.out HP2.out hb6 rfl
            obtain ⟨Y, hY⟩ : ∃ Y, (wc.setCell ⟨b6, 0, none⟩ (.int .i64 0)).setCell ⟨b6, 1, none⟩ (.bool false) = Y := ⟨_, rfl⟩
            rw [hY] at f1 x0 x1 ⊢
            exact bodyPost_ret (v := .tuple #[.agg #[.int .i64 0, .bool false], .int .i64 7]) (by simp [results, Tryz.results106, go_sem, x0, x1]) rfl ⟨rfl, f1⟩
end Go.Proofs.YtapplindfijngaaGreat

/- probe.All, word.All: the makers of the iterators; word.All's iterator. -/
namespace Go.Proofs.YtapplindfijngaaGreat
open Go.RowKit Go.Shelf
set_option maxRecDepth 100000
attribute [local go_sem] Oper.semAt_some

/-! ### word.All -/
structure LanesAt (w : World) (B m : Nat) : Prop where
  set : w.heap[B]? = some (.cells #[.int .u8 m] 5 (0, 0))
theorem LanesAt.keeps {w w' : World} {B m : Nat} (h : LanesAt w B m) (hk : KeepsIt (fun k => k = B) w w') : LanesAt w' B m :=
  ⟨(hk.2 B rfl (lt_of_block h.set)).trans h.set⟩
def lanesInv (J : List Nat → World → Prop) (m : Nat) (k : Value) (wr : World) : Prop :=
  ∃ (r : Nat) (pre : List Nat), r < 256 ∧ k = .int .u8 r ∧ J pre wr ∧ lanesOf m = pre ++ lanesOf r
set_option maxHeartbeats 1000000 in
theorem Lanes_iter {w : World} {B m : Nat} (h : LanesAt w B m) (hm : m < 256) :
    IterOk Tryz.prog 167 #[.pointer (some ⟨B, 0, none⟩)] encN (fun k => k = B) (nextOf (lanesOf m)) (fun xs => xs = lanesOf m) w := by
  intro l J Jx W hW hJ hJx hY h0
  have hA := h.keeps (KeepsIt.of_pure hW)
  have hB := cell_of_row W B 0 _ _ _ hA.set
  simp at hB
  have HY := Lib.hid hY
  have hm0 : (0 : Int) ≤ m := by omega
  have hm1 : (m : Int) ≤ 255 := by omega
  clear hA hY hJ hJx h hW
  refine callsIn_of_wp Tryz.func167 rfl trivial ?_ rfl
  simp only [Tryz.ntmps167, List.size_toArray, List.length_cons, List.length_nil, Nat.reduceAdd, Nat.reduceSub, Array.replicate_succ, Array.replicate_zero, List.push_toArray, List.append_toArray, List.nil_append, List.cons_append]
  gi_wp2
  gi_loopw [3] (fun k wr => lanesInv J m k wr)
    (fun k _ => (intOf k).toNat)
  case atStart => exact ⟨m, [], hm, rfl, h0, by simp⟩
  case round =>
    obtain ⟨r, pre, hr, rfl, hJs, hl⟩ := hrel
    by_cases hz : r = 0
    · subst hz
      rw [lanes_zero, List.append_nil] at hl
      have HJS := Lib.hid hJs
      have HL := Lib.hid hl
      clear hJs hl
      gi_wp2
      go_end0
      refine ⟨⟨_, rfl⟩, .inl ⟨pre, ?_, HJS.out⟩⟩
      rw [HL.out]
    · obtain ⟨hs, h8, hlt⟩ := lanes_step r hr hz
      rw [hs] at hl
      have hz2 : ((r : Int) == 0) = false := by simp [hz]
      have hz3 : ((r : Int) != 0) = true := by simp [hz]
      have hr0 : (1 : Int) ≤ r := by omega
      have hr1 : (r : Int) ≤ 255 := by omega
      have e1 := bits_and8 r (r - 1) hr (by omega)
      rw [show ((r - 1 : Nat) : Int) = (r : Int) - 1 by omega] at e1
      have HF := Lib.hid (First_ok r wr hr)
      generalize lane1 r = x at *
      generalize r &&& (r - 1) = q at *
      obtain ⟨fn, tmps, assign, body, hy, hR⟩ := HY.out pre x wr hJs ⟨lanesOf q, hl⟩
      dsimp only [encN] at hy
      have hRR := Lib.hid hR
      have HL := Lib.hid hl
      clear hR hJs hl
      gi_wp2_with (gi_at_call 143; refine (callsIn_wide.2 HF.out).mono ?_; rintro e w1 ⟨rfl, rfl⟩)
      refine hRR.out.mono ?_
      rintro e W' (⟨rfl, hJ', hk⟩ | ⟨rfl, hJx'⟩)
      · have HJ' := Lib.hid hJ'
        clear hJ'
        gi_wp2
        go_roundw
        case rel =>
          unfold lanesInv
          exact ⟨q, pre ++ [x], by omega, by go_num, HJ'.out, by rw [HL.out]; simp⟩
        case measure => simp [intOf]; omega
      · gi_wp2
        refine bodyPost_ret (results_none rfl _ _ _) rfl ?_
        exact ⟨⟨_, rfl⟩, .inr ⟨_, hJx'⟩⟩

def lanesPost (w : World) (m : Nat) (e : Ending) (w' : World) : Prop :=
  ∃ B, e = .returned (.func (.func 167) #[] #[.pointer (some ⟨B, 0, none⟩)]) ∧ LanesAt w' B m ∧ Pure w w' ∧ w.heap.size ≤ B
theorem Lanes_ok (m : Nat) (w : World) : Calls Tryz.prog 150 #[.int .u8 m] w (lanesPost w m) := by
  go_enter Tryz.func150, Tryz.ntmps150
  go_wp2
  go_ret
  exact ⟨w.heap.size, rfl, ⟨heap_new rfl⟩, (Mod.refl _ w).alloc _, Nat.le_refl _⟩

def probePost (w : World) (part g : Nat) (e : Ending) (w' : World) : Prop :=
  ∃ B1 B2 B3, e = .returned (.tuple #[.func (.func 163) #[] #[.pointer (some ⟨B1, 0, none⟩), .pointer (some ⟨B2, 0, none⟩), .pointer (some ⟨B3, 0, none⟩)], .int .i64 0]) ∧ ProbeAt w' B1 B2 B3 part g ∧ Pure w w' ∧ w.heap.size ≤ B1 ∧ w.heap.size ≤ B2 ∧ w.heap.size ≤ B3
theorem probe_end (part g : Nat) (w : World) : probePost w part g (.returned (.tuple #[.func (.func 163) #[] #[.pointer (some ⟨w.heap.size + 1 + 1, 0, none⟩), .pointer (some ⟨w.heap.size, 0, none⟩), .pointer (some ⟨w.heap.size + 1, 0, none⟩)], .int .i64 0]))
    (((w.alloc (.cells #[.int .u64 part] 22)).alloc (.cells #[.int .i64 g] 3)).alloc (.cells #[.int .i64 g] 3)).drew := by
  refine ⟨_, _, _, rfl, ⟨?_, ?_, ?_⟩, ?_, by omega, by omega, by omega⟩
  · exact heap_new (w := (w.alloc (.cells #[.int .u64 part] 22)).alloc (.cells #[.int .i64 g] 3)) (by simp)
  · exact heap_keep (w := (w.alloc (.cells #[.int .u64 part] 22)).alloc (.cells #[.int .i64 g] 3)) (heap_keep (heap_new rfl))
  · exact heap_keep (w := (w.alloc (.cells #[.int .u64 part] 22)).alloc (.cells #[.int .i64 g] 3)) (heap_new (by simp))
  · (repeat' (first | (with_reducible exact Mod.refl _ _) | (with_reducible refine Mod.alloc ?_ _) | (with_reducible refine Mod.drew ?_) | (with_reducible refine Mod.drewN ?_ _) | (with_reducible refine Mod.setCell ?_ ?_ _) | (refine Mod.then ?_ (by with_reducible assumption) ?_)))
set_option maxHeartbeats 400000 in
theorem ProbeAll_ok (part g : Nat) (w : World) (hg : Pow g) : Calls Tryz.prog 141 #[.int .u64 part, .int .i64 g] w (probePost w part g) := by
  have hq := fun W => check_ok g 0 W hg hg.pos
  have hend := Lib.hid (probe_end part g w)
  go_enter Tryz.func141, Tryz.ntmps141
  go_wp2
  go_region_with (go_at_call 162; refine Calls.mono (hq _) ?_; rintro e w1 ⟨rfl, rfl⟩)
  all_goals
    go_wp2
    go_ret2
    exact hend.out
end Go.Proofs.YtapplindfijngaaGreat
