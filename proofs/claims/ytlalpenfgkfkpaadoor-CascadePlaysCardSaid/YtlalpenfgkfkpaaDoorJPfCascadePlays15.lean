/- Lemmas and contracts of functions, strung together out of 3 texts. No condition. -/
import Derived.Test.YtlalpenfgkfkpaaDoorJPfCascadePlays14
import Derived.Test.YtlalpenfgkfkpaaDoorJPfCascadePlays3
/- law20.step: Copy. Conditions: the cascade lies in memory, the reference's list is read. -/
namespace Go.Proofs.YtlalpenfgkfkpaaDoor
open Go.RowKit Go.Shelf
set_option maxRecDepth 100000
section
variable {w0 w w5 w6 : World} {D D' : Nat → Prop} {p p' now now' n c n' c' b2 tt : Nat} {a a' : Option Addr} {L L' : List Td} {t : Act20}
theorem KnS.advM3 (h : KnS w0 w D p now L) (ht : tt < 18446744073709551616) :
    Calls Tryd.prog 16 #[lkP p, .int .u64 tt] w fun e w' => ∃ v, e = .returned v ∧ ∃ D' now' L', KnS w0 w' D' p now' L' ∧ grewD D D' w ∧ Mod D w w' := by
  refine (h.t.at_.advAny h.t.tab h.t.off ht).mono ?_
  rintro e w' ⟨a, c, rfl, hr, ⟨D', hc, hg, hf⟩, hm⟩
  exact ⟨_, rfl, D', _, _, h.step (h.t.next hc hg hm) hg hm, hg, hm⟩
theorem gr_step {Dc Dn : Nat → Prop} {s : Nat} {u : World} (hd : ∀ k, Dc k → D k ∨ s ≤ k) (hg : grewD Dc Dn u) (hu : s ≤ u.heap.size) : ∀ k, Dn k → D k ∨ s ≤ k := fun k hk => by
  rcases hg k hk with e | e
  · exact hd k e
  · exact .inr (by omega)
/-- Behind all that the old one went through. -/
theorem StI.copied {W1 v1 v4 : World} {D2 : Nat → Prop} {p2 : Nat} (h : StI w0 w p now a n c D L) (hp : Pure w W1) (hc : CasAt v1 D2 p2 now L) (hp1 : Pure W1 v1) (hf : ∀ k, D2 k → W1.heap.size ≤ k) (hm : Mod (fun k => D k ∨ v1.heap.size ≤ k) v1 v4) {b2 : Nat} (hb : w.heap.size ≤ b2) (hb2 : b2 < W1.heap.size) (v0 v1' : Value) :
    StP w0 w a n c D (.returned (.tuple #[lkP p2, whV now a n c, .bool true])) ((v4.setCell ⟨b2, 0, none⟩ v0).setCell ⟨b2, 1, none⟩ v1') := by
  have s1 := hp.size; have s2 := hp1.size; have s0 := h.ks.pu.size
  have hD : ∀ k, D k → k < w.heap.size := fun k hk => h.ks.lt hk
  have hms := Mod.set2 (w := v4) b2 0 1 v0 v1'
  have h00 := h.ks.t.tab.lt
  have hall : Mod (fun k => D k ∨ w.heap.size ≤ k) w ((v4.setCell ⟨b2, 0, none⟩ v0).setCell ⟨b2, 1, none⟩ v1') :=
    ((Mod.of_pure (hp.trans hp1)).trans (hm.mono (fun k _ hk => by rcases hk with e | e; (· exact .inl e); (· exact .inr (by omega))))).trans (hms.mono (fun k _ hk => .inr (by omega)))
  have hc4 : CasAt v4 D2 p2 now L := hc.frame hm (fun k hk e => by
    rcases e with e | e
    · have := hD k e; have := hf k hk; omega
    · have := hc.lt hk; omega)
  refine ⟨p2, now, a, n, c, D2, L, rfl, ⟨⟨⟨hc4.frame hms (fun k hk e => by have := hf k hk; omega), h.ks.t.tab.mod hall (fun e => by rcases e with e | e; (· exact h.ks.t.off e); (· omega)), fun e => by have := hf 0 e; omega⟩, fun k hk => by have := hf k hk; omega, h.ks.pu.then hall (fun k hk e => by
    rcases e with e | e
    · have := h.ks.ge k e; omega
    · omega)⟩, h.rd.frame hall (fun g hg e => by
      rcases e with e | e
      · exact h.off g hg e
      · have := h.rd.lt hg; omega), fun g hg e => by have := h.rd.lt hg; have := hf g e; omega⟩, fun k hk => .inr (by have := hf k hk; omega), .inl ⟨rfl, rfl, rfl⟩, (Mod.refl _ w).then hall (fun k hk e => by
      rcases e with e | e
      · exact e
      · omega)⟩
set_option maxHeartbeats 2000000 in
theorem step_copy (h : StI w0 w p now a n c D L) (ht : ActOk t) (h0 : ∀ k : Int, 0 ≤ k → k ≤ 5 → t.what ≠ k) :
    Calls Tryd.prog 30 #[lkP p, whV now a n c, actV t] w (StP w0 w a n c D) := by
  unfold actV
  have hst := h
  unfold whV
  obtain ⟨W1, b0, b1, b2, hW, e0, e1, e2, hB⟩ := boxA_ok (w := w) (now := now) (a := a) (n := n) (c := c) (t := t)
  unfold boxA at hW
  have hx := hB.cells (Mod.refl _ W1)
  have hw0 : (t.what == 0) = false := by simpa using h0 0 (by omega) (by omega)
  have hw1 : (t.what == 1) = false := by simpa using h0 1 (by omega) (by omega)
  have hw2 : (t.what == 2) = false := by simpa using h0 2 (by omega) (by omega)
  have hw3 : (t.what == 3) = false := by simpa using h0 3 (by omega) (by omega)
  have hw4 : (t.what == 4) = false := by simpa using h0 4 (by omega) (by omega)
  have hw5 : (t.what == 5) = false := by simpa using h0 5 (by omega) (by omega)
  have hs1 := h.pure hB.pure
  have h64 := h.ks.t.at_.now64
  have hcp := hs1.ks.t.at_.copy
  have htm := timed_ok 55 18446744073709551614 1152921504606846976
  unfold tdV at htm
  dsimp only at htm
  obtain ⟨tt, hte⟩ : ∃ tt, now + min 300 (18446744073709551615 - now) = tt := ⟨_, rfl⟩
  have ht64 : tt < 18446744073709551616 := by omega
  obtain ⟨d, hd⟩ : ∃ d : Nat, 18446744073709551615 - now = d := ⟨_, rfl⟩
  have hdI : (18446744073709551615 : Int) - (now : Int) = (d : Int) := by omega
  have wd : IntKind.u64.wrap (d : Int) = (d : Int) := by simp [IntKind.wrap, IntKind.signed, IntKind.bits]; omega
  have wt : IntKind.u64.wrap ((now : Int) + min (300 : Int) (d : Int)) = (tt : Int) := by
    have e : (now : Int) + min (300 : Int) (d : Int) = (tt : Int) := by omega
    rw [e]; simp [IntKind.wrap, IntKind.signed, IntKind.bits]; omega
  have HT64 := Lib.hid ht64
  have HB := Lib.hid hB; have HW := Lib.hid hW; have E0 := Lib.hid e0; have E1 := Lib.hid e1; have E2 := Lib.hid e2; have HH := Lib.hid hst; have HS1 := Lib.hid hs1; have HTm := Lib.hid htm; have HCp := Lib.hid hcp
  have HK := Lib.hid (fun (u : World) (hp : Pure W1 u) => hB.cells hp)
  clear hB hW e0 e1 e2 hs1 h hst h0 h64 ht64 hte hd htm hcp ht
  go_enter Tryd.func30, Tryd.ntmps30
  go_upto_region 1 with fail
  rw [HW.out, E2.out, E1.out, E0.out]
  clear HW E0 E1 E2
  obtain ⟨x0, x1, y0, y1, y2, y3⟩ := hx
  go_upto_region 23 with (go_at_call 14; refine Calls.mono HCp.out ?_; rintro e v1 ⟨p2, D2, rfl, hc2, hp1, hf2⟩; have HC2 := Lib.hid hc2; have HP1 := Lib.hid hp1; have HF2 := Lib.hid hf2; clear hc2 hp1 hf2)
  clear x0 x1 y0 y1 y2 y3 hw0 hw1 hw2 hw3 hw4 hw5 HCp
  have hsc := fun (W : World) (hp : Pure v1 W) => (HS1.out.ks.pure (HP1.out.trans hp)).schedM2 (x := ⟨55, 18446744073709551614, 1152921504606846976⟩) (by decide) (by decide) (by decide)
  unfold tdV at hsc
  dsimp only at hsc
  have HSc := Lib.hid hsc
  clear hsc
  go_upto_region 24 with (first
    | (go_at_call 12; refine Calls.mono (HTm.out _) ?_; rintro e u1 ⟨rfl, hq1⟩; have HQ1 := Lib.hid hq1; clear hq1)
    | (go_at_call 13; refine Calls.mono (HSc.out _ HQ1.out) ?_; rintro e v2 ⟨rfl, D3, hs3, hg3, hm3⟩
       have HS3 := Lib.hid hs3; have HG3 := Lib.hid hg3; have HM3 := Lib.hid hm3
       clear hs3 hg3 hm3))
  have hd3 := gr_step (fun k hk => .inl hk) HG3.out HQ1.out.size
  have hM3 : Mod (fun k => D k ∨ v1.heap.size ≤ k) v1 v2 := (Mod.of_pure HQ1.out).trans (HM3.out.mono (fun k _ hk => .inl hk))
  have hca := HS3.out.cancelM2 (s := 0) (by omega)
  have HD3 := Lib.hid hd3; have HMa := Lib.hid hM3; have HCa := Lib.hid hca
  clear hd3 hM3 hca HSc HTm
  go_upto_region 25 with (go_at_call 24; refine Calls.mono HCa.out ?_; rintro e v3 ⟨rfl, D4, hs4, hg4, hm4⟩; have HS4 := Lib.hid hs4; have HG4 := Lib.hid hg4; have HM4 := Lib.hid hm4; clear hs4 hg4 hm4)
  have hd4 := gr_step HD3.out HG4.out HMa.out.size
  have hM4 := HMa.out.trans (HM4.out.mono (fun k _ hk => HD3.out k hk))
  have HD4 := Lib.hid hd4; have HMb := Lib.hid hM4
  have HNo := Lib.hid HS4.out.t.at_.now_
  have HAd := Lib.hid (HS4.out.advM3 HT64.out)
  clear hd4 hM4 HCa
  go_upto_region 26 with (first
    | (go_at_call 28; refine Calls.mono HNo.out ?_; rintro e w' ⟨rfl, rfl⟩)
    | (go_at_call 16; refine Calls.mono HAd.out ?_; rintro e v4 ⟨va, rfl, D5, now5, L5, hs5, hg5, hm5⟩
       have HM5 := Lib.hid hm5
       clear hs5 hg5 hm5))
  have hM5 := HMb.out.trans (HM5.out.mono (fun k _ hk => HD4.out k hk))
  have hlW : ∀ k, D k → k < w.heap.size := fun k hk => HH.out.ks.lt hk
  have hb2 := lt_of_block HB.out.h2
  have hb0 := lt_of_block HB.out.h0
  have hs1 := HP1.out.size
  have n0 : ¬ (D b0 ∨ v1.heap.size ≤ b0) := fun e => by
    rcases e with e | e
    · have := hlW _ e; have := HB.out.z0; omega
    · omega
  have n2 : ¬ (D b2 ∨ v1.heap.size ≤ b2) := fun e => by
    rcases e with e | e
    · have := hlW _ e; have := HB.out.z2; omega
    · omega
  have h04 := hM5.heap n0 (HP1.out.heap (fun h => h) HB.out.h0)
  have h24 := hM5.heap n2 (HP1.out.heap (fun h => h) HB.out.h2)
  have n02 := HB.out.ne02
  have hST := HH.out.copied HB.out.pure HC2.out HP1.out HF2.out hM5 HB.out.z2 hb2 (.int .u64 now) (.slice a n c)
  have HST := Lib.hid hST
  clear hM5 hlW hb2 hb0 hs1 n0 n2 hST HMb HMa
  have h04_0 := cell_of_row _ _ 0 _ _ _ h04; have h04_1 := cell_of_row _ _ 1 _ _ _ h04; have h04_f := (fun j => frozen_of_row _ _ j _ _ h04); have h04_l := lt_of_block h04; simp at h04_0 h04_1; have H_h04 := Lib.hid h04; clear h04
  have h24_0 := cell_of_row _ _ 0 _ _ _ h24; have h24_1 := cell_of_row _ _ 1 _ _ _ h24; have h24_f := (fun j => frozen_of_row _ _ j _ _ h24); have h24_l := lt_of_block h24; simp at h24_0 h24_1; have H_h24 := Lib.hid h24; clear h24
  go_region
  all_goals
    go_wp2
    refine bodyPost_ret (v := .tuple #[lkP p2, .agg #[.int .u64 now, .slice a n c], .bool true]) (by simp [results, Tryd.results30, go_sem, h24_0, h24_1, h24_l]) rfl ?_
    first | exact HST.out | exact HST.out.drew
end
end Go.Proofs.YtlalpenfgkfkpaaDoor

/- law20.step in one; law20.few; the acts in memory. Conditions: the cascade lies in memory, the lists are read. -/
namespace Go.Proofs.YtlalpenfgkfkpaaDoor
open Go.RowKit Go.Shelf
set_option maxRecDepth 100000
/-- A Bool is given. -/
def BoolE (e : Ending) : Prop := ∃ v : Bool, e = .returned (.bool v)
def actC (t : Act20) : List Value := [.int .i64 t.what, .int .u32 t.slot, .int .u64 t.birth, .int .u64 t.time]
section
variable {w0 w wr w5 w6 w7 : World} {D D' : Nat → Prop} {p p' now now' n c n' c' b tt : Nat} {a a' : Option Addr} {L L' : List Td} {t : Act20} {es : List Act20}
theorem step_ok (h : StI w0 w p now a n c D L) (ht : ActOk t) : Calls Tryd.prog 30 #[lkP p, whV now a n c, actV t] w (StP w0 w a n c D) := by
  by_cases h0 : t.what = 0
  · exact step_sched h ht h0
  by_cases h1 : t.what = 1
  · exact step_cancel h ht h1
  by_cases h2 : t.what = 2
  · exact step_resched h ht h2
  by_cases h3 : t.what = 3
  · exact step_adv3 h ht h3
  by_cases h4 : t.what = 4
  · exact step_adv4 h ht h4
  by_cases h5 : t.what = 5
  · exact step_adv5 h ht h5
  exact step_copy h ht (fun k k0 k5 e => by omega)
theorem act_read {w : World} {a : Option Addr} {n c : Nat} (h : ReadAt w (.slice a n c) 4 (es.flatMap actC)) {j : Nat} (hx : es[j]? = some t) :
    ∃ ad, a = some ad ∧ w.cell? (ad.add (j * 4)) = some (.int .i64 t.what) ∧ w.cell? ⟨(ad.add (j * 4)).block, (ad.add (j * 4)).off + 1, none⟩ = some (.int .u32 t.slot) ∧ w.cell? ⟨(ad.add (j * 4)).block, (ad.add (j * 4)).off + 2, none⟩ = some (.int .u64 t.birth) ∧ w.cell? ⟨(ad.add (j * 4)).block, (ad.add (j * 4)).off + 3, none⟩ = some (.int .u64 t.time) := by
  obtain ⟨a', n', c', e, hl, _, h0, hc⟩ := h
  injection e with e1 e2 e3
  subst e1 e2 e3
  have hj := (List.getElem?_eq_some_iff.1 hx).1
  cases a with
  | none =>
    have := h0 rfl
    subst this
    rw [flat_length actC 4 (fun _ => rfl)] at hl
    omega
  | some ad =>
    have g := fun i (hi : i < 4) => flat_get actC 4 (fun _ => rfl) i hi es j
    have c0 := hc ad rfl (j * 4 + 0) (.int .i64 t.what) (by rw [g 0 (by omega), hx]; rfl)
    have c1 := hc ad rfl (j * 4 + 1) (.int .u32 t.slot) (by rw [g 1 (by omega), hx]; rfl)
    have c2 := hc ad rfl (j * 4 + 2) (.int .u64 t.birth) (by rw [g 2 (by omega), hx]; rfl)
    have c3 := hc ad rfl (j * 4 + 3) (.int .u64 t.time) (by rw [g 3 (by omega), hx]; rfl)
    exact ⟨ad, rfl, c0, cell_addT (j := 0) c1, cell_addT (j := 1) c2, cell_addT (j := 2) c3⟩
theorem few20_ok (h : ReadAt w (.slice a n c) 4 (es.flatMap actC)) (hn : es.length = n) :
    Calls Tryd.prog 29 #[.slice a n c] w fun e w' => BoolE e ∧ Pure w w' := by
  have HR := Lib.hid h; have HN := Lib.hid hn
  clear h hn
  go_enter Tryd.func29, Tryd.ntmps29
  go_upto_region 2 with fail
  go_loopw [3] (fun v3 wr => ∃ j : Nat, v3 = .int .i64 (j : Nat) ∧ j ≤ n ∧ j ≤ 41 ∧ Pure w wr) (fun v3 _ => 41 - (intOf v3).toNat)
  case atStart => exact ⟨0, rfl, Nat.zero_le _, Nat.zero_le _, Mod.refl _ _⟩
  case round =>
    obtain ⟨j, rfl, hj, hj41, hp⟩ := hrel
    have HP := Lib.hid hp
    by_cases hlt : j < n
    · have hlt' : (j : Int) < (n : Int) := by omega
      have d1 : decide (j < n) = true := decide_eq_true hlt
      by_cases h41 : j < 41
      · have h41' : (j : Int) < 41 := by omega
        have j0 : (0 : Int) ≤ (j : Int) := by omega
        have wj : IntKind.i64.wrap ((j : Int) + 1) = (j : Int) + 1 := IntWalk.i64_in _ (by omega)
        obtain ⟨t, ht⟩ : ∃ t, es[j]? = some t := ⟨_, List.getElem?_eq_getElem (by rw [HN.out]; exact hlt)⟩
        obtain ⟨ad, rfl, z0, z1, z2, z3⟩ := act_read (HR.out.frame hp (fun _ _ h => h)) ht
        clear ht hp
        obtain ⟨sl, hsl⟩ : ∃ sl, t.slot = sl := ⟨_, rfl⟩
        rw [hsl] at z1
        clear hsl
        by_cases c1 : 5000 ≤ sl
        · have c1' : (5000 : Int) ≤ (sl : Int) := by omega
          by_cases c2 : sl < 4194304
          · have c2' : (sl : Int) < 4194304 := by omega
            clear c1 c2
            go_wp2
            go_ret
            exact ⟨⟨false, rfl⟩, HP.out⟩
          · have c2' : ¬ (sl : Int) < 4194304 := by omega
            clear c1 c2
            go_wp2
            go_roundw
            case rel => exact ⟨j + 1, by go_num, hlt, h41, HP.out⟩
            case measure => simp [intOf]; omega
        · have c1' : ¬ (5000 : Int) ≤ (sl : Int) := by omega
          clear c1
          go_wp2
          go_roundw
          case rel => exact ⟨j + 1, by go_num, hlt, h41, HP.out⟩
          case measure => simp [intOf]; omega
      · have h41' : ¬ (j : Int) < 41 := by omega
        clear hp
        go_wp2
        go_ret
        exact ⟨⟨decide ((n : Int) ≤ 40), rfl⟩, HP.out⟩
    · have hge : ¬ (j : Int) < (n : Int) := by omega
      have d1 : decide (j < n) = false := decide_eq_false hlt
      clear hp
      go_wp2
      go_ret
      exact ⟨⟨decide ((n : Int) ≤ 40), rfl⟩, HP.out⟩
theorem JmI.st (h : JmI w0 wr p now b a n c D L) : StI w0 wr p now a n c D L := ⟨h.ks, h.rd, fun g hg => (h.off g hg).1⟩
theorem JmI.stepped (h : JmI w0 wr p now b a n c D L) (hp : Pure wr w5) (hS : StI w0 w6 p' now' a' n' c' D' L') (hg : grewD D D' w5) (hk : Kept w5 a n c a' n' c') (hm : Mod D w5 w6) (hp7 : Pure w6 w7) :
    JmI w0 ((w7.setCell ⟨b, 0, none⟩ (.int .u64 now')).setCell ⟨b, 1, none⟩ (.slice a' n' c')) p' now' b a' n' c' D' L' := by
  have hbl := lt_of_block h.box
  have hsz := hp.size
  have nb' : ¬ D' b := fun hd => by
    rcases hg b hd with e | e
    · exact h.nb e
    · omega
  have ne : ∀ g, rdBlock (.slice a' n' c') = some g → g ≠ b := fun g hg' => by
    rcases hk.rd hg' with e | e
    · exact (h.off g e).2
    · omega
  have hms := Mod.set2 (w := w7) b 0 1 (.int .u64 now') (.slice a' n' c')
  have hS7 := hS.pure hp7
  exact ⟨⟨hS7.ks.t.frame hms (fun k hk e => by subst e; exact nb' hk) (fun e => by have := h.bw; have := h.w00; omega), hS7.ks.ge, hS7.ks.pu.then hms (fun k hk e => by have := h.bw; omega)⟩, hS7.rd.frame hms ne, fun g hg' => ⟨hS.off g hg', ne g hg'⟩, heap_set12 (hp7.heap (fun h => h) (hm.heap h.nb (hp.heap (fun h => h) h.box))), nb', h.bw, h.w00⟩
end
end Go.Proofs.YtlalpenfgkfkpaaDoor

/- A slice of law20's acts that came in. -/
namespace Go.Proofs.YtlalpenfgkfkpaaDoor
open Go.ChangeShapes Go.WideShapes Go.ChangeAt Go.RowKit Go.Deep Go.Joins

set_option maxRecDepth 100000
theorem list4 {α : Type} {l : List α} (h : l.length = 4) : ∃ a b c d, l = [a, b, c, d] := by
  match l, h with
  | [a, b, c, d], _ => exact ⟨a, b, c, d, rfl⟩
theorem acts20_of {H : Type} {enc : TypeId × Value → H} {W : World} {base : Nat} {sp : Nat → Bool} {held : Bool} {r : Reach} {b0 : Nat} {v : Value} {d : DataW H} {p : List MemPlace} (hv : Value.okWide Tryd.prog W r b0 63 v) (h : DataW.Trod enc Tryd.prog W base sp held 63 v d p) :
    ∃ (a : Option Addr) (c : Nat) (es : List Act20), v = .slice a es.length c ∧ es.length ≤ 9223372036854775807 ∧ ReadAt W (.slice a es.length c) 4 (es.flatMap actC) ∧ (∀ t ∈ es, ActOk t) := by
  obtain ⟨a0, n0, c0, rfl⟩ := okWide_slice Tryd.underlying63 hv
  obtain ⟨fuel, hf⟩ := h
  rcases open_slice Tryd.underlying63 hf with ⟨hcs, _⟩ | ⟨a, len, cap, m, n, D, Pl, hcs, hb, hl, hm, hmm, hx, hi⟩
  · simp [Value.cells] at hcs
    obtain ⟨rfl, rfl, rfl⟩ := hcs
    exact ⟨none, 0, [], rfl, by simp, ReadAt.nil _ _, by simp⟩
  · simp [Value.cells] at hcs
    obtain ⟨rfl, rfl, rfl⟩ := hcs
    have e4 : (Tryd.prog).cellsOf 68 = 4 := by kernel_rfl
    have k2 : (Tryd.prog).cellsOf 23 = 1 := by kernel_rfl
    have k3 : (Tryd.prog).cellsOf 22 = 1 := by kernel_rfl
    have k4 : (Tryd.prog).cellsOf 3 = 1 := by kernel_rfl
    have k5 : (Tryd.prog).cellsOf 29 = 1 := by kernel_rfl
    have hone : ∀ i, i < n0 → ∃ t : Act20, ActOk t ∧ ∀ j u, (actC t)[j]? = some u → W.cell? (a.add (i * 4 + j)) = some u := fun i hin => by
      have him : i < m := by rw [hmm]; split <;> omega
      obtain ⟨cs', hc, ht'⟩ := hi i him
      rw [e4] at hc
      obtain ⟨_, hcl, hat⟩ := World.cells?_some hc
      obtain ⟨y0, y1, y2, y3, n', _, hlen, t0, t1, t2, t3⟩ := trod_struct4 Tryd.underlying68 ht'
      rw [e4] at hlen
      obtain ⟨v0, v1, v2, v3, rfl⟩ := list4 hlen
      simp only [k2, k3, k4, k5, List.drop, List.take] at t0 t1 t2 t3
      obtain ⟨z0, f0, _, _⟩ := DataW.trod_int Tryd.underlying3 t0
      obtain ⟨z1, f1, _, w1⟩ := DataW.trod_int Tryd.underlying29 t1
      obtain ⟨z2, f2, _, w2⟩ := DataW.trod_int Tryd.underlying22 t2
      obtain ⟨z3, f3, _, w3⟩ := DataW.trod_int Tryd.underlying23 t3
      cases f0; cases f1; cases f2; cases f3
      have g1 := wf_u32 _ w1
      have g2 := wf_u64 _ w2
      have g3 := wf_u64 _ w3
      have q1 : ((z1.toNat : Nat) : Int) = z1 := Int.toNat_of_nonneg g1.1
      have q2 : ((z2.toNat : Nat) : Int) = z2 := Int.toNat_of_nonneg g2.1
      have q3 : ((z3.toNat : Nat) : Int) = z3 := Int.toNat_of_nonneg g3.1
      refine ⟨⟨z0, z1.toNat, z2.toNat, z3.toNat⟩, ⟨by show z1.toNat ≤ _; omega, by show z2.toNat ≤ _; omega, by show z3.toNat ≤ _; omega⟩, fun j u hu => ?_⟩
      have hj : j < 4 := (List.getElem?_eq_some_iff.1 hu).1
      have h1 := hat j hj
      rw [Go.Deep.add_add] at h1
      rw [h1]
      unfold actC at hu
      simp only [q1, q2, q3] at hu
      have : j = 0 ∨ j = 1 ∨ j = 2 ∨ j = 3 := by omega
      rcases this with rfl | rfl | rfl | rfl <;> exact hu
    obtain ⟨ac, hlen, hac⟩ : ∃ ac : List Act20, ac.length = n0 ∧ ∀ i, i < n0 → ∃ t, ac[i]? = some t ∧ ActOk t ∧ ∀ j u, (actC t)[j]? = some u → W.cell? (a.add (i * 4 + j)) = some u := by
      classical
      refine ⟨List.ofFn (fun i : Fin n0 => Classical.choose (hone i.1 i.2)), by simp, fun i hi => ⟨Classical.choose (hone i hi), by simp [List.getElem?_ofFn, hi], Classical.choose_spec (hone i hi)⟩⟩
    have hm' : n0 ≤ 9223372036854775807 := by unfold maxLen at hm; omega
    refine ⟨some a, c0, ac, by rw [hlen], by rw [hlen]; exact hm', ⟨some a, n0, c0, by rw [hlen], ?_, ?_, (fun h => by cases h), ?_⟩, fun y hy => ?_⟩
    · rw [flat_length actC 4 (fun _ => rfl) ac, hlen]
    · intro u hu
      obtain ⟨y, _, hy⟩ := List.mem_flatMap.1 hu
      unfold actC at hy
      simp only [List.mem_cons, List.not_mem_nil, or_false] at hy
      rcases hy with rfl | rfl | rfl | rfl <;> rfl
    · intro ad had k u hu
      cases had
      have hk : k < n0 * 4 := by
        have := (List.getElem?_eq_some_iff.1 hu).1
        rw [flat_length actC 4 (fun _ => rfl) ac, hlen] at this
        exact this
      have hd : k / 4 * 4 + k % 4 = k := by omega
      obtain ⟨y, hy, _, hc⟩ := hac (k / 4) (by omega)
      have h1 := flat_get actC 4 (fun _ => rfl) (k % 4) (by omega) ac (k / 4)
      rw [hy, hd, hu] at h1
      have := hc (k % 4) u h1.symm
      rw [hd] at this
      exact this
    · obtain ⟨i, hi⟩ := List.getElem?_of_mem hy
      have hil := (List.getElem?_eq_some_iff.1 hi).1
      obtain ⟨y', hy', hok, _⟩ := hac i (by omega)
      rw [hi] at hy'
      cases hy'
      exact hok
end Go.Proofs.YtlalpenfgkfkpaaDoor
