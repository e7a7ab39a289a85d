/- Lemmas and contracts of functions, strung together out of 1 texts. No condition. -/
import Derived.Test.YtapplindfijngaaGreatJPfDictOf30
import Derived.Test.YtapplindfijngaaGreatJPfDictOf26
import Derived.Test.YtapplindfijngaaGreatJPfDictOf28
/- law10.DictOf answers true. Conditions: the entries and the slot numbers are read. -/
namespace Go.Proofs.YtapplindfijngaaGreat
open Go.RowKit Go.Shelf
set_option maxRecDepth 100000

theorem read_elem {W : World} {a : Option Addr} {n c : Nat} {xs : List Value} (h : ReadAt W (.slice a n c) 1 xs) {j : Nat} {u : Value} (hu : xs[j]? = some u) : ∃ ad, a = some ad ∧ W.cell? (ad.add j) = some u := by
  obtain ⟨a', n', c', e, hl, _, h0, hc⟩ := h
  cases e
  cases a with
  | none =>
    have := h0 rfl
    have := (List.getElem?_eq_some_iff.1 hu).1
    omega
  | some ad => exact ⟨ad, rfl, hc ad rfl j u hu⟩
theorem cell_addE {W : World} {ad : Addr} {k j : Nat} {u : Value} (h : W.cell? (ad.add (k + (j + 1))) = some u) : W.cell? ⟨(ad.add k).block, (ad.add k).off + (j + 1), none⟩ = some u := by
  rw [← Go.Deep.add_add] at h
  unfold Addr.add at h ⊢
  rw [if_neg (by omega)] at h
  exact h
theorem ents_at {W : World} {a : Option Addr} {n c : Nat} {es : List EIn} (h : ReadAt W (.slice a n c) 4 (es.flatMap eCells)) (hn : es.length = n) {i : Nat} {y : EIn} (hy : es[i]? = some y) :
    ∃ ad, a = some ad ∧ W.cell? (ad.add (i * 4)) = some (.string y.x.key) ∧ W.cell? ⟨(ad.add (i * 4)).block, (ad.add (i * 4)).off + 1, none⟩ = some (.slice y.a y.n y.c) ∧ W.cell? ⟨(ad.add (i * 4)).block, (ad.add (i * 4)).off + 2, none⟩ = some (.int .u64 y.x.dl) ∧ W.cell? ⟨(ad.add (i * 4)).block, (ad.add (i * 4)).off + 3, none⟩ = some (.int .u64 y.x.birth) := by
  obtain ⟨a', n', c', he, hl, _, h0, hc⟩ := h
  cases he
  have hi := (List.getElem?_eq_some_iff.1 hy).1
  have hcell : ∀ ad, a = some ad → ∀ j u, (eCells y)[j]? = some u → W.cell? (ad.add (i * 4 + j)) = some u := fun ad had j u hu => by
    have hj : j < 4 := (List.getElem?_eq_some_iff.1 hu).1
    have h1 := flat_get eCells 4 (fun _ => rfl) j hj es i
    rw [hy] at h1
    exact hc ad had _ _ (h1.trans hu)
  cases a with
  | none => have := h0 rfl; omega
  | some ad =>
    exact ⟨ad, rfl, hcell ad rfl 0 _ rfl, cell_addE (j := 0) (hcell ad rfl 1 _ rfl), cell_addE (j := 1) (hcell ad rfl 2 _ rfl), cell_addE (j := 2) (hcell ad rfl 3 _ rfl)⟩
theorem ofK {w : World} {D : Nat → Prop} {q : Nat} {L : List (Option Ent)} (h : LogAt w D q L) (hk : KeysOk L) (seed : Nat) (same : Bool) (hsd : seed < 18446744073709551616) :
    Calls Tryz.prog 26 #[.agg #[.int .u64 seed, .bool same], .pointer (some ⟨q, 0, none⟩)] w fun e w' => ∃ d D2, e = .returned (.tuple #[.pointer (some ⟨d, 0, none⟩), .int .i64 0]) ∧ DictAt w' D2 d seed same L (ofM seed same L (live L)) ∧ Pure w w' := by
  refine Calls.mono (of_ok h seed same hsd) ?_
  rintro e w' (⟨_, ⟨d, D2, rfl, h1, _⟩, hp⟩ | ⟨h1, _⟩)
  · exact ⟨d, D2, rfl, h1, hp⟩
  · exact absurd hk h1
theorem ofB {w : World} {D : Nat → Prop} {q : Nat} {L : List (Option Ent)} (h : LogAt w D q L) (hk : ¬ KeysOk L) (seed : Nat) (same : Bool) (hsd : seed < 18446744073709551616) :
    Calls Tryz.prog 26 #[.agg #[.int .u64 seed, .bool same], .pointer (some ⟨q, 0, none⟩)] w fun e w' => e = .returned (.tuple #[.pointer none, .int .i64 11]) ∧ Pure w w' := by
  refine Calls.mono (of_ok h seed same hsd) ?_
  rintro e w' (⟨h1, _⟩ | ⟨_, rfl, hp⟩)
  · exact absurd h1 hk
  · exact ⟨rfl, hp⟩
theorem lenP {w : World} {D : Nat → Prop} {p : Nat} {L : List (Option Ent)} (h : LogAt w D p L) (n : Nat) (hn : L.length = n) : Calls Tryz.prog 28 #[.pointer (some ⟨p, 0, none⟩)] w fun e w' => e = .returned (.int .i64 n) ∧ Pure w w' := by
  subst hn
  exact Calls.mono (lenA h) (by rintro e w' ⟨rfl, rfl⟩; exact ⟨rfl, Mod.refl _ _⟩)
set_option maxHeartbeats 8000000 in
theorem DictOf_true {w : World} (seed : Int) (hs0 : 0 ≤ seed) (hs1 : seed ≤ 18446744073709551615) (same : Bool) (a : Option Addr) (c : Nat) (es : List EIn) (hr : ReadAt w (.slice a es.length c) 4 (es.flatMap eCells)) (hok : ∀ y ∈ es, EOk w y) (hl : es.length ≤ 9223372036854775807)
    (a2 : Option Addr) (c2 : Nat) (gs : List Nat) (hg : ReadAt w (.slice a2 gs.length c2) 1 (u32s gs)) (hgu : ∀ s ∈ gs, s ≤ 4294967295) (hgl : gs.length ≤ 9223372036854775807) :
    Calls Tryz.prog 4 #[.int .u64 seed, .bool same, .slice a es.length c, .slice a2 gs.length c2] w fun e w' => e = .returned (.bool true) ∧ Pure w w' := by
  have HKn := Lib.hid (fun W => known10_true W)
  obtain ⟨seed, rfl⟩ := Int.eq_ofNat_of_zero_le hs0
  have hsd : seed < 18446744073709551616 := by omega
  obtain ⟨N, hN⟩ : ∃ N, es.length = N := ⟨_, rfl⟩
  obtain ⟨G, hG⟩ : ∃ G, gs.length = G := ⟨_, rfl⟩
  rw [hN] at hr hl ⊢
  rw [hG] at hg hgl ⊢
  have HR := Lib.hid hr; have HOK := Lib.hid hok; have HGR := Lib.hid hg; have HGU := Lib.hid hgu; have HEN := Lib.hid hN; have HGN := Lib.hid hG
  clear hr hok hg hgu hN hG hs0 hs1
  have wN : IntKind.i64.wrap (N : Int) = N := IntWalk.i64_in _ (by omega)
  have wG : IntKind.i64.wrap (G : Int) = G := IntWalk.i64_in _ (by omega)
  by_cases c1 : 60 < N
  · have d1 : decide (60 < (N : Int)) = true := decide_eq_true (by omega)
    go_enter Tryz.func4, Tryz.ntmps4
    go_wp2_with (go_at_call 7; refine Calls.mono (HKn.out _) ?_; rintro e w1 ⟨rfl, hp1⟩)
    go_ret
    exact ⟨rfl, hp1⟩
  have d1 : decide (60 < (N : Int)) = false := decide_eq_false (by omega)
  by_cases c3 : 60 < G
  · have d2 : decide (60 < (G : Int)) = true := decide_eq_true (by omega)
    go_enter Tryz.func4, Tryz.ntmps4
    go_wp2_with (go_at_call 7; refine Calls.mono (HKn.out _) ?_; rintro e w1 ⟨rfl, hp1⟩)
    go_ret
    exact ⟨rfl, hp1⟩
  have d2 : decide (60 < (G : Int)) = false := decide_eq_false (by omega)
  have hN60 : N ≤ 60 := by omega
  have hG60 : G ≤ 60 := by omega
  clear c1 c3 hl hgl
  have HNe := Lib.hid (newA_ok w)
  have HNh := Lib.hid (fun W => hnew10 (seed : Int) same W)
  go_enter Tryz.func4, Tryz.ntmps4
  go_upto_region 4 with (go_at_call 21; refine Calls.mono HNe.out ?_; rintro e w1 ⟨rfl, hlg, hp1, hz1⟩; dsimp only [logPtr] at *)
  have hal : Pure w1 (w1.alloc (.cells #[.slice none 0 0, .slice none 0 0] 32)) := (Mod.refl _ w1).alloc _
  have hI : CLs w w.heap.size w1.heap.size (fun k => k = w.heap.size) none 0 none 0 0 [] (w1.alloc (.cells #[.slice none 0 0, .slice none 0 0] 32)) :=
    ⟨hp1.trans hal, hlg.pure hal, heap_new rfl, RefRow.nil _, rfl, (fun g e => by cases e), fun k hk => by omega⟩
  have hbw : w.heap.size ≤ w1.heap.size := hp1.size
  have HI := Lib.hid hI
  clear hlg hp1 hal hI HNe hz1
  generalize w1.alloc (.cells #[.slice none 0 0, .slice none 0 0] 32) = W0 at *
  generalize w1.heap.size = b10 at *
  obtain ⟨p, hpe⟩ : ∃ p, w.heap.size = p := ⟨_, rfl⟩
  have HP0 := Lib.hid hpe
  rw [hpe] at HI ⊢
  clear hpe
  obtain ⟨D0, hD0⟩ : ∃ D0, (fun k : Nat => k = p) = D0 := ⟨_, rfl⟩
  rw [hD0] at HI
  clear hD0
  go_upto_region 7 with fail
  go_loopw [44] (fun v44 wr => ∃ (i : Nat) (D : Nat → Prop) (aL : Option Addr) (cL : Nat) (aG : Option Addr) (cG m : Nat) (Q : List RQ), v44 = .int .i64 (i : Nat) ∧ i ≤ N ∧ m ≤ i ∧ CLs w p b10 D aL cL aG cG m Q wr) (fun v44 _ => N - (intOf v44).toNat)
  case atStart => exact ⟨0, D0, none, 0, none, 0, 0, [], rfl, Nat.zero_le _, Nat.le_refl _, HI.out⟩
  case round =>
    clear HI
    obtain ⟨i, D, aL, cL, aG, cG, m, Q, rfl, hi, hmi, hI⟩ := hrel
    have HI := Lib.hid hI
    clear hI
    by_cases hlt : i < N
    · have hlt' : (i : Int) < (N : Int) := by omega
      have i0 : (0 : Int) ≤ (i : Int) := by omega
      have wi : IntKind.i64.wrap ((i : Int) + 1) = (i : Int) + 1 := IntWalk.i64_in _ (by omega)
      obtain ⟨y, hy⟩ : ∃ y, es[i]? = some y := ⟨_, List.getElem?_eq_getElem (by rw [HEN.out]; exact hlt)⟩
      have hEw := HOK.out y (List.mem_of_getElem? hy)
      have hEy := hEw.pure HI.out.pu
      have HEW := Lib.hid hEw
      clear hEw
      obtain ⟨ad, had, z0, z1, z2, z3⟩ := ents_at (HR.out.frame HI.out.pu (fun _ _ h => h)) HEN.out hy
      subst had
      have hky := hEy.key
      have hny := hEy.n0
      have HEY := Lib.hid hEy
      clear hy hEy
      obtain ⟨x, ya, yn, yc⟩ := y
      dsimp only at z0 z1 z2 z3 hky hny HEY HEW
      obtain ⟨key, hke⟩ : ∃ key, x.key = key := ⟨_, rfl⟩
      obtain ⟨dl, hdl⟩ : ∃ dl, x.dl = dl := ⟨_, rfl⟩
      obtain ⟨br, hbr⟩ : ∃ br, x.birth = br := ⟨_, rfl⟩
      rw [hke] at z0 hky
      rw [hdl] at z2
      rw [hbr] at z3
      have wk : IntKind.i64.wrap (key.size : Int) = key.size := IntWalk.i64_in _ (by omega)
      have wn : IntKind.i64.wrap (yn : Int) = yn := IntWalk.i64_in _ (by omega)
      have HKE := Lib.hid hke; have HDL := Lib.hid hdl; have HBR := Lib.hid hbr
      clear hke hdl hbr
      go_upto_region 9 with fail
      have hal : Pure wr (wr.alloc (.cells #[.string key, .slice ya yn yc, .int .u64 dl, .int .u64 br] 42)) := (Mod.refl _ wr).alloc _
      have h12 := heap_new (w := wr) (o := .cells #[.string key, .slice ya yn yc, .int .u64 dl, .int .u64 br] 42 (0, 0)) rfl
      have hb12 : b10 < wr.heap.size := lt_of_block HI.out.r6
      have hp12 : w.heap.size ≤ wr.heap.size := HI.out.pu.size
      have hnD : ¬ D wr.heap.size := fun e => by have := HI.out.log.lt e; omega
      replace HI := Lib.hid (HI.out.pure hal)
      replace HEY := Lib.hid (HEY.out.pure hal)
      clear hal z0 z1 z2 z3
      generalize wr.alloc (.cells #[.string key, .slice ya yn yc, .int .u64 dl, .int .u64 br] 42) = W1 at *
      generalize wr.heap.size = b12 at *
      have H12 := Lib.hid h12
      have h12_0 := cell_of_row _ _ 0 _ _ _ h12; have h12_1 := cell_of_row _ _ 1 _ _ _ h12; have h12_2 := cell_of_row _ _ 2 _ _ _ h12; have h12_3 := cell_of_row _ _ 3 _ _ _ h12; have h12_f := (fun j => frozen_of_row _ _ j _ _ h12); have h12_l := lt_of_block h12; simp at h12_0 h12_1 h12_2 h12_3; have H_h12 := Lib.hid h12; clear h12
      by_cases e1 : 300 < key.size
      · have f1 : decide (300 < (key.size : Int)) = true := decide_eq_true (by omega)
        go_wp2_with (go_at_call 7; refine Calls.mono (HKn.out _) ?_; rintro e w2 ⟨rfl, hp2⟩)
        go_ret
        exact ⟨rfl, HI.out.pu.trans hp2⟩
      have f1 : decide (300 < (key.size : Int)) = false := decide_eq_false (by omega)
      by_cases e2 : 300 < yn
      · have f2 : decide (300 < (yn : Int)) = true := decide_eq_true (by omega)
        go_wp2_with (go_at_call 7; refine Calls.mono (HKn.out _) ?_; rintro e w2 ⟨rfl, hp2⟩)
        go_ret
        exact ⟨rfl, HI.out.pu.trans hp2⟩
      have f2 : decide (300 < (yn : Int)) = false := decide_eq_false (by omega)
      have hap := appX_ok HI.out.log (by rw [List.length_map, HI.out.len]; omega) x HEY.out.b0 (by rw [HKE.out]; omega) ya yn yc HEY.out.rd (by omega)
      have hra := fun (W : World) (hW : RefRow W aL cL aG cG Q) (hx : ReadAt W (.slice ya yn yc) 1 (bytesOf x.val)) => rappX_ok hW HI.out.len (by omega) x HEY.out.b0 (by rw [HKE.out]; omega) ya yn yc hx (by omega)
      rw [HKE.out, HDL.out, HBR.out] at hap hra
      have HAp := Lib.hid hap; have HRa := Lib.hid hra
      clear hap hra e1 e2
      generalize noE x = er at *
      go_upto_region 12 with (go_at_call 22; refine Calls.mono HAp.out ?_; rintro e w2 ⟨s1, D', rfl, hl2, hm2, hg2⟩)
      have hpw2 : Pure w w2 := HI.out.pu.then hm2 (fun k hk e => by have := HI.out.dd k e; omega)
      have r10 := HI.out.log.box hm2 HI.out.r6 (by decide) (by decide)
      have h12b := hm2.heap hnD H12.out
      have hrf2 := HI.out.ref.beside HI.out.log hm2 (fun g hg => HI.out.ap g (HI.out.len ▸ hg))
      have HRa2 := Lib.hid (HRa.out w2 hrf2 (HEW.out.pure hpw2).rd)
      have HL2 := Lib.hid hl2; have HM2 := Lib.hid hm2; have HG2 := Lib.hid hg2; have HPW2 := Lib.hid hpw2; have R10 := Lib.hid r10
      clear h12_0 h12_1 h12_2 h12_3 h12_f h12_l
      clear H_h12 hl2 hm2 hg2 hpw2 hrf2 HRa HAp hnD
      have r10_0 := cell_of_row _ _ 0 _ _ _ r10; have r10_1 := cell_of_row _ _ 1 _ _ _ r10; have r10_f := (fun j => frozen_of_row _ _ j _ _ r10); have r10_l := lt_of_block r10; simp at r10_0 r10_1; have H_r10 := Lib.hid r10; clear r10
      have h12b_0 := cell_of_row _ _ 0 _ _ _ h12b; have h12b_1 := cell_of_row _ _ 1 _ _ _ h12b; have h12b_2 := cell_of_row _ _ 2 _ _ _ h12b; have h12b_3 := cell_of_row _ _ 3 _ _ _ h12b; have h12b_f := (fun j => frozen_of_row _ _ j _ _ h12b); have h12b_l := lt_of_block h12b; simp at h12b_0 h12b_1 h12b_2 h12b_3; have H_h12b := Lib.hid h12b; clear h12b
      go_upto_region 13 with (go_at_call 23; refine Calls.mono HRa2.out ?_; rintro e w3 ⟨aL2, cL2, aG2, cG2, Q2, m2, s2, rfl, hn3, hq3, hr3, ho3, hp3⟩)
      have hal : Pure w3 (w3.alloc (.cells #[.slice aL2 m2 cL2, .slice aG2 m2 cG2] 32)) := (Mod.refl _ w3).alloc _
      have h15 := heap_new (w := w3) (o := .cells #[.slice aL2 m2 cL2, .slice aG2 m2 cG2] 32 (0, 0)) rfl
      have hpX := hp3.trans hal
      have rX := hpX.heap (fun h => h) R10.out
      have HRX := Lib.hid (hr3.pure hal); have HO3 := Lib.hid ho3; have HN3 := Lib.hid hn3; have HQ3 := Lib.hid hq3; have HPX := Lib.hid hpX
      have hm2l : m2 ≤ m + 1 := by have := congrArg List.length hq3; rw [List.length_map, hn3] at this; have h2 := appR_length (Q.map absQ) x; rw [List.length_map, HI.out.len] at h2; omega
      clear r10_0 r10_1 r10_f r10_l
      clear h12b_0 h12b_1 h12b_2 h12b_3 h12b_f h12b_l
      clear H_r10 H_h12b hp3 hal hr3 ho3 hn3 hq3 hpX HRa2
      generalize w3.alloc (.cells #[.slice aL2 m2 cL2, .slice aG2 m2 cG2] 32) = X at *
      generalize w3.heap.size = b15 at *
      have rX_0 := cell_of_row _ _ 0 _ _ _ rX; have rX_1 := cell_of_row _ _ 1 _ _ _ rX; have rX_f := (fun j => frozen_of_row _ _ j _ _ rX); have rX_l := lt_of_block rX; simp at rX_0 rX_1; have H_rX := Lib.hid rX; clear rX
      have h15_0 := cell_of_row _ _ 0 _ _ _ h15; have h15_1 := cell_of_row _ _ 1 _ _ _ h15; have h15_f := (fun j => frozen_of_row _ _ j _ _ h15); have h15_l := lt_of_block h15; simp at h15_0 h15_1; have H_h15 := Lib.hid h15; clear h15
      go_wp2
      obtain ⟨Y, hY⟩ : ∃ Y, (X.setCell ⟨b10, 0, none⟩ (.slice aL2 m2 cL2)).setCell ⟨b10, 1, none⟩ (.slice aG2 m2 cG2) = Y := ⟨_, rfl⟩
      have HF := Lib.hid (HI.out.app (by omega) HL2.out HM2.out HG2.out HPX.out HN3.out HQ3.out HRX.out HPX.out.size HO3.out hY)
      rw [hY]
      go_roundw
      case rel => exact ⟨i + 1, D', aL2, cL2, aG2, cG2, m2, Q2, by go_num, hlt, by omega, HF.out⟩
      case measure => simp [intOf]; omega
    · have hin : N = i := by omega
      subst hin
      clear hi hlt
      have hm60 : m ≤ 60 := by omega
      clear hmi
      go_upto_region 18 with fail
      go_loopw [79] (fun v79 wr => ∃ (k : Nat) (D : Nat → Prop) (aL : Option Addr) (cL : Nat) (aG : Option Addr) (cG : Nat) (Q : List RQ), v79 = .int .i64 (k : Nat) ∧ k ≤ G ∧ CLs w p b10 D aL cL aG cG m Q wr) (fun v79 _ => G - (intOf v79).toNat)
      case atStart => exact ⟨0, D, aL, cL, aG, cG, Q, rfl, Nat.zero_le _, HI.out⟩
      case round =>
        clear HI
        clear D aL cL aG cG Q
        obtain ⟨k, D, aL, cL, aG, cG, Q, rfl, hk, hI⟩ := hrel
        have HI := Lib.hid hI
        clear hI
        by_cases hlt : k < G
        · have hlt' : (k : Int) < (G : Int) := by omega
          have k0 : (0 : Int) ≤ (k : Int) := by omega
          have wi : IntKind.i64.wrap ((k : Int) + 1) = (k : Int) + 1 := IntWalk.i64_in _ (by omega)
          obtain ⟨s, hs⟩ : ∃ s, gs[k]? = some s := ⟨_, List.getElem?_eq_getElem (by rw [HGN.out]; exact hlt)⟩
          have hs32 := HGU.out s (List.mem_of_getElem? hs)
          obtain ⟨ad, had, zs⟩ := read_elem (HGR.out.frame HI.out.pu (fun _ _ h => h)) (j := k) (u := .int .u32 (s : Nat)) (by unfold u32s; rw [List.getElem?_map, hs]; rfl)
          subst had
          clear hs
          have HRm := Lib.hid (removeX_ok HI.out.log s hs32)
          have HRr := Lib.hid (fun (W : World) (hW : RefRow W aL cL aG cG Q) => rremoveX_ok hW HI.out.len s hs32)
          dsimp only [logPtr] at HRm
          generalize noL (slotsR (Q.map absQ)) s = er at *
          go_upto_region 21 with (go_at_call 24; refine Calls.mono HRm.out ?_; rintro e w2 ⟨k1, a1, n1, c1, d3, b3, rfl, hl2, hm2⟩)
          have hal : Pure w2 (w2.alloc (.cells #[.string k1, .slice a1 n1 c1, .int .u64 d3, .int .u64 b3] 42)) := (Mod.refl _ w2).alloc _
          have hb10w : w.heap.size ≤ b10 := by omega
          have r10 := hal.heap (fun h => h) (HI.out.log.box hm2 HI.out.r6 (by decide) (by decide))
          have hrf2 := (HI.out.ref.beside HI.out.log hm2 (fun g hg => HI.out.ap g (HI.out.len ▸ hg))).pure hal
          have hm2b : Mod D wr (w2.alloc (.cells #[.string k1, .slice a1 n1 c1, .int .u64 d3, .int .u64 b3] 42)) := hm2.trans (Mod.of_pure hal)
          have HL2 := Lib.hid (hl2.pure hal); have HM2 := Lib.hid hm2b; have R10 := Lib.hid r10
          have HRr2 := Lib.hid (HRr.out _ hrf2)
          clear hl2 hm2 hm2b hrf2 HRr HRm hal zs
          generalize w2.alloc (.cells #[.string k1, .slice a1 n1 c1, .int .u64 d3, .int .u64 b3] 42) = W2 at *
          generalize w2.heap.size = b20 at *
          have r10_0 := cell_of_row _ _ 0 _ _ _ r10; have r10_1 := cell_of_row _ _ 1 _ _ _ r10; have r10_f := (fun j => frozen_of_row _ _ j _ _ r10); have r10_l := lt_of_block r10; simp at r10_0 r10_1; have H_r10 := Lib.hid r10; clear r10
          go_upto_region 22 with (go_at_call 25; refine Calls.mono HRr2.out ?_; rintro e w3 ⟨aL2, cL2, aG2, cG2, Q2, k4, a4, n4, c4, d4, b4, rfl, hn3, hq3, hr3, ho3, hp3⟩)
          have hal : Pure w3 ((w3.alloc (.cells #[.slice aL2 m cL2, .slice aG2 m cG2] 32)).alloc (.cells #[.string k4, .slice a4 n4 c4, .int .u64 d4, .int .u64 b4] 42)) := ((Mod.refl _ w3).alloc _).alloc _
          have h22 := heap_keep (o := .cells #[.string k4, .slice a4 n4 c4, .int .u64 d4, .int .u64 b4] 42) (heap_new (w := w3) (o := .cells #[.slice aL2 m cL2, .slice aG2 m cG2] 32 (0, 0)) rfl)
          have hpX := hp3.trans hal
          have rX := hpX.heap (fun h => h) R10.out
          have HRX := Lib.hid (hr3.pure hal); have HO3 := Lib.hid ho3; have HN3 := Lib.hid hn3; have HPX := Lib.hid hpX
          have HLQ : Hid (LogAt W2 D p (slotsR (Q2.map absQ))) := Lib.hid (by rw [hq3]; exact HL2.out)
          clear r10_0 r10_1 r10_f r10_l
          clear H_r10 hp3 hal hr3 ho3 hn3 hq3 hpX HRr2 HL2
          generalize (w3.alloc (.cells #[.slice aL2 m cL2, .slice aG2 m cG2] 32)).alloc (.cells #[.string k4, .slice a4 n4 c4, .int .u64 d4, .int .u64 b4] 42) = X at *
          generalize w3.heap.size = b22 at *
          have rX_0 := cell_of_row _ _ 0 _ _ _ rX; have rX_1 := cell_of_row _ _ 1 _ _ _ rX; have rX_f := (fun j => frozen_of_row _ _ j _ _ rX); have rX_l := lt_of_block rX; simp at rX_0 rX_1; have H_rX := Lib.hid rX; clear rX
          have h22_0 := cell_of_row _ _ 0 _ _ _ h22; have h22_1 := cell_of_row _ _ 1 _ _ _ h22; have h22_f := (fun j => frozen_of_row _ _ j _ _ h22); have h22_l := lt_of_block h22; simp at h22_0 h22_1; have H_h22 := Lib.hid h22; clear h22
          go_wp2
          obtain ⟨Y, hY⟩ : ∃ Y, (X.setCell ⟨b10, 0, none⟩ (.slice aL2 m cL2)).setCell ⟨b10, 1, none⟩ (.slice aG2 m cG2) = Y := ⟨_, rfl⟩
          have HF := Lib.hid (HI.out.app hb10w HLQ.out HM2.out (fun k h => .inl h) HPX.out HN3.out rfl HRX.out HPX.out.size HO3.out hY)
          rw [hY]
          go_roundw
          case rel => exact ⟨k + 1, D, aL2, cL2, aG2, cG2, Q2, by go_num, hlt, HF.out⟩
          case measure => simp [intOf]; omega
        · have hkG : G = k := by omega
          subst hkG
          clear hk hlt
          have r10 := HI.out.r6
          obtain ⟨L, hL⟩ : ∃ L, slotsR (Q.map absQ) = L := ⟨_, rfl⟩
          have hLm : L.length = m := by rw [← hL, slotsR_length, List.length_map, HI.out.len]
          have HLM := Lib.hid hLm; have HL := Lib.hid hL
          have hlog := HI.out.log
          rw [hL] at hlog
          have HLog := Lib.hid hlog
          clear hL hLm hlog
          have wm : IntKind.i64.wrap (m : Int) = m := IntWalk.i64_in _ (by omega)
          by_cases hko : KeysOk L
          · have HKO := Lib.hid hko
            clear hko
            obtain ⟨G0, hG0⟩ : ∃ G0, ofM seed same L (live L) = G0 := ⟨_, rfl⟩
            have HG0 := Lib.hid hG0
            clear hG0
            go_upto_region 27 with (first
              | (go_at_call 9; refine Calls.mono (HNh.out _) ?_; rintro e w2 ⟨rfl, hp2⟩)
              | (go_at_call 26; refine Calls.mono (ofK (HLog.out.pure hp2) HKO.out seed same hsd) ?_; rintro e w3 ⟨d, D1, rfl, hd, hp3⟩))
            rw [HG0.out] at hd
            have hp23 := hp2.trans hp3
            have r10b := hp23.heap (fun h => h) r10
            have R10b := Lib.hid r10b
            have hof := rdOf_ok (HI.out.ref.pure hp23) seed same hsd (by rw [HL.out]; exact HKO.out)
            unfold rdofPost at hof
            rw [HL.out, HG0.out, HI.out.len] at hof
            have HOf := Lib.hid hof; have HD := Lib.hid hd; have HP23 := Lib.hid (HI.out.pu.trans hp23); have HLog3 := Lib.hid (HLog.out.pure hp23)
            clear hof hd hp2 hp3 hp23 r10
            have r10b_0 := cell_of_row _ _ 0 _ _ _ r10b; have r10b_1 := cell_of_row _ _ 1 _ _ _ r10b; have r10b_f := (fun j => frozen_of_row _ _ j _ _ r10b); have r10b_l := lt_of_block r10b; simp at r10b_0 r10b_1; have H_r10b := Lib.hid r10b; clear r10b
            go_upto_region 28 with (go_at_call 27; refine Calls.mono HOf.out ?_; rintro e w4 ⟨⟨aL1, cL1, aG1, cG1, aC1, cC1, aS1, cS1⟩, Q1, rfl, hq1, hr1, _, hp4⟩)
            have hQ1 : Q1.length = m := by have := congrArg List.length hq1; rw [List.length_map, List.length_map, HI.out.len] at this; exact this
            obtain ⟨m1, hm1⟩ : ∃ m1, 8 * G0.length = m1 := ⟨_, rfl⟩
            rw [hQ1, hm1]
            have hal : Pure w4 (w4.alloc (rdO seed same ⟨aL1, cL1, aG1, cG1, aC1, cC1, aS1, cS1⟩ m m1)) := (Mod.refl _ w4).alloc _
            have h27 := heap_new (w := w4) (o := rdO seed same ⟨aL1, cL1, aG1, cG1, aC1, cC1, aS1, cS1⟩ m m1) rfl
            have hp4b := hp4.trans hal
            have hL1 : slotsR (Q1.map absQ) = L := by rw [hq1]; exact HL.out
            have r10c := hp4b.heap (fun h => h) R10b.out
            have klk := fun (W : World) (hW : Pure (w4.alloc (rdO seed same ⟨aL1, cL1, aG1, cG1, aC1, cC1, aS1, cS1⟩ m m1)) W) => looks_ok ((HD.out.pure hp4b).pure hW) ((hr1.pure hal).pure hW) hL1
            rw [hQ1, hm1] at klk
            have klen := fun (W : World) (hW : Pure (w4.alloc (rdO seed same ⟨aL1, cL1, aG1, cG1, aC1, cC1, aS1, cS1⟩ m m1)) W) => lenP ((HLog3.out.pure hp4b).pure hW) m HLM.out
            have KLk := Lib.hid klk; have KLen := Lib.hid klen; have HP4 := Lib.hid (HP23.out.trans hp4b)
            clear r10b_0 r10b_1 r10b_f r10b_l
            clear H_r10b hq1 hr1 hp4 hal hp4b hQ1 hm1 hL1 klk klen HOf HD HLog3
            dsimp only [rdO] at h27 KLk KLen HP4 ⊢
            generalize w4.alloc (.cells #[.int .u64 seed, .bool same, .slice aL1 m cL1, .slice aG1 m cG1, .slice aC1 m1 cC1, .slice aS1 m1 cS1] 38) = X at *
            generalize w4.heap.size = b27 at *
            have r10c_0 := cell_of_row _ _ 0 _ _ _ r10c; have r10c_1 := cell_of_row _ _ 1 _ _ _ r10c; have r10c_f := (fun j => frozen_of_row _ _ j _ _ r10c); have r10c_l := lt_of_block r10c; simp at r10c_0 r10c_1; have H_r10c := Lib.hid r10c; clear r10c
            go_region_held3 (fun w' => w'.cell? ⟨b10, 0, none⟩ = some (.slice aL m cL)) (first | exact r10c_0 | exact (Mod.of_drew hq0).cell (fun h => h) r10c_0 | exact hq0.cell (fun h => h) r10c_0)
              ((go_at_call 28; refine Calls.mono (KLen.out _ (by first | exact Mod.refl _ _ | exact (Mod.refl _ _).drew)) ?_; rintro e u0 ⟨rfl, hq0⟩))
            have hpu : Pure X u0 := by first | exact Mod.of_drew hq0 | exact hq0
            have h27b := hpu.heap (fun h => h) h27
            have HPU := Lib.hid hpu
            clear r10c_0 r10c_1 r10c_f r10c_l
            clear H_r10c hpu hq0 h27
            have h27b_0 := cell_of_row _ _ 0 _ _ _ h27b; have h27b_1 := cell_of_row _ _ 1 _ _ _ h27b; have h27b_2 := cell_of_row _ _ 2 _ _ _ h27b; have h27b_3 := cell_of_row _ _ 3 _ _ _ h27b; have h27b_4 := cell_of_row _ _ 4 _ _ _ h27b; have h27b_5 := cell_of_row _ _ 5 _ _ _ h27b; have h27b_f := (fun j => frozen_of_row _ _ j _ _ h27b); have h27b_l := lt_of_block h27b; simp at h27b_0 h27b_1 h27b_2 h27b_3 h27b_4 h27b_5; have H_h27b := Lib.hid h27b; clear h27b
            go_wp2_with (first
              | (go_at_call 29; refine Calls.mono (KLk.out _ HPU.out) ?_; rintro e u1 ⟨rfl, hp8⟩)
              | (go_at_call 7; refine Calls.mono (HKn.out _) ?_; rintro e u2 ⟨rfl, hp9⟩))
            go_ret
            exact ⟨rfl, HP4.out.trans (HPU.out.trans (hp8.trans hp9))⟩
          · have HKO := Lib.hid hko
            clear hko
            go_upto_region 27 with (first
              | (go_at_call 9; refine Calls.mono (HNh.out _) ?_; rintro e w2 ⟨rfl, hp2⟩)
              | (go_at_call 26; refine Calls.mono (ofB (HLog.out.pure hp2) HKO.out seed same hsd) ?_; rintro e w3 ⟨rfl, hp3⟩))
            have hp23 := hp2.trans hp3
            have r10b := hp23.heap (fun h => h) r10
            have R10b := Lib.hid r10b
            have hof := rdOf_busy (HI.out.ref.pure hp23) seed same hsd (by rw [HL.out]; exact HKO.out)
            unfold rdbusyPost at hof
            rw [HI.out.len] at hof
            have HOf := Lib.hid hof; have HP23 := Lib.hid (HI.out.pu.trans hp23); have HLog3 := Lib.hid (HLog.out.pure hp23)
            clear hof hp2 hp3 hp23 r10
            have r10b_0 := cell_of_row _ _ 0 _ _ _ r10b; have r10b_1 := cell_of_row _ _ 1 _ _ _ r10b; have r10b_f := (fun j => frozen_of_row _ _ j _ _ r10b); have r10b_l := lt_of_block r10b; simp at r10b_0 r10b_1; have H_r10b := Lib.hid r10b; clear r10b
            go_upto_region 28 with (go_at_call 27; refine Calls.mono HOf.out ?_; rintro e w4 ⟨rfl, hp4⟩)
            have hal : Pure w4 (w4.alloc (.cells #[.int .u64 0, .bool false, .slice none 0 0, .slice none 0 0, .slice none 0 0, .slice none 0 0] 38)) := (Mod.refl _ w4).alloc _
            have hp4b := hp4.trans hal
            have r10c := hp4b.heap (fun h => h) R10b.out
            have KLen := Lib.hid (fun (W : World) (hW : Pure (w4.alloc (.cells #[.int .u64 0, .bool false, .slice none 0 0, .slice none 0 0, .slice none 0 0, .slice none 0 0] 38)) W) => lenP ((HLog3.out.pure hp4b).pure hW) m HLM.out)
            have HP4 := Lib.hid (HP23.out.trans hp4b)
            clear r10b_0 r10b_1 r10b_f r10b_l
            clear H_r10b hp4 hal hp4b HOf HLog3
            generalize w4.alloc (.cells #[.int .u64 0, .bool false, .slice none 0 0, .slice none 0 0, .slice none 0 0, .slice none 0 0] 38) = X at *
            generalize w4.heap.size = b27 at *
            have r10c_0 := cell_of_row _ _ 0 _ _ _ r10c; have r10c_1 := cell_of_row _ _ 1 _ _ _ r10c; have r10c_f := (fun j => frozen_of_row _ _ j _ _ r10c); have r10c_l := lt_of_block r10c; simp at r10c_0 r10c_1; have H_r10c := Lib.hid r10c; clear r10c
            go_region_held3 (fun w' => w'.cell? ⟨b10, 0, none⟩ = some (.slice aL m cL)) (first | exact r10c_0 | exact (Mod.of_drew hq0).cell (fun h => h) r10c_0 | exact hq0.cell (fun h => h) r10c_0)
              ((go_at_call 28; refine Calls.mono (KLen.out _ (by first | exact Mod.refl _ _ | exact (Mod.refl _ _).drew)) ?_; rintro e u0 ⟨rfl, hq0⟩))
            have hpu : Pure X u0 := by first | exact Mod.of_drew hq0 | exact hq0
            go_wp2_with (go_at_call 7; refine Calls.mono (HKn.out _) ?_; rintro e u2 ⟨rfl, hp9⟩)
            go_ret
            exact ⟨rfl, HP4.out.trans (hpu.trans hp9)⟩
end Go.Proofs.YtapplindfijngaaGreat
