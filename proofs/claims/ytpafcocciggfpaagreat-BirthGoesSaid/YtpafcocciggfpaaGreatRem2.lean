/- swiss.Index: Find, Remove, Replace. -/
import Derived.Test.YtpafcocciggfpaaGreatIxLaw
namespace Go.Proofs.YtpafcocciggfpaaGreat
open Go.RowKit Go.Shelf
set_option maxRecDepth 100000

/-- What find's results mean for a function of the slot number alone, at one closure. -/
theorem find1_ok {w : World} {D : Nat → Prop} {p : Nat} {sv : Value} {Gs : List Grp} (h : IxRow w D p sv Gs) (sum : Nat) (hsum : sum < 18446744073709551616) {gf : Nat} {lb : Array Value} {g : Nat → Bool} {J : List Nat → World → Prop}
    (hs : SameOk Tryz.prog gf lb (fun _ s => g s) (fun _ => False) J w) {B c : Nat} (hsv : sv = .slice (some ⟨B, 0, none⟩) Gs.length c) :
    Calls Tryz.prog 134 #[.pointer (some ⟨p, 0, none⟩), .int .u64 sum, .func (.func gf) #[] lb] w (foundPost w D p sv Gs sum g B) :=
  (find_ok h sum hsum hs).mono (fun e w' ⟨B', c', e1, hp⟩ => by
    rw [hsv] at e1
    cases e1
    exact found_of hp)
/-- The end of a change of one lane. -/
theorem lane_fin {W2 W3 W5 : World} {D : Nat → Prop} {p B c i j t s : Nat} {Gs : List Grp} {n' t' : Int} (h : IxRow W2 D p (.slice (some ⟨B, 0, none⟩) Gs.length c) Gs) (hi : i < Gs.length) (hj : j < 8)
    (ht : t < 128 ∨ t = 128 ∨ t = 254) (hsl : s ≤ 4294967295) (hu : n' = usedN (setG Gs i j t s)) (hu2 : t' = tombN (setG Gs i j t s)) (h3 : Mod (fun k => k = B) W2 W3)
    (h3r : W3.ownsRow 0 190 9 (.slice (some ⟨B, 0, none⟩) Gs.length c) Gs.length (((Gs.flatMap groupCells).set (i * 9) (.int .u64 (word8 ((grpAt Gs i).1.set j t)))).set (i * 9 + 1 + j) (.int .u32 s)))
    (h5 : Mod (fun k => k = p) W3 W5) (h5b : W5.heap[p]? = some (.cells #[.slice (some ⟨B, 0, none⟩) Gs.length c, .int .i64 n', .int .i64 t'] 187 (0, 0))) :
    IxRow W5 D p (.slice (some ⟨B, 0, none⟩) Gs.length c) (setG Gs i j t s) ∧ Mod D W2 W5 := by
  have hpB : p ≠ B := fun e => by
    obtain ⟨cc, e2⟩ := owns_type h.row (g := B) rfl
    have := h.box
    rw [e, e2] at this; cases this
  refine ⟨⟨?_, ?_, h.dd, h.ok.put ht hsl⟩, ?_⟩
  · rw [h5b, hu, hu2]
  · rw [setG_length, ← flat_put2 (t := t) (s := s) (h.ok.at hi) hi hj _ rfl]
    exact owns_mod h3r h5 (fun g hg e => by
      have : B = g := by simpa [Value.ownBlock] using hg
      exact hpB (e.symm.trans this.symm))
  · exact (h3.mono (fun k _ e => by subst e; exact (h.dd k).2 (.inr rfl)) : Mod D W2 W3).then h5 (fun k _ e => by subst e; exact (h.dd k).2 (.inl rfl))

def IFindPost (w : World) (D : Nat → Prop) (p : Nat) (sv : Value) (Gs : List Grp) (sum : Nat) (f : List Nat → Nat → Bool) (C : TypeId → Prop) (J : List Nat → World → Prop) (e : Ending) (w' : World) : Prop :=
  ModC C w w' ∧ IxRow w' D p sv Gs ∧
  ((∃ a x post, seenM Gs sum = a ++ x :: post ∧ falses f (a.map (slotAt Gs)) ∧ f (a.map (slotAt Gs)) (slotAt Gs x) = true ∧
    e = .returned (.tuple #[.int .u32 (slotAt Gs x), .int .i64 0]) ∧ J ((a ++ [x]).map (slotAt Gs)) w') ∨
   (falses f ((seenM Gs sum).map (slotAt Gs)) ∧ e = .returned (.tuple #[.int .u32 0, .int .i64 9]) ∧ J ((seenM Gs sum).map (slotAt Gs)) w'))
theorem run_equal_func {P : Program} (w : World) (d : Nat) (t : TypeId) {ps rs : Array TypeId} {v : Bool} (fn : Fn) (fi ca : Array Value) (h : P.underlying t = some (.func ps rs v)) : (Op.equalIn (d + 1) t (.func fn fi ca) .nilFunc).run P w = .ok false w := by
  simp [Op.equalIn, run_underlying h]
@[go_sem] theorem eql_same (w : World) (fn : Fn) (fi ca : Array Value) : (binOp .eql 144 (.func fn fi ca) .nilFunc).run Tryz.prog w = .ok (.bool false) w := by
  simp only [binOp]
  simp [Op.equal, Op.maxDepth, run_equal_func w 9999 _ fn fi ca Tryz.underlying144]
theorem IFind_ok {w : World} {D : Nat → Prop} {p : Nat} {sv : Value} {Gs : List Grp} (h : IxRow w D p sv Gs) (sum : Nat) (hsum : sum < 18446744073709551616) {gf : Nat} {lb : Array Value} {f : List Nat → Nat → Bool} {C : TypeId → Prop} {J : List Nat → World → Prop}
    (hs : SameOk Tryz.prog gf lb f C J w) :
    Calls Tryz.prog 113 #[.pointer (some ⟨p, 0, none⟩), .int .u64 sum, .func (.func gf) #[] lb] w (IFindPost w D p sv Gs sum f C J) := by
  have HF := Lib.hid (find_ok h sum hsum hs)
  obtain ⟨B, c, rfl, hc, hB, hDB, hBf, hcells⟩ := h.at
  have zp := h.box
  have HZ := Lib.hid (fun (hW : w.cell? ⟨p, 0, none⟩ = _) => izero_ok (w := w) (c := c) (a := some ⟨B, 0, none⟩) hW h.ok.pow.pos h.ok.pow.le)
  clear hcells h hs hBf
  have zp_0 := cell_of_row _ _ 0 _ _ _ zp; have zp_1 := cell_of_row _ _ 1 _ _ _ zp; have zp_2 := cell_of_row _ _ 2 _ _ _ zp; have zp_f := (fun j => frozen_of_row _ _ j _ _ zp); have zp_l := lt_of_block zp; simp at zp_0 zp_1 zp_2; have H_zp := Lib.hid zp; clear zp
  go_enter Tryz.func113, Tryz.ntmps113
  go_upto_region 3 with (go_at_call 133; refine Calls.mono (HZ.out zp_0) ?_; rintro e w' ⟨rfl, rfl⟩)
  go_upto_region 5 with fail
  go_upto_region 6 with (go_at_call 134; refine Calls.mono HF.out ?_; rintro e w2 ⟨B', c', hsv, hm, hix, ⟨a, x, post, h1, h2, h3, h4, h5, rfl, h7⟩ | ⟨h1, rfl, h7⟩⟩)
  · obtain ⟨B3, c3, hsv3, _, hB3, hDB3, hBf3, hcells3⟩ := hix.at
    cases hsv3
    have zs := (hcells3 x.1 h4).2 x.2 h5
    rw [show x.1 * 9 + (x.2 + 1) = x.1 * 9 + 1 + x.2 by omega] at zs
    have x0 : (0 : Int) ≤ x.2 := by omega
    have x1 : (x.2 : Int) < 8 := by omega
    have HP := Lib.hid (And.intro h1 (And.intro h2 (And.intro h3 (And.intro h7 (And.intro hm hix)))))
    have e6 : slotAt Gs x = (grpAt Gs x.1).2.getD x.2 0 := rfl
    rw [← e6] at zs
    clear h1 h2 h3 h7 hcells3 hm hix e6
    obtain ⟨sx, hsx⟩ : ∃ sx, slotAt Gs x = sx := ⟨_, rfl⟩
    rw [hsx] at zs
    go_wp2
    rw [← hsx]
    exact bodyPost_ret (v := .tuple #[.int .u32 (slotAt Gs x), .int .i64 0]) (by simp [results, Tryz.results113, go_sem]) rfl ⟨HP.out.2.2.2.2.1, HP.out.2.2.2.2.2, .inl ⟨a, x, post, HP.out.1, HP.out.2.1, HP.out.2.2.1, rfl, HP.out.2.2.2.1⟩⟩
  · have HP := Lib.hid (And.intro h1 (And.intro h7 (And.intro hm hix)))
    clear h1 h7 hm hix
    go_wp2
    exact bodyPost_ret (v := .tuple #[.int .u32 0, .int .i64 9]) (by simp [results, Tryz.results113, go_sem]) rfl ⟨HP.out.2.2.1, HP.out.2.2.2, .inr ⟨HP.out.1, rfl, HP.out.2.1⟩⟩

/-! ### Remove, Replace -/
theorem found_some {w w' : World} {D : Nat → Prop} {p : Nat} {sv : Value} {Gs : List Grp} {sum : Nat} {g : Nat → Bool} {B : Nat} {e : Ending} (h : foundPost w D p sv Gs sum g B e w') {i j : Nat} (hf : findM Gs sum g = some (i, j)) :
    e = .returned (.tuple #[.pointer (some ⟨B, i * 9, none⟩), .int .i64 j, .int .i64 0]) ∧ Pure w w' ∧ IxRow w' D p sv Gs ∧ FullAt Gs i j (sum % 128) (slotAt Gs (i, j)) := by
  obtain ⟨h1, h2, h3⟩ := h
  rw [hf] at h3
  exact ⟨h3.2.2.2.2, h1, h2, seen_full h2.ok h3.2.2.1⟩
theorem found_none {w w' : World} {D : Nat → Prop} {p : Nat} {sv : Value} {Gs : List Grp} {sum : Nat} {g : Nat → Bool} {B : Nat} {e : Ending} (h : foundPost w D p sv Gs sum g B e w') (hf : findM Gs sum g = none) :
    e = .returned (.tuple #[.pointer none, .int .i64 0, .int .i64 9]) ∧ Pure w w' ∧ IxRow w' D p sv Gs := by
  obtain ⟨h1, h2, h3⟩ := h
  rw [hf] at h3
  exact ⟨h3, h1, h2⟩
/-- What a lane that is freed leaves. -/
theorem erase_law {Gs : List Grp} (h : IxOk Gs) {i j t s : Nat} (hf : FullAt Gs i j t s) :
    (mask (((grpAt Gs i).1.set j (erased (grpAt Gs i).1)).map (· == 128)) = 0 ∧ tombN (setG Gs i j (erased (grpAt Gs i).1) 0) = tombN Gs + 1) ∨
    (1 ≤ mask (((grpAt Gs i).1.set j (erased (grpAt Gs i).1)).map (· == 128)) ∧ tombN (setG Gs i j (erased (grpAt Gs i).1) 0) = tombN Gs) := by
  have hg := h.at hf.hi
  have h2 := tombN_put (t := erased (grpAt Gs i).1) (s := 0) hf.hi hf.tag
  have n254 : (t == 254) = false := by simp; have := hf.full; omega
  rw [n254] at h2
  have h3 := mask_zero (p := ((grpAt Gs i).1.set j (erased (grpAt Gs i).1)).map (· == 128)) (by simp [hg.ctl.1])
  have hlj : j < (grpAt Gs i).1.length := by rw [hg.ctl.1]; exact hf.hj
  by_cases hb : (grpAt Gs i).1.any (· == 128) = true
  · have he : erased (grpAt Gs i).1 = 128 := by unfold erased; rw [if_pos hb]
    rw [he] at h2 h3 ⊢
    right
    refine ⟨?_, by simpa using h2⟩
    have : ¬ (mask (((grpAt Gs i).1.set j 128).map (· == 128)) = 0) := by
      intro c
      rw [c] at h3
      have h4 : (((grpAt Gs i).1.set j 128).map (· == 128)).any id = false := by simpa using h3
      rw [List.any_eq_false] at h4
      have hm : (128 : Nat) ∈ (grpAt Gs i).1.set j 128 := List.mem_of_getElem? (i := j) (List.getElem?_set_self hlj)
      exact h4 true (List.mem_map.2 ⟨128, hm, rfl⟩) rfl
    omega
  · have he : erased (grpAt Gs i).1 = 254 := by unfold erased; rw [if_neg hb]
    rw [he] at h2 h3 ⊢
    left
    refine ⟨?_, by simpa using h2⟩
    have h5 : (((grpAt Gs i).1.set j 254).map (· == 128)).any id = false := by
      rw [List.any_eq_false]
      intro x hx c
      obtain ⟨y, hy, rfl⟩ := List.mem_map.1 hx
      rcases List.mem_or_eq_of_mem_set hy with h6 | rfl
      · exact hb (List.any_eq_true.2 ⟨y, h6, by simpa using c⟩)
      · simp at c
    rw [h5] at h3
    simpa using h3
def remPost (w : World) (D : Nat → Prop) (p : Nat) (sv : Value) (Gs : List Grp) (sum slot : Nat) (e : Ending) (w' : World) : Prop :=
  match findM Gs sum (fun x => x == slot) with
  | some x => e = .returned (.int .i64 0) ∧ IxRow w' D p sv (setG Gs x.1 x.2 (erased (grpAt Gs x.1).1) 0) ∧ Mod D w w'
  | none => e = .returned (.int .i64 9) ∧ IxRow w' D p sv Gs ∧ Mod D w w'
theorem Remove_ok {w : World} {D : Nat → Prop} {p : Nat} {sv : Value} {Gs : List Grp} (h : IxRow w D p sv Gs) (sum slot : Nat) (hsum : sum < 18446744073709551616) (hslot : slot ≤ 4294967295) :
    Calls Tryz.prog 73 #[.pointer (some ⟨p, 0, none⟩), .int .u64 sum, .int .u32 slot] w (remPost w D p sv Gs sum slot) := by
  have hlp : p < w.heap.size := lt_of_block h.box
  obtain ⟨B, c, rfl, hc, hB, hDB, hBf, hcells⟩ := h.at
  have hp1 : Pure w (w.alloc (.cells #[.int .u32 slot] 43)) := (Mod.refl _ w).alloc _
  have hix := h.pure hp1
  have hbx := heap_new (w := w) (o := (.cells #[.int .u32 slot] 43 (0, 0))) rfl
  go_enter Tryz.func73, Tryz.ntmps73
  go_upto_region 1 with fail
  generalize w.alloc (.cells #[.int .u32 slot] 43) = W1 at *
  have hwb : w.heap.size < W1.heap.size := lt_of_block hbx
  generalize w.heap.size = b at *
  have HF := Lib.hid (find1_ok hix sum hsum (same_of (enters_of Tryz.func135 (by kernel_rfl) rfl) hwb hbx (fun W s hs hW => rem1_ok (x := slot) hW s hs hslot)) rfl)
  have zp := hix.box
  have HZ := Lib.hid (fun (hW : W1.cell? ⟨p, 0, none⟩ = _) => izero_ok (w := W1) (c := c) (a := some ⟨B, 0, none⟩) hW h.ok.pow.pos h.ok.pow.le)
  clear hcells hBf hbx
  have zp_0 := cell_of_row _ _ 0 _ _ _ zp; have zp_1 := cell_of_row _ _ 1 _ _ _ zp; have zp_2 := cell_of_row _ _ 2 _ _ _ zp; have zp_f := (fun j => frozen_of_row _ _ j _ _ zp); have zp_l := lt_of_block zp; simp at zp_0 zp_1 zp_2; have H_zp := Lib.hid zp; clear zp
  go_upto_region 3 with (go_at_call 133; refine Calls.mono (HZ.out zp_0) ?_; rintro e w' ⟨rfl, rfl⟩)
  rcases hfm : findM Gs sum (fun x => x == slot) with _ | ⟨i, j⟩
  · go_wp2_with (go_at_call 134; refine Calls.mono HF.out ?_; rintro e w2 hfp; obtain ⟨rfl, hpu, hix2⟩ := found_none hfp hfm; clear hfp)
    go_ret
    unfold remPost
    rw [hfm]
    exact ⟨rfl, hix2, .of_pure (hp1.trans hpu)⟩
  · go_upto_region 6 with (go_at_call 134; refine Calls.mono HF.out ?_; rintro e w2 hfp; obtain ⟨rfl, hpu, hix2, hfull⟩ := found_some hfp hfm; clear hfp)
    have HM := Lib.hid hfm; have HI := Lib.hid hix2; have HP := Lib.hid (hp1.trans hpu); have HFL := Lib.hid hfull
    clear hfm hix hp1 hpu HF HZ
    clear zp_0 zp_1 zp_2 zp_f zp_l
    clear H_zp
    have hi := hfull.hi; have hj := hfull.hj
    obtain ⟨B3, c3, hsv3, _, hB3, hDB3, hBf3, hcells3⟩ := hix2.at
    cases hsv3
    have zg := (hcells3 i hi).1
    have hg := hix2.ok.at hi
    have HE := Lib.hid (fun W => Erase_ok hg.ctl j _ W hfull.tag hfull.full)
    have x0 : (0 : Int) ≤ j := by omega
    have x1 : (j : Int) < 8 := by omega
    clear hcells3 hix2 hfull
    go_upto_region 7 with (go_at_call 136; refine Calls.mono (HE.out _) ?_; rintro e w3 ⟨rfl, rfl⟩)
    have hbytes : Bytes8 ((grpAt Gs i).1.set j (erased (grpAt Gs i).1)) := (hg.put (j := j) (t := erased (grpAt Gs i).1) (s := 0) (.inr (erased_or _)) (by omega)).ctl.bytes
    have HEm := Lib.hid (fun W => Empties_ok hbytes W)
    have HLaw := Lib.hid (erase_law HI.out.ok HFL.out)
    have HUs := Lib.hid (del_counts HI.out.ok HFL.out).1
    obtain ⟨z, hz⟩ : ∃ z, word8 ((grpAt Gs i).1.set j (erased (grpAt Gs i).1)) = z := ⟨_, rfl⟩
    obtain ⟨m, hmk⟩ : ∃ m, mask (((grpAt Gs i).1.set j (erased (grpAt Gs i).1)).map (· == 128)) = m := ⟨_, rfl⟩
    rw [hz, hmk] at HEm
    rw [hmk] at HLaw
    rw [hz]
    have hm1 : Mod (fun k => k = B) w2 ((w2.setCell ⟨B, i * 9, none⟩ (.int .u64 z)).drew) := (Mod.set1 B (i * 9) _).drew
    have hr1 : ((w2.setCell ⟨B, i * 9, none⟩ (.int .u64 z)).drew).ownsRow 0 190 9 (.slice (some ⟨B, 0, none⟩) Gs.length c) Gs.length ((Gs.flatMap groupCells).set (i * 9) (.int .u64 z)) :=
      owns_mod (owns_setCell HI.out.row (i * 9) (.int .u64 z) (by omega)) (Mod.drew (Mod.refl (fun _ => False) _)) (fun _ _ h => h)
    have hlen : 0 < Gs.length := by omega
    obtain ⟨B4, c4, hsv4, _, hB4, hc4, hf4, _⟩ := owns_at hr1 hlen
    cases hsv4
    have hl9 : i * 9 + 1 + j < ((Gs.flatMap groupCells).set (i * 9) (.int .u64 z)).length := by rw [hr1.1]; omega
    have zs0 : ∃ u, ((w2.setCell ⟨B, i * 9, none⟩ (.int .u64 z)).drew).cell? ⟨B, i * 9 + 1 + j, none⟩ = some u := ⟨_, hc4 _ _ (List.getElem?_eq_getElem hl9)⟩
    obtain ⟨u0, zs⟩ := zs0
    have HM1 := Lib.hid hm1; have HR1 := Lib.hid hr1
    clear hc4 hl9 hm1 hr1 HE hbytes
    generalize (w2.setCell ⟨B, i * 9, none⟩ (.int .u64 z)).drew = W4 at *
    go_upto_region 8 with fail
    have hm2 : Mod (fun k => k = B) w2 (W4.setCell ⟨B, i * 9 + 1 + j, none⟩ (.int .u32 0)) := HM1.out.trans (Mod.set1 B (i * 9 + 1 + j) _)
    have hr2 := owns_setCell HR1.out (i * 9 + 1 + j) (.int .u32 0) (by omega)
    have hpB : p ≠ B := fun e => by
      obtain ⟨cc, e2⟩ := owns_type HI.out.row (g := B) rfl
      have := HI.out.box
      rw [e, e2] at this; cases this
    have zp := hm2.heap hpB HI.out.box
    have HM2 := Lib.hid hm2; have HR2 := Lib.hid hr2
    clear hm2 hr2 zs hf4 HM1 HR1
    generalize W4.setCell ⟨B, i * 9 + 1 + j, none⟩ (.int .u32 0) = W5 at *
    have hul := HI.out.ok.used_le
    have htl := HI.out.ok.tomb_le
    have zp_0 := cell_of_row _ _ 0 _ _ _ zp; have zp_1 := cell_of_row _ _ 1 _ _ _ zp; have zp_2 := cell_of_row _ _ 2 _ _ _ zp; have zp_f := (fun j => frozen_of_row _ _ j _ _ zp); have zp_l := lt_of_block zp; simp at zp_0 zp_1 zp_2; have H_zp := Lib.hid zp; clear zp
    obtain ⟨un, hun⟩ : ∃ un, usedN Gs = un + 1 := ⟨usedN Gs - 1, by have := HUs.out; omega⟩
    rw [hun] at zp_1 hul
    have wu : IntKind.i64.wrap (((un + 1 : Nat) : Int) - 1) = (un : Int) := by rw [show (((un + 1 : Nat) : Int) - 1) = (un : Int) by omega]; exact IntWalk.i64_in _ (by omega)
    have HUN := Lib.hid hun
    clear hun
    go_upto_region 9 with fail
    have hm3 : Mod (fun k => k = p) W5 (W5.setCell ⟨p, 1, none⟩ (.int .i64 un)) := Mod.set1 p 1 _
    have hr3 := owns_mod HR2.out hm3 (fun g hg e => hpB (by
      have : B = g := by simpa [Value.ownBlock] using hg
      exact e.symm.trans this.symm))
    have zp2 := heap_set1 (j := 1) (v := .int .i64 un) H_zp.out
    simp at zp2
    obtain ⟨B6, c6, hsv6, _, hB6, hc6, hf6, _⟩ := owns_at hr3 hlen
    cases hsv6
    have zg : (W5.setCell ⟨p, 1, none⟩ (.int .i64 un)).cell? ⟨B, i * 9, none⟩ = some (.int .u64 z) := by
      refine hc6 _ _ ?_
      rw [List.getElem?_set_ne (by omega), List.getElem?_set_self]
      have := HI.out.row.1
      omega
    have HM3 := Lib.hid hm3
    clear hm3 hr3 hc6 hBf3
    clear zp_0 zp_1 zp_2 zp_f zp_l
    clear H_zp
    generalize W5.setCell ⟨p, 1, none⟩ (.int .i64 un) = W6 at *
    have zp2_0 := cell_of_row _ _ 0 _ _ _ zp2; have zp2_1 := cell_of_row _ _ 1 _ _ _ zp2; have zp2_2 := cell_of_row _ _ 2 _ _ _ zp2; have zp2_f := (fun j => frozen_of_row _ _ j _ _ zp2); have zp2_l := lt_of_block zp2; simp at zp2_0 zp2_1 zp2_2; have H_zp2 := Lib.hid zp2; clear zp2
    have hml : m ≤ 255 := by rw [← hmk]; have := mask_lt (p := ((grpAt Gs i).1.set j (erased (grpAt Gs i).1)).map (· == 128)) (by simp [hg.ctl.1]); omega
    have HMK := Lib.hid hmk; have HZ := Lib.hid hz
    clear hmk hz
    have fin : ∀ (W7 : World) (t' : Int), Mod (fun k => k = p) W6 W7 → W7.heap[p]? = some (.cells #[.slice (some ⟨B, 0, none⟩) Gs.length c, .int .i64 un, .int .i64 t'] 187 (0, 0)) → t' = tombN (setG Gs i j (erased (grpAt Gs i).1) 0) → remPost w D p (.slice (some ⟨B, 0, none⟩) Gs.length c) Gs sum slot (.returned (.int .i64 0)) W7 := fun W7 t' h7 hb7 ht' => by
      unfold remPost
      rw [HM.out]
      have h1 : (un : Int) = usedN (setG Gs i j (erased (grpAt Gs i).1) 0) := by
        have e1 : usedN (setG Gs i j (erased (grpAt Gs i).1) 0) + 1 = usedN Gs := HUs.out
        have e2 := HUN.out
        omega
      obtain ⟨k1, k2⟩ := lane_fin (n' := un) (t' := t') HI.out hi hj (.inr (erased_or _)) (by omega) h1 ht' HM2.out (by rw [HZ.out]; exact HR2.out) (HM3.out.trans h7) hb7
      exact ⟨rfl, k1, (Mod.of_pure HP.out : Mod D w w2).trans k2⟩
    have FIN := Lib.hid fin
    clear fin
    rcases HLaw.out with ⟨hm0, htm⟩ | ⟨hm0, htm⟩
    · subst hm0
      have HTM := Lib.hid htm
      clear htm HLaw HUs
      obtain ⟨tn, htn⟩ : ∃ tn, tombN Gs = tn := ⟨_, rfl⟩
      rw [htn] at zp2_2 htl
      have wt : IntKind.i64.wrap ((tn : Int) + 1) = (tn : Int) + 1 := IntWalk.i64_in _ (by omega)
      have HTN := Lib.hid htn
      clear htn
      go_wp2_with (go_at_call 137; refine Calls.mono (HEm.out _) ?_; rintro e w' ⟨rfl, rfl⟩)
      go_ret
      refine FIN.out _ ((tn : Int) + 1) (Mod.set1 p 2 _) ?_ ?_
      · have := heap_set1 (j := 2) (v := .int .i64 ((tn : Int) + 1)) H_zp2.out
        simpa using this
      · have := HTM.out; have := HTN.out; omega
    · have HTM := Lib.hid htm
      clear htm HLaw HUs
      have hm1 : (1 : Int) ≤ m := by omega
      have hm2 : ((m : Int) == 0) = false := by simp; omega
      go_wp2_with (go_at_call 137; refine Calls.mono (HEm.out _) ?_; rintro e w' ⟨rfl, rfl⟩)
      go_ret
      exact FIN.out _ (tombN Gs) (Mod.refl _ _) H_zp2.out (by have := HTM.out; omega)
/-- Replace. -/
def repPost (w : World) (D : Nat → Prop) (p : Nat) (sv : Value) (Gs : List Grp) (sum old slot : Nat) (e : Ending) (w' : World) : Prop :=
  match findM Gs sum (fun x => x == old) with
  | some x => e = .returned (.int .i64 0) ∧ IxRow w' D p sv (setG Gs x.1 x.2 (sum % 128) slot) ∧ Mod D w w'
  | none => e = .returned (.int .i64 9) ∧ IxRow w' D p sv Gs ∧ Mod D w w'
end Go.Proofs.YtpafcocciggfpaaGreat
