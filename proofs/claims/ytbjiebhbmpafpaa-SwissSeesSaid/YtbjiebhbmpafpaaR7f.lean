/- The reference of layer 7: Rehash. -/
import Derived.Test.YtbjiebhbmpafpaaR7e
import Derived.Test.YtbjiebhbmpafpaaSwFills
namespace Go.Proofs.Ytbjiebhbmpafpaa
open Go.RowKit Go.Shelf
set_option maxRecDepth 100000

def fpF (p : Nat × Nat) : Option Nat := if p.1 < 128 then some p.2 else none
theorem fp_idx : ∀ l : List (Nat × Nat), l.filterMap fpF = ((List.range l.length).filter (fun j => (l.map (fun p => decide (p.1 < 128))).getD j false)).map (fun j => (l.map (·.2)).getD j 0)
  | [] => rfl
  | p :: l => by
    rw [List.filterMap_cons, List.length_cons, List.range_succ_eq_map, List.filter_cons, List.filter_map]
    have ih := fp_idx l
    have e1 : (fun j => ((p :: l).map (fun p => decide (p.1 < 128))).getD j false) ∘ Nat.succ = fun j => (l.map (fun p => decide (p.1 < 128))).getD j false := by funext j; simp
    have e2 : (fun j => ((p :: l).map (·.2)).getD j 0) ∘ Nat.succ = fun j => (l.map (·.2)).getD j 0 := by funext j; simp
    rw [e1]
    by_cases h : p.1 < 128
    · simp only [fpF, h, if_true, List.map_cons, List.getD_cons_zero, decide_true]
      rw [List.map_map, ih]
      rfl
    · simp only [fpF, h, if_false, List.map_cons, List.getD_cons_zero, decide_false]
      rw [if_neg (by decide), List.map_map, ih]
      rfl
theorem fp_group {c : Grp} (h : GrpOk c) : (c.1.zip c.2).filterMap fpF = fullS c := by
  rw [fp_idx]
  have hl : (c.1.zip c.2).length = 8 := by rw [List.length_zip, h.ctl.1, h.len]; rfl
  have e1 : (c.1.zip c.2).map (fun p => decide (p.1 < 128)) = c.1.map (fun x => decide (x < 128)) := by
    have : (c.1.zip c.2).map Prod.fst = c.1 := List.map_fst_zip (by rw [h.ctl.1, h.len]; exact Nat.le_refl _)
    rw [← this, List.map_map]
    rw [this]
    rfl
  have e2 : (c.1.zip c.2).map (fun x => x.2) = c.2 := List.map_snd_zip (by rw [h.ctl.1, h.len]; exact Nat.le_refl _)
  rw [hl, e1, e2]
  unfold fullS fullIn
  rw [lanes_mask (by simp [h.ctl.1])]
theorem fp_all {Gs : List Grp} : (∀ c ∈ Gs, GrpOk c) → ((laneC Gs).zip (laneS Gs)).filterMap fpF = Gs.flatMap fullS := by
  induction Gs with
  | nil => intro _; rfl
  | cons c Gs ih =>
    intro h
    have hc := h c (by simp)
    have e : (laneC (c :: Gs)).zip (laneS (c :: Gs)) = c.1.zip c.2 ++ (laneC Gs).zip (laneS Gs) := by
      unfold laneC laneS
      rw [List.flatMap_cons, List.flatMap_cons, List.zip_append (by rw [hc.ctl.1, hc.len])]
    rw [e, List.filterMap_append, ih (fun c hc => h c (by simp [hc])), fp_group hc, List.flatMap_cons]
/-- What is put in, up to a lane. -/
def rehTo (H : Nat → Nat) (g : Nat) (Gs : List Grp) (k : Nat) : List Grp := ((((laneC Gs).zip (laneS Gs)).take k).filterMap fpF).foldl (insD H) (newG g)
theorem rehTo_zero (H : Nat → Nat) (g : Nat) (Gs : List Grp) : rehTo H g Gs 0 = newG g := rfl
theorem rehTo_all {H : Nat → Nat} {g : Nat} {Gs : List Grp} (h : IxOk Gs) : rehTo H g Gs (8 * Gs.length) = rehM H g Gs := by
  unfold rehTo rehM
  rw [List.take_of_length_le (by rw [List.length_zip, laneC_length h, laneS_length h]; omega), fp_all h.grp]
theorem rehTo_succ {H : Nat → Nat} {g : Nat} {Gs : List Grp} {k c s : Nat} (hc : (laneC Gs)[k]? = some c) (hs : (laneS Gs)[k]? = some s) : rehTo H g Gs (k + 1) = if c < 128 then insD H (rehTo H g Gs k) s else rehTo H g Gs k := by
  have hz : ((laneC Gs).zip (laneS Gs))[k]? = some (c, s) := by rw [List.getElem?_zip_eq_some]; exact ⟨hc, hs⟩
  unfold rehTo
  rw [List.take_add_one, hz, List.filterMap_append, List.foldl_append]
  by_cases h : c < 128
  · rw [if_pos h]
    simp [fpF, h]
  · rw [if_neg h]
    simp [fpF, h]
theorem rehTo_ok {H : Nat → Nat} {g : Nat} {Gs : List Grp} (hg : Pow g) (h : IxOk Gs) (k : Nat) : IxOk (rehTo H g Gs k) ∧ (rehTo H g Gs k).length = g := by
  unfold rehTo
  have hl : ∀ s ∈ ((((laneC Gs).zip (laneS Gs)).take k).filterMap fpF), s ≤ 4294967295 := by
    intro s hs
    obtain ⟨p, hp, e⟩ := List.mem_filterMap.1 hs
    have hp2 := (List.of_mem_zip (List.mem_of_mem_take hp)).2
    unfold fpF at e
    split at e
    · cases e; exact laneS_lt h _ hp2
    · cases e
  generalize ((((laneC Gs).zip (laneS Gs)).take k).filterMap fpF) = L at hl
  have : ∀ (L : List Nat) (o : List Grp), IxOk o → (∀ s ∈ L, s ≤ 4294967295) → IxOk (L.foldl (insD H) o) ∧ (L.foldl (insD H) o).length = o.length := by
    intro L
    induction L with
    | nil => intro o ho _; exact ⟨ho, rfl⟩
    | cons s L ih =>
      intro o ho hL
      obtain ⟨h1, h2⟩ := insD_ok (H := H) ho (hL s (by simp))
      obtain ⟨k1, k2⟩ := ih _ h1 (fun x hx => hL x (by simp [hx]))
      exact ⟨k1, k2.trans h2⟩
  obtain ⟨k1, k2⟩ := this L (newG g) (newG_ok hg) hl
  exact ⟨k1, k2.trans (newG_length g)⟩
theorem ins_anyR {H : Nat → Nat} {w w' : World} {aC : Option Addr} {cC : Nat} {aS : Option Addr} {cS : Nat} {o : List Grp} {s hh : Nat} {e : Ending} (hh0 : H s = hh) (h : rInsPost w aC cC aS cS o hh s e w') : ∃ aC' cC' aS' cS' z, e = .returned (.tuple #[refI aC' cC' aS' cS' (insD H o s).length, .int .i64 z]) ∧ RefI w' aC' cC' aS' cS' (insD H o s) ∧ Pure w w' := by
  subst hh0
  obtain ⟨hp, h⟩ := h
  unfold insD
  cases hm : insM o (H s) s with
  | none => rw [hm] at h; exact ⟨_, _, _, _, _, h.1, h.2, hp⟩
  | some o' =>
    rw [hm] at h
    obtain ⟨a, b, c, d, e1, e2⟩ := h
    exact ⟨a, b, c, d, _, e1, e2, hp⟩

/-- What is known while Rehash runs. -/
structure RRh (w : World) (b : Nat) (aC : Option Addr) (cC : Nat) (aS : Option Addr) (cS : Nat) (Gs o : List Grp) (W : World) : Prop where
  pu : Pure w W
  hb : W.heap[b]? = some (.cells #[.slice aC (8 * Gs.length) cC, .slice aS (8 * Gs.length) cS] 82 (0, 0))
  h8 : W.heap[b + 1]? = some (.cells #[.slice none 0 0, .slice none 0 0] 82 (0, 0))
  ro : RefI W aC cC aS cS Gs
theorem RRh.pure {w W W' : World} {b : Nat} {aC : Option Addr} {cC : Nat} {aS : Option Addr} {cS : Nat} {Gs o : List Grp} (h : RRh w b aC cC aS cS Gs o W) (hp : Pure W W') : RRh w b aC cC aS cS Gs o W' :=
  ⟨h.pu.trans hp, hp.heap (fun h => h) h.hb, hp.heap (fun h => h) h.h8, h.ro.pure hp⟩
structure ROut (b10 : Nat) (o : List Grp) (W : World) (a : Option Addr) (c : Nat) (a' : Option Addr) (c' : Nat) : Prop where
  h10 : W.heap[b10]? = some (.cells #[.slice a (8 * o.length) c, .slice a' (8 * o.length) c'] 82 (0, 0))
  ri : RefI W a c a' c' o
def rRehPost (w : World) (Gs : List Grp) (g f m : Nat) (e : Ending) (w' : World) : Prop := ∃ aC cC aS cS, e = .returned (.tuple #[refI aC cC aS cS (rehM (sumM f m) g Gs).length, .int .i64 0]) ∧ RefI w' aC cC aS cS (rehM (sumM f m) g Gs) ∧ Pure w w'
set_option maxHeartbeats 4000000 in
theorem rRehash_ok {w : World} {aC : Option Addr} {cC : Nat} {aS : Option Addr} {cS : Nat} {Gs : List Grp} (h : RefI w aC cC aS cS Gs) (g f m : Nat) (hg : Pow g) (hu : usedN Gs ≤ 8 * g) (hf : f < 18446744073709551616) (hm : m < 18446744073709551616) : Calls Try.prog 98 #[refI aC cC aS cS Gs.length, .int .i64 g, .int .u64 f, .int .u64 m] w (rRehPost w Gs g f m) := by
  have hg1 := h.ok.pow.le
  have hgg := hg.le
  have HOK := Lib.hid h.ok
  have HG := Lib.hid hg
  have hR0 := RBox.new h
  have hal : Pure (w.alloc (.cells #[.slice aC (8 * Gs.length) cC, .slice aS (8 * Gs.length) cS] 82)) ((w.alloc (.cells #[.slice aC (8 * Gs.length) cC, .slice aS (8 * Gs.length) cS] 82)).alloc (.cells #[.slice none 0 0, .slice none 0 0] 82)) := (Mod.refl _ _).alloc _
  have hR := hR0.pure hal
  have h6 := heap_new (w := w.alloc (.cells #[.slice aC (8 * Gs.length) cC, .slice aS (8 * Gs.length) cS] 82)) (o := .cells #[.slice none 0 0, .slice none 0 0] 82 (0, 0)) (n := w.heap.size + 1) (by simp)
  clear h hR0 hal
  have HNw := Lib.hid (fun W => rNew_ok g hg W)
  unfold refI
  go_enter Try.func98, Try.ntmps98
  go_upto_region 1 with fail
  generalize (w.alloc (.cells #[.slice aC (8 * Gs.length) cC, .slice aS (8 * Gs.length) cS] 82)).alloc (.cells #[.slice none 0 0, .slice none 0 0] 82) = W at *
  obtain ⟨b, hb⟩ : ∃ b, w.heap.size = b := ⟨_, rfl⟩
  rw [hb] at hR h6 ⊢
  have HR := Lib.hid (RRh.mk (o := []) hR.pu hR.bx h6 hR.rf)
  have HB := Lib.hid hb
  clear hR h6 hb
  unfold refI at HNw
  rw [newG_length] at HNw
  go_upto_region 2 with (go_at_call 46; refine Calls.mono (HNw.out _) ?_; rintro e w2 ⟨a2, c2, a3, c3, rfl, hri, hp2, _⟩)
  have hal2 : Pure w2 (w2.alloc (.cells #[.slice a2 (8 * g) c2, .slice a3 (8 * g) c3] 82)) := (Mod.refl _ w2).alloc _
  have h10 := heap_new (w := w2) (o := .cells #[.slice a2 (8 * g) c2, .slice a3 (8 * g) c3] 82 (0, 0)) rfl
  have hbs : b + 1 < w2.heap.size := lt_of_block (HR.out.pure hp2).h8
  replace HR := Lib.hid (HR.out.pure (hp2.trans hal2))
  have hri2 := hri.pure hal2
  have HO : Hid (∀ o : List Grp, o.length = g → o = newG g → ROut w2.heap.size o (w2.alloc (.cells #[.slice a2 (8 * g) c2, .slice a3 (8 * g) c3] 82)) a2 c2 a3 c3) := fun o hl e => by subst e; exact ⟨by rw [hl]; exact h10, hri2⟩
  have hcn := rCount_ok HR.out.ro 0 127 (by decide) (by decide)
  rw [cnt_used HOK.out] at hcn
  obtain ⟨n, hn⟩ : ∃ n, 8 * Gs.length = n := ⟨_, rfl⟩
  unfold refI at hcn
  have hbx := HR.out.hb
  rw [hn] at hcn hbx ⊢
  have HN := Lib.hid hn; have HCn := Lib.hid hcn
  clear hn hcn hal2 h10 hri hri2 hp2 HNw
  generalize w2.alloc (.cells #[.slice a2 (8 * g) c2, .slice a3 (8 * g) c3] 82) = W3 at *
  generalize w2.heap.size = b10 at *
  have w8 : IntKind.i64.wrap (8 * (g : Int)) = 8 * (g : Int) := IntWalk.i64_in _ (by omega)
  have hu' : (usedN Gs : Int) ≤ 8 * (g : Int) := by omega
  have hu2 : decide (8 * (g : Int) < (usedN Gs : Int)) = false := by simp; omega
  have hbx_0 := cell_of_row _ _ 0 _ _ _ hbx; have hbx_1 := cell_of_row _ _ 1 _ _ _ hbx; have hbx_f := (fun j => frozen_of_row _ _ j _ _ hbx); have hbx_l := lt_of_block hbx; simp at hbx_0 hbx_1; have H_hbx := Lib.hid hbx; clear hbx
  go_upto_region 6 with (go_at_call 104; refine Calls.mono HCn.out ?_; rintro e w4 ⟨rfl, hp4⟩)
  replace HR := Lib.hid (HR.out.pure hp4)
  have HO4 := Lib.hid (fun (o : List Grp) (h1 : o.length = g) (h2 : o = newG g) => (show ROut b10 o w4 a2 c2 a3 c3 from ⟨hp4.heap (fun h => h) (HO.out o h1 h2).h10, (HO.out o h1 h2).ri.pure hp4⟩))
  clear hbx_0 hbx_1 hbx_f hbx_l
  clear H_hbx HO hp4 HCn w8 hu2
  go_upto_region 7 with fail
  go_loopw [12] (fun v12 wr => ∃ k a c a' c', v12 = .int .i64 (k : Nat) ∧ k ≤ n ∧ RRh w b aC cC aS cS Gs [] wr ∧ ROut b10 (rehTo (sumM f m) g Gs k) wr a c a' c') (fun v12 _ => n - (intOf v12).toNat)
  case atStart => exact ⟨0, a2, c2, a3, c3, rfl, Nat.zero_le _, HR.out, HO4.out _ (newG_length g) rfl⟩
  case round =>
    clear HR HO4
    obtain ⟨k, a, c, a', c', rfl, hk, hrr, hro⟩ := hrel
    have HR := Lib.hid hrr; have HO := Lib.hid hro
    have hol := (rehTo_ok (H := sumM f m) HG.out HOK.out k).2
    obtain ⟨B1, B2, e1, e2, l1, l2, hC, hS⟩ := hrr.ro.cells
    subst e1 e2
    have hbx := hrr.hb
    have hn := HN.out
    rw [hn] at hbx l1 l2
    clear hrr hro
    have hnn : n ≤ 8388608 := by omega
    clear hn
    have wn : IntKind.i64.wrap (n : Int) = n := IntWalk.i64_in _ (by omega)
    have hbx_0 := cell_of_row _ _ 0 _ _ _ hbx; have hbx_1 := cell_of_row _ _ 1 _ _ _ hbx; have hbx_f := (fun j => frozen_of_row _ _ j _ _ hbx); have hbx_l := lt_of_block hbx; simp at hbx_0 hbx_1; have H_hbx := Lib.hid hbx; clear hbx
    by_cases hlt : k < n
    · have hlt' : (k : Int) < (n : Int) := by omega
      have wk : IntKind.i64.wrap ((k : Int) + 1) = (k : Int) + 1 := IntWalk.i64_in _ (by omega)
      obtain ⟨x, hx⟩ : ∃ x, (laneC Gs)[k]? = some x := ⟨_, List.getElem?_eq_getElem (by rw [laneC_length HOK.out, HN.out]; exact hlt)⟩
      obtain ⟨s, hs⟩ : ∃ s, (laneS Gs)[k]? = some s := ⟨_, List.getElem?_eq_getElem (by rw [laneS_length HOK.out, HN.out]; exact hlt)⟩
      have hx256 := laneC_lt HOK.out x (List.mem_of_getElem? hx)
      have hsl := laneS_lt HOK.out s (List.mem_of_getElem? hs)
      have hcx := hC k x hx
      have hcs := hS k s hs
      have hst := rehTo_succ (H := sumM f m) (g := g) hx hs
      have HST := Lib.hid hst
      clear hC hS hx hs hst
      by_cases h128 : x < 128
      · have h128' : (x : Int) < 128 := by omega
        go_upto_region 10 with fail
        rw [if_pos h128] at HST
        have HSm := Lib.hid (fun W => Sum_ok s f m W hsl hf hm)
        obtain ⟨o, ho⟩ : ∃ o, rehTo (sumM f m) g Gs k = o := ⟨_, rfl⟩
        rw [ho] at HO hol HST
        obtain ⟨hh, hhe⟩ : ∃ hh, sumM f m s = hh := ⟨_, rfl⟩
        rw [hhe] at HSm
        have hhl : hh < 18446744073709551616 := by rw [← hhe]; exact sumM_lt f m s
        have hol2 : (insD (sumM f m) o s).length = g := by rw [(insD_ok (H := sumM f m) HO.out.ri.ok hsl).2, hol]
        have hin : Calls Try.prog 94 #[.agg #[.slice a (8 * g) c, .slice a' (8 * g) c'], .int .u64 hh, .int .u32 s] wr.drew fun e w' => ∃ aC' cC' aS' cS' z, e = .returned (.tuple #[.agg #[.slice aC' (8 * g) cC', .slice aS' (8 * g) cS'], .int .i64 z]) ∧ RefI w' aC' cC' aS' cS' (insD (sumM f m) o s) ∧ Pure wr.drew w' := by
          have := rInsert_ok (HO.out.ri.pure (Mod.refl (fun _ => False) wr).drew) hh s hhl hsl
          unfold refI at this
          rw [hol] at this
          refine this.mono (fun e w' hq => ?_)
          obtain ⟨a1, a2, a3, a4, z, e1, e2, e3⟩ := ins_anyR hhe hq
          unfold refI at e1
          rw [hol2] at e1
          exact ⟨a1, a2, a3, a4, z, e1, e2, e3⟩
        have HIn := Lib.hid hin
        have h10 := HO.out.h10
        rw [hol] at h10
        have n1 : b ≠ b10 := by omega
        have n2 : B2 ≠ b10 := fun e => by
          obtain ⟨cc, e2⟩ := owns_type HR.out.ro.S (g := B2) rfl
          rw [e, h10] at e2; cases e2
        have hst : ∀ (X : World) (v0 v1 : Value), (X.cell? ⟨b, 1, none⟩ = some (.slice (some ⟨B2, 0, none⟩) n cS) ∧ X.cell? ⟨B2, k, none⟩ = some (.int .u32 (s : Nat))) → (((X.setCell ⟨b10, 0, none⟩ v0).setCell ⟨b10, 1, none⟩ v1).cell? ⟨b, 1, none⟩ = some (.slice (some ⟨B2, 0, none⟩) n cS) ∧ ((X.setCell ⟨b10, 0, none⟩ v0).setCell ⟨b10, 1, none⟩ v1).cell? ⟨B2, k, none⟩ = some (.int .u32 (s : Nat))) := fun X v0 v1 hX =>
          ⟨(Mod.set2 b10 0 1 v0 v1).cell (S := fun i => i = b10) (fun e => n1 e) hX.1, (Mod.set2 b10 0 1 v0 v1).cell (S := fun i => i = b10) (fun e => n2 e) hX.2⟩
        have q1 : wr.drew.cell? ⟨b, 1, none⟩ = _ := hbx_1
        have qS : wr.drew.cell? ⟨B2, k, none⟩ = _ := hcs
        have HH10 := Lib.hid h10
        have h10_0 := cell_of_row _ _ 0 _ _ _ h10; have h10_1 := cell_of_row _ _ 1 _ _ _ h10; have h10_f := (fun j => frozen_of_row _ _ j _ _ h10); have h10_l := lt_of_block h10; simp at h10_0 h10_1; have H_h10 := Lib.hid h10; clear h10
        have q10 : wr.drew.cell? ⟨b10, 0, none⟩ = _ := h10_0
        have q11 : wr.drew.cell? ⟨b10, 1, none⟩ = _ := h10_1
        refine wp_region_held_drew (S := fun w' => w'.cell? ⟨b, 1, none⟩ = some (.slice (some ⟨B2, 0, none⟩) n cS) ∧ w'.cell? ⟨B2, k, none⟩ = some (.int .u32 (s : Nat))) (by kernel_rfl) ⟨q1, qS⟩ (fun hHeld => ?_)
        (refine wpAnyH_take (i := 1) (v := ?_) rfl (by kernel_rfl) (by kernel_rfl) (by kernel_rfl) (fun _ _ _ h => h) (Yields.yieldsIf (Or.inl ⟨by rfl, ?_⟩)) hHeld ?_; rotate_left 1; focus (intro w; go_simp; try with_reducible rfl))
        (refine wpAnyH_take (i := 3) (v := ?_) rfl (by kernel_rfl) (by kernel_rfl) (by kernel_rfl) (fun _ _ _ h => h) (Yields.yieldsIf (Or.inl ⟨by rfl, ?_⟩)) hHeld ?_; rotate_left 1; focus (intro w; go_simp; try with_reducible rfl))
        (refine wpAnyH_take (i := 6) (v := ?_) rfl (by kernel_rfl) (by kernel_rfl) (by kernel_rfl) (fun _ _ _ h => h) (Yields.yieldsIf (Or.inl ⟨by rfl, ?_⟩)) hHeld ?_; rotate_left 1; focus (intro w; go_simp; try with_reducible rfl))
        (refine wpAnyH_take (i := 7) (v := ?_) rfl (by kernel_rfl) (by kernel_rfl) (by kernel_rfl) (fun _ _ _ h => h) (Yields.yieldsIf (Or.inl ⟨by rfl, ?_⟩)) hHeld ?_; rotate_left 1; focus (intro w; go_simp; try with_reducible rfl))
        (refine wpAnyH_take (i := 9) (v := ?_) rfl (by kernel_rfl) (by kernel_rfl) (by kernel_rfl) (fun _ _ _ h => h) (Yields.yieldsIf (Or.inl ⟨by rfl, ?_⟩)) hHeld ?_; rotate_left 1; focus (intro w; go_simp; try with_reducible rfl))
        (refine wpAnyH_take (i := 11) (v := ?_) rfl (by kernel_rfl) (by kernel_rfl) (by kernel_rfl) (fun _ _ _ h => h) (Yields.yieldsIf (Or.inl ⟨by rfl, ?_⟩)) hHeld ?_; rotate_left 1; focus (intro w; go_simp; try with_reducible rfl))
        (refine wpAnyH_take (i := 2) (v := ?_) rfl (by kernel_rfl) (by kernel_rfl) (by kernel_rfl) (fun _ _ _ h => h) (Or.inl ⟨by rfl, ?_⟩) hHeld ?_; rotate_left 1; focus (intro w hS; obtain ⟨s1, sS⟩ := hS; go_simp; try with_reducible rfl))
        (refine wpAnyH_take (i := 4) (v := ?_) rfl (by kernel_rfl) (by kernel_rfl) (by kernel_rfl) (fun _ _ _ h => h) (Yields.yieldsIf (Or.inl ⟨by rfl, ?_⟩)) hHeld ?_; rotate_left 1; focus (intro w; go_simp; try with_reducible rfl))
        (refine wpAnyH_take (i := 5) (v := ?_) rfl (by kernel_rfl) (by kernel_rfl) (by kernel_rfl) (fun _ _ _ h => h) (Or.inl ⟨by rfl, ?_⟩) hHeld ?_; rotate_left 1; focus (intro w hS; obtain ⟨s1, sS⟩ := hS; go_simp; try with_reducible rfl))
        (refine wpAnyH_take (i := 10) (v := ?_) rfl (by kernel_rfl) (by kernel_rfl) (by kernel_rfl) (fun _ _ _ h => h) (Or.inl ⟨by rfl, ?_⟩) hHeld ?_; rotate_left 1; focus (intro w hS; obtain ⟨s1, sS⟩ := hS; go_simp; try with_reducible rfl))
        (refine wpAnyH_take (i := 12) (v := ?_) rfl (by kernel_rfl) (by kernel_rfl) (by kernel_rfl) (fun _ _ _ h => h) (Yields.yieldsIf (Or.inl ⟨by rfl, ?_⟩)) hHeld ?_; rotate_left 1; focus (intro w; go_simp; try with_reducible rfl))
        (refine wpAnyH_take (i := 13) (v := ?_) rfl (by kernel_rfl) (by kernel_rfl) (by kernel_rfl) (fun _ _ _ h => h) (Or.inl ⟨by rfl, ?_⟩) hHeld ?_; rotate_left 1; focus (intro w hS; obtain ⟨s1, sS⟩ := hS; go_simp; try with_reducible rfl))
        refine wpAnyH_ready (rs := [0, 8]) (by kernel_rfl) (by simp) ?_
        refine AllReadyH.cons rfl (fun K hK => ?_) (AllReadyH.cons rfl (fun K hK => ?_) AllReadyH.nil)
        · go_simp
          refine hK.out _ _ hHeld (fun hHeld => ?_)
          clear hK K
          (refine wpAnyH_ready (rs := [8]) (by kernel_rfl) (by simp) ?_; refine AllReadyH.cons rfl (fun K hK => ?_) AllReadyH.nil; go_simp; refine Calls.mono (HSm.out _) ?_; rintro e w' ⟨rfl, rfl⟩; refine hK.out _ _ ?_ (fun hHeld => ?_); (· exact hHeld); clear hK K)
          (refine wpAnyH_ready (rs := [14]) (by kernel_rfl) (by simp) ?_; refine AllReadyH.cons rfl (fun K hK => ?_) AllReadyH.nil; go_simp; refine Calls.mono HIn.out ?_; rintro e w5 ⟨a5, c5, a6, c6, z, rfl, hr5, hp5⟩; refine hK.out _ _ ?_ (fun hHeld => ?_); (· exact ⟨hp5.cell (fun h => h) q1, hp5.cell (fun h => h) qS⟩); clear hK K)
          have h105 := hp5.heap (fun h => h) HH10.out
          have HR5 := Lib.hid hr5; have HP5 := Lib.hid (Mod.of_drew hp5 : Pure wr w5)
          have h105_0 := cell_of_row _ _ 0 _ _ _ h105; have h105_1 := cell_of_row _ _ 1 _ _ _ h105; have h105_f := (fun j => frozen_of_row _ _ j _ _ h105); have h105_l := lt_of_block h105; simp at h105_0 h105_1; have H_h105 := Lib.hid h105; clear h105
          (refine wpAnyH_take (i := 15) (v := ?_) rfl (by kernel_rfl) (by kernel_rfl) (by kernel_rfl) (fun _ _ _ h => h) (Yields.yieldsIf (Or.inl ⟨by rfl, ?_⟩)) hHeld ?_; rotate_left 1; focus (intro w; go_simp; try with_reducible rfl))
          (refine wpAnyH_take (i := 16) (v := ?_) rfl (by kernel_rfl) (by kernel_rfl) (by kernel_rfl) (fun _ _ _ h => h) (Yields.yieldsIf (Or.inl ⟨by rfl, ?_⟩)) hHeld ?_; rotate_left 1; focus (intro w; go_simp; try with_reducible rfl))
          (refine wpAnyH_take (i := 17) (v := ?_) rfl (by kernel_rfl) (by kernel_rfl) (by kernel_rfl) (fun _ _ _ h => h) (Yields.yieldsIf (Or.inl ⟨by rfl, ?_⟩)) hHeld ?_; rotate_left 1; focus (intro w; go_simp; try with_reducible rfl))
          (refine wpAnyH_ready (rs := [18]) (by kernel_rfl) (by simp) ?_; refine AllReadyH.cons rfl (fun K hK => ?_) AllReadyH.nil; go_simp; skip; refine hK.out _ _ ?_ (fun hHeld => ?_); (· exact hst _ _ _ hHeld); clear hK K)
          refine wpAnyH_done (by kernel_rfl) ?_ _
          have hmm : Mod (fun i => i = b10) w5 ((w5.setCell ⟨b10, 0, none⟩ (.slice a5 (8 * g) c5)).setCell ⟨b10, 1, none⟩ (.slice a6 (8 * g) c6)) := Mod.set2 b10 0 1 _ _
          have m2 := heap_set12 (v0 := .slice a5 (8 * g) c5) (v1 := .slice a6 (8 * g) c6) H_h105.out
          have hne : ∀ i, i = b10 → i < w5.heap.size → ∃ cs T' fz, w5.heap[i]? = some (.cells cs T' fz) ∧ T' ≠ 5 ∧ T' ≠ 43 := fun i e _ => ⟨_, _, _, e ▸ H_h105.out, by decide, by decide⟩
          have hr := HR.out.pure HP5.out
          have HE : Hid (RRh w b (some ⟨B1, 0, none⟩) cC (some ⟨B2, 0, none⟩) cS Gs [] ((w5.setCell ⟨b10, 0, none⟩ (.slice a5 (8 * g) c5)).setCell ⟨b10, 1, none⟩ (.slice a6 (8 * g) c6))) := ⟨hr.pu.then hmm (fun i hi e => by have := HB.out; omega), hmm.heap (fun e => n1 e) hr.hb, hmm.heap (by omega) hr.h8, hr.ro.modT hmm hne⟩
          have HOE : Hid (ROut b10 (insD (sumM f m) o s) ((w5.setCell ⟨b10, 0, none⟩ (.slice a5 (8 * g) c5)).setCell ⟨b10, 1, none⟩ (.slice a6 (8 * g) c6)) a5 c5 a6 c6) := ⟨by rw [hol2]; exact m2, HR5.out.modT hmm hne⟩
          go_wp2
          go_roundw
          case rel => exact ⟨k + 1, a5, c5, a6, c6, by go_num, hlt, HE.out, by rw [HST.out]; exact HOE.out⟩
          case measure => simp [intOf]; omega
        · go_simp
          refine Calls.mono (HSm.out _) ?_
          rintro e w' ⟨rfl, rfl⟩
          refine hK.out _ _ hHeld (fun hHeld => ?_)
          clear hK K
          (refine wpAnyH_ready (rs := [0]) (by kernel_rfl) (by simp) ?_; refine AllReadyH.cons rfl (fun K hK => ?_) AllReadyH.nil; go_simp; skip; refine hK.out _ _ ?_ (fun hHeld => ?_); (· exact hHeld); clear hK K)
          (refine wpAnyH_ready (rs := [14]) (by kernel_rfl) (by simp) ?_; refine AllReadyH.cons rfl (fun K hK => ?_) AllReadyH.nil; go_simp; refine Calls.mono HIn.out ?_; rintro e w5 ⟨a5, c5, a6, c6, z, rfl, hr5, hp5⟩; refine hK.out _ _ ?_ (fun hHeld => ?_); (· exact ⟨hp5.cell (fun h => h) q1, hp5.cell (fun h => h) qS⟩); clear hK K)
          have h105 := hp5.heap (fun h => h) HH10.out
          have HR5 := Lib.hid hr5; have HP5 := Lib.hid (Mod.of_drew hp5 : Pure wr w5)
          have h105_0 := cell_of_row _ _ 0 _ _ _ h105; have h105_1 := cell_of_row _ _ 1 _ _ _ h105; have h105_f := (fun j => frozen_of_row _ _ j _ _ h105); have h105_l := lt_of_block h105; simp at h105_0 h105_1; have H_h105 := Lib.hid h105; clear h105
          (refine wpAnyH_take (i := 15) (v := ?_) rfl (by kernel_rfl) (by kernel_rfl) (by kernel_rfl) (fun _ _ _ h => h) (Yields.yieldsIf (Or.inl ⟨by rfl, ?_⟩)) hHeld ?_; rotate_left 1; focus (intro w; go_simp; try with_reducible rfl))
          (refine wpAnyH_take (i := 16) (v := ?_) rfl (by kernel_rfl) (by kernel_rfl) (by kernel_rfl) (fun _ _ _ h => h) (Yields.yieldsIf (Or.inl ⟨by rfl, ?_⟩)) hHeld ?_; rotate_left 1; focus (intro w; go_simp; try with_reducible rfl))
          (refine wpAnyH_take (i := 17) (v := ?_) rfl (by kernel_rfl) (by kernel_rfl) (by kernel_rfl) (fun _ _ _ h => h) (Yields.yieldsIf (Or.inl ⟨by rfl, ?_⟩)) hHeld ?_; rotate_left 1; focus (intro w; go_simp; try with_reducible rfl))
          (refine wpAnyH_ready (rs := [18]) (by kernel_rfl) (by simp) ?_; refine AllReadyH.cons rfl (fun K hK => ?_) AllReadyH.nil; go_simp; skip; refine hK.out _ _ ?_ (fun hHeld => ?_); (· exact hst _ _ _ hHeld); clear hK K)
          refine wpAnyH_done (by kernel_rfl) ?_ _
          have hmm : Mod (fun i => i = b10) w5 ((w5.setCell ⟨b10, 0, none⟩ (.slice a5 (8 * g) c5)).setCell ⟨b10, 1, none⟩ (.slice a6 (8 * g) c6)) := Mod.set2 b10 0 1 _ _
          have m2 := heap_set12 (v0 := .slice a5 (8 * g) c5) (v1 := .slice a6 (8 * g) c6) H_h105.out
          have hne : ∀ i, i = b10 → i < w5.heap.size → ∃ cs T' fz, w5.heap[i]? = some (.cells cs T' fz) ∧ T' ≠ 5 ∧ T' ≠ 43 := fun i e _ => ⟨_, _, _, e ▸ H_h105.out, by decide, by decide⟩
          have hr := HR.out.pure HP5.out
          have HE : Hid (RRh w b (some ⟨B1, 0, none⟩) cC (some ⟨B2, 0, none⟩) cS Gs [] ((w5.setCell ⟨b10, 0, none⟩ (.slice a5 (8 * g) c5)).setCell ⟨b10, 1, none⟩ (.slice a6 (8 * g) c6))) := ⟨hr.pu.then hmm (fun i hi e => by have := HB.out; omega), hmm.heap (fun e => n1 e) hr.hb, hmm.heap (by omega) hr.h8, hr.ro.modT hmm hne⟩
          have HOE : Hid (ROut b10 (insD (sumM f m) o s) ((w5.setCell ⟨b10, 0, none⟩ (.slice a5 (8 * g) c5)).setCell ⟨b10, 1, none⟩ (.slice a6 (8 * g) c6)) a5 c5 a6 c6) := ⟨by rw [hol2]; exact m2, HR5.out.modT hmm hne⟩
          go_wp2
          go_roundw
          case rel => exact ⟨k + 1, a5, c5, a6, c6, by go_num, hlt, HE.out, by rw [HST.out]; exact HOE.out⟩
          case measure => simp [intOf]; omega
      · have h128' : (128 : Int) ≤ (x : Int) := by omega
        go_wp2
        go_roundw
        case rel => exact ⟨k + 1, a, c, a', c', by go_num, hlt, HR.out, by rw [HST.out, if_neg h128]; exact HO.out⟩
        case measure => simp [intOf]; omega
    · have hlt' : (n : Int) ≤ (k : Int) := by omega
      have e : k = n := by omega
      have hall := rehTo_all (H := sumM f m) (g := g) HOK.out
      rw [HN.out, ← e] at hall
      rw [hall] at HO hol
      have HALL := Lib.hid hall
      clear hall hC hS
      generalize rehTo (sumM f m) g Gs k = oo at *
      have h10 := HO.out.h10
      have h8 := HR.out.h8
      rw [hol] at h10
      have h10_0 := cell_of_row _ _ 0 _ _ _ h10; have h10_1 := cell_of_row _ _ 1 _ _ _ h10; have h10_f := (fun j => frozen_of_row _ _ j _ _ h10); have h10_l := lt_of_block h10; simp at h10_0 h10_1; have H_h10 := Lib.hid h10; clear h10
      have h8_0 := cell_of_row _ _ 0 _ _ _ h8; have h8_1 := cell_of_row _ _ 1 _ _ _ h8; have h8_f := (fun j => frozen_of_row _ _ j _ _ h8); have h8_l := lt_of_block h8; simp at h8_0 h8_1; have H_h8 := Lib.hid h8; clear h8
      go_wp2
      have m2 := heap_set12 (v0 := .slice a (8 * g) c) (v1 := .slice a' (8 * g) c') H_h8.out
      have hmm : Mod (fun i => i = b + 1) wr ((wr.setCell ⟨b + 1, 0, none⟩ (.slice a (8 * g) c)).setCell ⟨b + 1, 1, none⟩ (.slice a' (8 * g) c')) := Mod.set2 (b + 1) 0 1 _ _
      have x0 := cell_of_row _ (b + 1) 0 _ _ _ m2; have x1 := cell_of_row _ (b + 1) 1 _ _ _ m2
      simp at x0 x1
      have hne : ∀ i, i = b + 1 → i < wr.heap.size → ∃ cs T' fz, wr.heap[i]? = some (.cells cs T' fz) ∧ T' ≠ 5 ∧ T' ≠ 43 := fun i e _ => ⟨_, _, _, e ▸ H_h8.out, by decide, by decide⟩
      refine bodyPost_ret (v := .tuple #[refI a c a' c' (rehM (sumM f m) g Gs).length, .int .i64 0]) (by unfold refI; rw [hol]; simp [results, Try.results98, go_sem, x0, x1]) rfl ⟨a, c, a', c', rfl, HO.out.ri.modT hmm hne, HR.out.pu.then hmm (fun i hi e => by have := HB.out; omega)⟩
end Go.Proofs.Ytbjiebhbmpafpaa
