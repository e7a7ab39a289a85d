/- Lemmas and contracts of functions, strung together out of 1 texts. No condition. -/
import Derived.Test.YtapplindfijngaaGreatJPfDictOf20
/- The reference of layer 10: put, as the package's. -/
namespace Go.Proofs.YtapplindfijngaaGreat
open Go.RowKit Go.Shelf
set_option maxRecDepth 100000

/-- The six cells of a reference's dictionary. -/
def S6 (b : Nat) (v0 v1 v2 v3 v4 v5 : Value) (w' : World) : Prop :=
  w'.cell? ⟨b, 0, none⟩ = some v0 ∧ w'.cell? ⟨b, 1, none⟩ = some v1 ∧ w'.cell? ⟨b, 2, none⟩ = some v2 ∧ w'.cell? ⟨b, 3, none⟩ = some v3 ∧ w'.cell? ⟨b, 4, none⟩ = some v4 ∧ w'.cell? ⟨b, 5, none⟩ = some v5
theorem S6.mod {b : Nat} {v0 v1 v2 v3 v4 v5 : Value} {X Y : World} {S : Nat → Prop} (h : S6 b v0 v1 v2 v3 v4 v5 X) (hm : Mod S X Y) (h1 : ¬ S b) : S6 b v0 v1 v2 v3 v4 v5 Y :=
  ⟨hm.cell h1 h.1, hm.cell h1 h.2.1, hm.cell h1 h.2.2.1, hm.cell h1 h.2.2.2.1, hm.cell h1 h.2.2.2.2.1, hm.cell h1 h.2.2.2.2.2⟩
def S2 (b : Nat) (v4 v5 : Value) (w' : World) : Prop := w'.cell? ⟨b, 4, none⟩ = some v4 ∧ w'.cell? ⟨b, 5, none⟩ = some v5
theorem S2.mod {b : Nat} {v4 v5 : Value} {X Y : World} {S : Nat → Prop} (h : S2 b v4 v5 X) (hm : Mod S X Y) (h1 : ¬ S b) : S2 b v4 v5 Y := ⟨hm.cell h1 h.1, hm.cell h1 h.2⟩
/-- What the calls of the plan's region give, wherever they run. -/
theorem rdgroups {W1 W : World} {r : RA} {Q : List RQ} {Gs : List Grp} {m : Nat} (h : RefD W1 r Q Gs) (hm : 8 * Gs.length = m) (hp : Pure W1 W) : Calls Tryz.prog 14 #[.agg #[.slice r.aC m r.cC, .slice r.aS m r.cS]] W fun e w' => e = .returned (.int .i64 Gs.length) ∧ Pure W w' := by
  subst hm
  exact rGroups_ok (h.x.pure hp).ok
theorem rdcount {W1 W : World} {r : RA} {Q : List RQ} {Gs : List Grp} {m : Nat} (h : RefD W1 r Q Gs) (hm : 8 * Gs.length = m) (hp : Pure W1 W) : Calls Tryz.prog 15 #[.agg #[.slice r.aC m r.cC, .slice r.aS m r.cS], .int .u8 0, .int .u8 127] W fun e w' => e = .returned (.int .i64 (usedN Gs)) ∧ Pure W w' := by
  subst hm
  have := rCount_ok (h.x.pure hp) 0 127 (by decide) (by decide)
  rw [cnt_used h.x.ok] at this
  exact this
theorem rdtombs {W1 W : World} {r : RA} {Q : List RQ} {Gs : List Grp} {m : Nat} (h : RefD W1 r Q Gs) (hm : 8 * Gs.length = m) (hp : Pure W1 W) : Calls Tryz.prog 15 #[.agg #[.slice r.aC m r.cC, .slice r.aS m r.cS], .int .u8 254, .int .u8 254] W fun e w' => e = .returned (.int .i64 (tombN Gs)) ∧ Pure W w' := by
  subst hm
  have := rCount_ok (h.x.pure hp) 254 254 (by decide) (by decide)
  rw [cnt_tomb h.x.ok] at this
  exact this
theorem set45 {X : World} {b : Nat} {u0 u1 u2 u3 u4 u5 v4 v5 : Value} {T : TypeId} (h : X.heap[b]? = some (.cells #[u0, u1, u2, u3, u4, u5] T (0, 0))) : ((X.setCell ⟨b, 4, none⟩ v4).setCell ⟨b, 5, none⟩ v5).heap[b]? = some (.cells #[u0, u1, u2, u3, v4, v5] T (0, 0)) := by
  have h1 := heap_set1 (j := 4) (v := v4) h
  have h2 := heap_set1 (j := 5) (v := v5) h1
  simpa using h2
theorem set23 {X : World} {b : Nat} {u0 u1 u2 u3 u4 u5 v2 v3 : Value} {T : TypeId} (h : X.heap[b]? = some (.cells #[u0, u1, u2, u3, u4, u5] T (0, 0))) : ((X.setCell ⟨b, 2, none⟩ v2).setCell ⟨b, 3, none⟩ v3).heap[b]? = some (.cells #[u0, u1, v2, v3, u4, u5] T (0, 0)) := by
  have h1 := heap_set1 (j := 2) (v := v2) h
  have h2 := heap_set1 (j := 3) (v := v3) h1
  simpa using h2
/-- Behind a copy of the six cells into the result's block. -/
theorem RDo.ret {w W Y : World} {b b4 seed : Nat} {same : Bool} {r : RA} {n m : Nat} {Q : List RQ} {Gs : List Grp} (h : RDo w b b4 seed same r n m Q Gs W) (hb : w.heap.size ≤ b4) (g1 : Mod (fun k => k = b4) W Y) : Pure w Y ∧ RefD Y r Q Gs :=
  ⟨h.pu.then g1 (fun i hi e => by omega), h.rf.modX g1 (fun i hi _ => by subst hi; exact ⟨_, _, _, h.h4, by decide, by decide, by decide, by decide⟩)⟩
set_option maxHeartbeats 4000000 in
theorem rdput_ok {w : World} {r : RA} {Q : List RQ} {Gs : List Grp} (h : RefD w r Q Gs) (seed : Nat) (same : Bool) (hsd : seed < 18446744073709551616) {x : Nat × Bool} (hpl : planI Gs.length (usedN Gs) (tombN Gs) = some x) (hx : Pow x.1)
    (hL : ∀ s ∈ Gs.flatMap fullS, liveS (slotsR (Q.map absQ)) s) {s : Nat} (hs : liveS (slotsR (Q.map absQ)) s) (hs32 : s ≤ 4294967295) :
    Calls Tryz.prog 55 #[rdV seed same r Q.length (8 * Gs.length), .int .u32 s] w (rddoPost w seed same r Q (putM (sumL seed same (slotsR (Q.map absQ))) Gs s)) := by
  have hut := used_tomb_le h.x.ok.grp
  have hpw := h.x.ok.pow
  obtain ⟨g, rh⟩ := x
  obtain ⟨n, hn⟩ : ∃ n, Q.length = n := ⟨_, rfl⟩
  obtain ⟨m, hm⟩ : ∃ m, 8 * Gs.length = m := ⟨_, rfl⟩
  have h2a := heap_new (w := w) (o := rdO seed same r n m) rfl
  have h4a := heap_new (w := w.alloc (rdO seed same r n m)) (o := .cells #[.int .u64 0, .bool false, .slice none 0 0, .slice none 0 0, .slice none 0 0, .slice none 0 0] 38 (0, 0)) (n := w.heap.size + 1) (by simp)
  have hp0 : Pure w ((w.alloc (rdO seed same r n m)).alloc (.cells #[.int .u64 0, .bool false, .slice none 0 0, .slice none 0 0, .slice none 0 0, .slice none 0 0] 38)) := ((Mod.refl _ w).alloc _).alloc _
  have HD := Lib.hid (RDo.mk (b := w.heap.size) (b4 := w.heap.size + 1) hp0 (heap_keep h2a) h4a (h.pure hp0))
  obtain ⟨H, hH⟩ : ∃ H, sumL seed same (slotsR (Q.map absQ)) = H := ⟨_, rfl⟩
  have hput : putM H Gs s = insD H (doG H (g, rh) Gs) s := by unfold putM; rw [hpl]; rfl
  have HPUT := Lib.hid hput
  have HDo : Hid (∀ (W : World), RefD W r Q Gs → Calls Tryz.prog 68 #[rdV seed same r n m, .agg #[.int .i64 g, .bool rh]] W (rddoPost W seed same r Q (doG H (g, rh) Gs))) := Lib.hid (fun W hW => by
    have := rddo_ok hW seed same hsd (g, rh) hx hL
    rw [hn, hm, hH] at this
    exact this)
  have HSm : Hid (∀ (W : World) (r2 : RA) (G2 : List Grp) (m2 : Nat), RefD W r2 Q G2 → Calls Tryz.prog 66 #[rdV seed same r2 n m2, .int .u32 s] W fun e w' => e = .returned (.int .u64 (H s : Nat)) ∧ Pure W w') := Lib.hid (fun W r2 G2 m2 hW => by
    have := rdsumL (m := m2) hW seed same hsd hs
    rw [hn, hH] at this
    exact this)
  have HHl : Hid (H s < 18446744073709551616) := Lib.hid (by rw [← hH]; exact sumL_lt seed same _ s)
  have hOK2 : IxOk (doG H (g, rh) Gs) := by
    unfold doG
    cases rh with
    | false => exact h.x.ok
    | true => show IxOk (rehM H g Gs); rw [← rehTo_all h.x.ok]; exact (rehTo_ok (H := H) hx h.x.ok _).1
  have HOK2 := Lib.hid hOK2
  have HI := Lib.hid (fun W => rInsertP_ok (live := usedN Gs) (tombs := tombN Gs) hpw hut W)
  rw [hpl] at HI
  dsimp only [planV] at HI
  rw [hn, hm, hH]
  have HN := Lib.hid hn; have HM := Lib.hid hm
  clear h hn hm hx hL hH h2a h4a hp0 hpl hput hut hpw hsd hs hOK2
  obtain ⟨aL, cL, aG, cG, aC, cC, aS, cS⟩ := r
  dsimp only [rdO] at HD ⊢
  go_enter Tryz.func55, Tryz.ntmps55
  go_upto_region 1 with fail
  generalize ((w.alloc (.cells #[.int .u64 seed, .bool same, .slice aL n cL, .slice aG n cG, .slice aC m cC, .slice aS m cS] 38)).alloc (.cells #[.int .u64 0, .bool false, .slice none 0 0, .slice none 0 0, .slice none 0 0, .slice none 0 0] 38)) = W1 at *
  obtain ⟨b, hb⟩ : ∃ b, w.heap.size = b := ⟨_, rfl⟩
  rw [hb] at HD ⊢
  have HB := Lib.hid hb
  clear hb
  have hd2 := HD.out.h2
  have hbl : b < W1.heap.size := lt_of_block hd2
  have HC0 := Lib.hid (fun W (hW : Pure W1 W) => rdgroups HD.out.rf HM.out hW)
  have HC1 := Lib.hid (fun W (hW : Pure W1 W) => rdcount HD.out.rf HM.out hW)
  have HC2 := Lib.hid (fun W (hW : Pure W1 W) => rdtombs HD.out.rf HM.out hW)
  have HC3 := Lib.hid (fun W (_ : Pure W1 W) => HI.out W)
  dsimp only at HC0 HC1 HC2
  generalize Gs.length = g0 at HC0 HC3
  generalize usedN Gs = u0 at HC1 HC3
  generalize tombN Gs = t0 at HC2 HC3
  dsimp only [rdO] at hd2
  have hd2_0 := cell_of_row _ _ 0 _ _ _ hd2; have hd2_1 := cell_of_row _ _ 1 _ _ _ hd2; have hd2_2 := cell_of_row _ _ 2 _ _ _ hd2; have hd2_3 := cell_of_row _ _ 3 _ _ _ hd2; have hd2_4 := cell_of_row _ _ 4 _ _ _ hd2; have hd2_5 := cell_of_row _ _ 5 _ _ _ hd2; have hd2_f := (fun j => frozen_of_row _ _ j _ _ hd2); have hd2_l := lt_of_block hd2; simp at hd2_0 hd2_1 hd2_2 hd2_3 hd2_4 hd2_5; have H_hd2 := Lib.hid hd2; clear hd2
  go_cut [5, 6] (fun v5 v6 wx => v6 = .int .i64 0 ∧ ∃ b5, v5 = .pointer (some ⟨b5, 0, none⟩) ∧ wx.heap[b5]? = some (.cells #[.int .i64 g, .bool rh] 112 (0, 0)) ∧ Pure W1 wx)
  case first =>
    clear HI HDo HSm HPUT HHl
    have hpu : Pure W1 W1.drew := (Mod.refl _ W1).drew
    refine wp_region_held_drew (S := S2 b (.slice aC m cC) (.slice aS m cS)) (by kernel_rfl) ⟨hd2_4, hd2_5⟩ (fun hHeld => ?_)
    generalize W1.drew = WD at *
    (refine wpAnyH_take (i := 0) (v := ?_) rfl (by kernel_rfl) (by kernel_rfl) (by kernel_rfl) (fun _ _ _ h => h) (Yields.yieldsIf (Or.inl ⟨by rfl, ?_⟩)) hHeld ?_; rotate_left 1; focus (intro w; go_simp; try with_reducible rfl))
    (refine wpAnyH_take (i := 3) (v := ?_) rfl (by kernel_rfl) (by kernel_rfl) (by kernel_rfl) (fun _ _ _ h => h) (Yields.yieldsIf (Or.inl ⟨by rfl, ?_⟩)) hHeld ?_; rotate_left 1; focus (intro w; go_simp; try with_reducible rfl))
    (refine wpAnyH_take (i := 6) (v := ?_) rfl (by kernel_rfl) (by kernel_rfl) (by kernel_rfl) (fun _ _ _ h => h) (Yields.yieldsIf (Or.inl ⟨by rfl, ?_⟩)) hHeld ?_; rotate_left 1; focus (intro w; go_simp; try with_reducible rfl))
    (refine wpAnyH_take (i := 1) (v := ?_) rfl (by kernel_rfl) (by kernel_rfl) (by kernel_rfl) (fun _ _ _ h => h) (Or.inl ⟨by rfl, ?_⟩) hHeld ?_; rotate_left 1; focus (intro w hS; obtain ⟨s4, s5⟩ := hS; go_simp; try with_reducible rfl))
    (refine wpAnyH_take (i := 4) (v := ?_) rfl (by kernel_rfl) (by kernel_rfl) (by kernel_rfl) (fun _ _ _ h => h) (Or.inl ⟨by rfl, ?_⟩) hHeld ?_; rotate_left 1; focus (intro w hS; obtain ⟨s4, s5⟩ := hS; go_simp; try with_reducible rfl))
    (refine wpAnyH_take (i := 7) (v := ?_) rfl (by kernel_rfl) (by kernel_rfl) (by kernel_rfl) (fun _ _ _ h => h) (Or.inl ⟨by rfl, ?_⟩) hHeld ?_; rotate_left 1; focus (intro w hS; obtain ⟨s4, s5⟩ := hS; go_simp; try with_reducible rfl))
    refine wpAnyH_ready (rs := [2, 13]) (by kernel_rfl) (by simp) ?_
    refine AllReadyH.cons rfl (fun K hK => ?_) (AllReadyH.cons rfl (fun K hK => ?_) AllReadyH.nil)
    · go_simp
      refine Calls.mono (HC0.out _ hpu) ?_
      rintro e w0 ⟨rfl, hpN⟩
      refine hK.out _ _ (hHeld.mod hpN (fun h => h)) (fun hHeld => ?_)
      clear hK K
      replace hpu := hpu.trans hpN
      clear hpN
      refine wpAnyH_ready (rs := [5, 13]) (by kernel_rfl) (by simp) ?_
      refine AllReadyH.cons rfl (fun K hK => ?_) (AllReadyH.cons rfl (fun K hK => ?_) AllReadyH.nil)
      · go_simp
        refine Calls.mono (HC1.out _ hpu) ?_
        rintro e w1 ⟨rfl, hpN⟩
        refine hK.out _ _ (hHeld.mod hpN (fun h => h)) (fun hHeld => ?_)
        clear hK K
        replace hpu := hpu.trans hpN
        clear hpN
        refine wpAnyH_ready (rs := [8, 13]) (by kernel_rfl) (by simp) ?_
        refine AllReadyH.cons rfl (fun K hK => ?_) (AllReadyH.cons rfl (fun K hK => ?_) AllReadyH.nil)
        · go_simp
          refine Calls.mono (HC2.out _ hpu) ?_
          rintro e w2 ⟨rfl, hpN⟩
          refine hK.out _ _ (hHeld.mod hpN (fun h => h)) (fun hHeld => ?_)
          clear hK K
          replace hpu := hpu.trans hpN
          clear hpN
          refine wpAnyH_ready (rs := [9, 13]) (by kernel_rfl) (by simp) ?_
          refine AllReadyH.cons rfl (fun K hK => ?_) (AllReadyH.cons rfl (fun K hK => ?_) AllReadyH.nil)
          · go_simp
            refine Calls.mono (HC3.out _ hpu) ?_
            rintro e w3 ⟨rfl, hpN⟩
            refine hK.out _ _ (hHeld.mod hpN (fun h => h)) (fun hHeld => ?_)
            clear hK K
            replace hpu := hpu.trans hpN
            clear hpN
            (refine wpAnyH_take (i := 10) (v := ?_) rfl (by kernel_rfl) (by kernel_rfl) (by kernel_rfl) (fun _ _ _ h => h) (Yields.yieldsIf (Or.inl ⟨by rfl, ?_⟩)) hHeld ?_; rotate_left 1; focus (intro w; go_simp; try with_reducible rfl))
            (refine wpAnyH_take (i := 11) (v := ?_) rfl (by kernel_rfl) (by kernel_rfl) (by kernel_rfl) (fun _ _ _ h => h) (Yields.yieldsIf (Or.inl ⟨by rfl, ?_⟩)) hHeld ?_; rotate_left 1; focus (intro w; go_simp; try with_reducible rfl))
            (refine wpAnyH_take (i := 12) (v := ?_) rfl (by kernel_rfl) (by kernel_rfl) (by kernel_rfl) (fun _ _ _ h => h) (Yields.yieldsIf (Or.inl ⟨by rfl, ?_⟩)) hHeld ?_; rotate_left 1; focus (intro w; go_simp; try with_reducible rfl))
            refine wpAnyH_ready (rs := [13]) (by kernel_rfl) (by simp) ?_
            refine AllReadyH.cons rfl (fun K hK => ?_) AllReadyH.nil
            go_simp
            have hle0 := hpu.size
            refine hK.out _ _ (hHeld.mod ((Mod.refl (fun _ => False) _).alloc _) (fun h => h)) (fun hHeld => ?_)
            clear hK K
            have hz := heap_new (w := w3) (o := .cells #[.int .i64 0, .bool false] 112 (0, 0)) rfl
            replace hpu := hpu.alloc (.cells #[.int .i64 0, .bool false] 112)
            have hle5 : W1.heap.size ≤ w3.heap.size := hle0
            generalize (w3).alloc (.cells #[.int .i64 0, .bool false] 112) = WA at *
            generalize (w3).heap.size = b5 at *
            have hnb : ¬ b = b5 := by omega
            clear hle0
            have hz_0 := cell_of_row _ _ 0 _ _ _ hz; have hz_1 := cell_of_row _ _ 1 _ _ _ hz; have hz_f := (fun j => frozen_of_row _ _ j _ _ hz); have hz_l := lt_of_block hz; simp at hz_0 hz_1; have H_hz := Lib.hid hz; clear hz
            (refine wpAnyH_ready (rs := [14]) (by kernel_rfl) (by simp) ?_; refine AllReadyH.cons rfl (fun K hK => ?_) AllReadyH.nil; go_simp; skip; refine hK.out _ _ ?_ (fun hHeld => ?_); (· exact hHeld.mod (Mod.set2 _ 0 1 _ _) (fun e => hnb e)); clear hK K)
            (refine wpAnyH_take (i := 15) (v := ?_) rfl (by kernel_rfl) (by kernel_rfl) (by kernel_rfl) (fun _ _ _ h => h) (Yields.yieldsIf (Or.inl ⟨by rfl, ?_⟩)) hHeld ?_; rotate_left 1; focus (intro w; go_simp; try with_reducible rfl))
            refine wpAnyH_done (by kernel_rfl) ?_ _
            try go_wp2
            go_meet
            exact ⟨rfl, _, rfl, heap_set12 H_hz.out, hpu.then (Mod.set2 _ 0 1 _ _) (fun i hi e => by omega)⟩
          · go_simp
            have hle0 := hpu.size
            refine hK.out _ _ (hHeld.mod ((Mod.refl (fun _ => False) _).alloc _) (fun h => h)) (fun hHeld => ?_)
            clear hK K
            have hz := heap_new (w := w2) (o := .cells #[.int .i64 0, .bool false] 112 (0, 0)) rfl
            replace hpu := hpu.alloc (.cells #[.int .i64 0, .bool false] 112)
            have hle5 : W1.heap.size ≤ w2.heap.size := hle0
            generalize (w2).alloc (.cells #[.int .i64 0, .bool false] 112) = WA at *
            generalize (w2).heap.size = b5 at *
            have hnb : ¬ b = b5 := by omega
            clear hle0
            (refine wpAnyH_ready (rs := [9]) (by kernel_rfl) (by simp) ?_; refine AllReadyH.cons rfl (fun K hK => ?_) AllReadyH.nil; go_simp; refine Calls.mono (HC3.out _ hpu) ?_; rintro e w3 ⟨rfl, hpN⟩; refine hK.out _ _ ?_ (fun hHeld => ?_); (· exact hHeld.mod hpN (fun h => h)); clear hK K)
            replace hpu := hpu.trans hpN
            replace hz := hpN.heap (fun h => h) hz
            clear hpN
            (refine wpAnyH_take (i := 10) (v := ?_) rfl (by kernel_rfl) (by kernel_rfl) (by kernel_rfl) (fun _ _ _ h => h) (Yields.yieldsIf (Or.inl ⟨by rfl, ?_⟩)) hHeld ?_; rotate_left 1; focus (intro w; go_simp; try with_reducible rfl))
            (refine wpAnyH_take (i := 11) (v := ?_) rfl (by kernel_rfl) (by kernel_rfl) (by kernel_rfl) (fun _ _ _ h => h) (Yields.yieldsIf (Or.inl ⟨by rfl, ?_⟩)) hHeld ?_; rotate_left 1; focus (intro w; go_simp; try with_reducible rfl))
            (refine wpAnyH_take (i := 12) (v := ?_) rfl (by kernel_rfl) (by kernel_rfl) (by kernel_rfl) (fun _ _ _ h => h) (Yields.yieldsIf (Or.inl ⟨by rfl, ?_⟩)) hHeld ?_; rotate_left 1; focus (intro w; go_simp; try with_reducible rfl))
            have hz_0 := cell_of_row _ _ 0 _ _ _ hz; have hz_1 := cell_of_row _ _ 1 _ _ _ hz; have hz_f := (fun j => frozen_of_row _ _ j _ _ hz); have hz_l := lt_of_block hz; simp at hz_0 hz_1; have H_hz := Lib.hid hz; clear hz
            (refine wpAnyH_ready (rs := [14]) (by kernel_rfl) (by simp) ?_; refine AllReadyH.cons rfl (fun K hK => ?_) AllReadyH.nil; go_simp; skip; refine hK.out _ _ ?_ (fun hHeld => ?_); (· exact hHeld.mod (Mod.set2 _ 0 1 _ _) (fun e => hnb e)); clear hK K)
            (refine wpAnyH_take (i := 15) (v := ?_) rfl (by kernel_rfl) (by kernel_rfl) (by kernel_rfl) (fun _ _ _ h => h) (Yields.yieldsIf (Or.inl ⟨by rfl, ?_⟩)) hHeld ?_; rotate_left 1; focus (intro w; go_simp; try with_reducible rfl))
            refine wpAnyH_done (by kernel_rfl) ?_ _
            try go_wp2
            go_meet
            exact ⟨rfl, _, rfl, heap_set12 H_hz.out, hpu.then (Mod.set2 _ 0 1 _ _) (fun i hi e => by omega)⟩
        · go_simp
          have hle0 := hpu.size
          refine hK.out _ _ (hHeld.mod ((Mod.refl (fun _ => False) _).alloc _) (fun h => h)) (fun hHeld => ?_)
          clear hK K
          have hz := heap_new (w := w1) (o := .cells #[.int .i64 0, .bool false] 112 (0, 0)) rfl
          replace hpu := hpu.alloc (.cells #[.int .i64 0, .bool false] 112)
          have hle5 : W1.heap.size ≤ w1.heap.size := hle0
          generalize (w1).alloc (.cells #[.int .i64 0, .bool false] 112) = WA at *
          generalize (w1).heap.size = b5 at *
          have hnb : ¬ b = b5 := by omega
          clear hle0
          (refine wpAnyH_ready (rs := [8]) (by kernel_rfl) (by simp) ?_; refine AllReadyH.cons rfl (fun K hK => ?_) AllReadyH.nil; go_simp; refine Calls.mono (HC2.out _ hpu) ?_; rintro e w2 ⟨rfl, hpN⟩; refine hK.out _ _ ?_ (fun hHeld => ?_); (· exact hHeld.mod hpN (fun h => h)); clear hK K)
          replace hpu := hpu.trans hpN
          replace hz := hpN.heap (fun h => h) hz
          clear hpN
          (refine wpAnyH_ready (rs := [9]) (by kernel_rfl) (by simp) ?_; refine AllReadyH.cons rfl (fun K hK => ?_) AllReadyH.nil; go_simp; refine Calls.mono (HC3.out _ hpu) ?_; rintro e w3 ⟨rfl, hpN⟩; refine hK.out _ _ ?_ (fun hHeld => ?_); (· exact hHeld.mod hpN (fun h => h)); clear hK K)
          replace hpu := hpu.trans hpN
          replace hz := hpN.heap (fun h => h) hz
          clear hpN
          (refine wpAnyH_take (i := 10) (v := ?_) rfl (by kernel_rfl) (by kernel_rfl) (by kernel_rfl) (fun _ _ _ h => h) (Yields.yieldsIf (Or.inl ⟨by rfl, ?_⟩)) hHeld ?_; rotate_left 1; focus (intro w; go_simp; try with_reducible rfl))
          (refine wpAnyH_take (i := 11) (v := ?_) rfl (by kernel_rfl) (by kernel_rfl) (by kernel_rfl) (fun _ _ _ h => h) (Yields.yieldsIf (Or.inl ⟨by rfl, ?_⟩)) hHeld ?_; rotate_left 1; focus (intro w; go_simp; try with_reducible rfl))
          (refine wpAnyH_take (i := 12) (v := ?_) rfl (by kernel_rfl) (by kernel_rfl) (by kernel_rfl) (fun _ _ _ h => h) (Yields.yieldsIf (Or.inl ⟨by rfl, ?_⟩)) hHeld ?_; rotate_left 1; focus (intro w; go_simp; try with_reducible rfl))
          have hz_0 := cell_of_row _ _ 0 _ _ _ hz; have hz_1 := cell_of_row _ _ 1 _ _ _ hz; have hz_f := (fun j => frozen_of_row _ _ j _ _ hz); have hz_l := lt_of_block hz; simp at hz_0 hz_1; have H_hz := Lib.hid hz; clear hz
          (refine wpAnyH_ready (rs := [14]) (by kernel_rfl) (by simp) ?_; refine AllReadyH.cons rfl (fun K hK => ?_) AllReadyH.nil; go_simp; skip; refine hK.out _ _ ?_ (fun hHeld => ?_); (· exact hHeld.mod (Mod.set2 _ 0 1 _ _) (fun e => hnb e)); clear hK K)
          (refine wpAnyH_take (i := 15) (v := ?_) rfl (by kernel_rfl) (by kernel_rfl) (by kernel_rfl) (fun _ _ _ h => h) (Yields.yieldsIf (Or.inl ⟨by rfl, ?_⟩)) hHeld ?_; rotate_left 1; focus (intro w; go_simp; try with_reducible rfl))
          refine wpAnyH_done (by kernel_rfl) ?_ _
          try go_wp2
          go_meet
          exact ⟨rfl, _, rfl, heap_set12 H_hz.out, hpu.then (Mod.set2 _ 0 1 _ _) (fun i hi e => by omega)⟩
      · go_simp
        have hle0 := hpu.size
        refine hK.out _ _ (hHeld.mod ((Mod.refl (fun _ => False) _).alloc _) (fun h => h)) (fun hHeld => ?_)
        clear hK K
        have hz := heap_new (w := w0) (o := .cells #[.int .i64 0, .bool false] 112 (0, 0)) rfl
        replace hpu := hpu.alloc (.cells #[.int .i64 0, .bool false] 112)
        have hle5 : W1.heap.size ≤ w0.heap.size := hle0
        generalize (w0).alloc (.cells #[.int .i64 0, .bool false] 112) = WA at *
        generalize (w0).heap.size = b5 at *
        have hnb : ¬ b = b5 := by omega
        clear hle0
        (refine wpAnyH_ready (rs := [5]) (by kernel_rfl) (by simp) ?_; refine AllReadyH.cons rfl (fun K hK => ?_) AllReadyH.nil; go_simp; refine Calls.mono (HC1.out _ hpu) ?_; rintro e w1 ⟨rfl, hpN⟩; refine hK.out _ _ ?_ (fun hHeld => ?_); (· exact hHeld.mod hpN (fun h => h)); clear hK K)
        replace hpu := hpu.trans hpN
        replace hz := hpN.heap (fun h => h) hz
        clear hpN
        (refine wpAnyH_ready (rs := [8]) (by kernel_rfl) (by simp) ?_; refine AllReadyH.cons rfl (fun K hK => ?_) AllReadyH.nil; go_simp; refine Calls.mono (HC2.out _ hpu) ?_; rintro e w2 ⟨rfl, hpN⟩; refine hK.out _ _ ?_ (fun hHeld => ?_); (· exact hHeld.mod hpN (fun h => h)); clear hK K)
        replace hpu := hpu.trans hpN
        replace hz := hpN.heap (fun h => h) hz
        clear hpN
        (refine wpAnyH_ready (rs := [9]) (by kernel_rfl) (by simp) ?_; refine AllReadyH.cons rfl (fun K hK => ?_) AllReadyH.nil; go_simp; refine Calls.mono (HC3.out _ hpu) ?_; rintro e w3 ⟨rfl, hpN⟩; refine hK.out _ _ ?_ (fun hHeld => ?_); (· exact hHeld.mod hpN (fun h => h)); clear hK K)
        replace hpu := hpu.trans hpN
        replace hz := hpN.heap (fun h => h) hz
        clear hpN
        (refine wpAnyH_take (i := 10) (v := ?_) rfl (by kernel_rfl) (by kernel_rfl) (by kernel_rfl) (fun _ _ _ h => h) (Yields.yieldsIf (Or.inl ⟨by rfl, ?_⟩)) hHeld ?_; rotate_left 1; focus (intro w; go_simp; try with_reducible rfl))
        (refine wpAnyH_take (i := 11) (v := ?_) rfl (by kernel_rfl) (by kernel_rfl) (by kernel_rfl) (fun _ _ _ h => h) (Yields.yieldsIf (Or.inl ⟨by rfl, ?_⟩)) hHeld ?_; rotate_left 1; focus (intro w; go_simp; try with_reducible rfl))
        (refine wpAnyH_take (i := 12) (v := ?_) rfl (by kernel_rfl) (by kernel_rfl) (by kernel_rfl) (fun _ _ _ h => h) (Yields.yieldsIf (Or.inl ⟨by rfl, ?_⟩)) hHeld ?_; rotate_left 1; focus (intro w; go_simp; try with_reducible rfl))
        have hz_0 := cell_of_row _ _ 0 _ _ _ hz; have hz_1 := cell_of_row _ _ 1 _ _ _ hz; have hz_f := (fun j => frozen_of_row _ _ j _ _ hz); have hz_l := lt_of_block hz; simp at hz_0 hz_1; have H_hz := Lib.hid hz; clear hz
        (refine wpAnyH_ready (rs := [14]) (by kernel_rfl) (by simp) ?_; refine AllReadyH.cons rfl (fun K hK => ?_) AllReadyH.nil; go_simp; skip; refine hK.out _ _ ?_ (fun hHeld => ?_); (· exact hHeld.mod (Mod.set2 _ 0 1 _ _) (fun e => hnb e)); clear hK K)
        (refine wpAnyH_take (i := 15) (v := ?_) rfl (by kernel_rfl) (by kernel_rfl) (by kernel_rfl) (fun _ _ _ h => h) (Yields.yieldsIf (Or.inl ⟨by rfl, ?_⟩)) hHeld ?_; rotate_left 1; focus (intro w; go_simp; try with_reducible rfl))
        refine wpAnyH_done (by kernel_rfl) ?_ _
        try go_wp2
        go_meet
        exact ⟨rfl, _, rfl, heap_set12 H_hz.out, hpu.then (Mod.set2 _ 0 1 _ _) (fun i hi e => by omega)⟩
    · go_simp
      have hle0 := hpu.size
      refine hK.out _ _ (hHeld.mod ((Mod.refl (fun _ => False) _).alloc _) (fun h => h)) (fun hHeld => ?_)
      clear hK K
      have hz := heap_new (w := WD) (o := .cells #[.int .i64 0, .bool false] 112 (0, 0)) rfl
      replace hpu := hpu.alloc (.cells #[.int .i64 0, .bool false] 112)
      have hle5 : W1.heap.size ≤ WD.heap.size := hle0
      generalize (WD).alloc (.cells #[.int .i64 0, .bool false] 112) = WA at *
      generalize (WD).heap.size = b5 at *
      have hnb : ¬ b = b5 := by omega
      clear hle0
      (refine wpAnyH_ready (rs := [2]) (by kernel_rfl) (by simp) ?_; refine AllReadyH.cons rfl (fun K hK => ?_) AllReadyH.nil; go_simp; refine Calls.mono (HC0.out _ hpu) ?_; rintro e w0 ⟨rfl, hpN⟩; refine hK.out _ _ ?_ (fun hHeld => ?_); (· exact hHeld.mod hpN (fun h => h)); clear hK K)
      replace hpu := hpu.trans hpN
      replace hz := hpN.heap (fun h => h) hz
      clear hpN
      (refine wpAnyH_ready (rs := [5]) (by kernel_rfl) (by simp) ?_; refine AllReadyH.cons rfl (fun K hK => ?_) AllReadyH.nil; go_simp; refine Calls.mono (HC1.out _ hpu) ?_; rintro e w1 ⟨rfl, hpN⟩; refine hK.out _ _ ?_ (fun hHeld => ?_); (· exact hHeld.mod hpN (fun h => h)); clear hK K)
      replace hpu := hpu.trans hpN
      replace hz := hpN.heap (fun h => h) hz
      clear hpN
      (refine wpAnyH_ready (rs := [8]) (by kernel_rfl) (by simp) ?_; refine AllReadyH.cons rfl (fun K hK => ?_) AllReadyH.nil; go_simp; refine Calls.mono (HC2.out _ hpu) ?_; rintro e w2 ⟨rfl, hpN⟩; refine hK.out _ _ ?_ (fun hHeld => ?_); (· exact hHeld.mod hpN (fun h => h)); clear hK K)
      replace hpu := hpu.trans hpN
      replace hz := hpN.heap (fun h => h) hz
      clear hpN
      (refine wpAnyH_ready (rs := [9]) (by kernel_rfl) (by simp) ?_; refine AllReadyH.cons rfl (fun K hK => ?_) AllReadyH.nil; go_simp; refine Calls.mono (HC3.out _ hpu) ?_; rintro e w3 ⟨rfl, hpN⟩; refine hK.out _ _ ?_ (fun hHeld => ?_); (· exact hHeld.mod hpN (fun h => h)); clear hK K)
      replace hpu := hpu.trans hpN
      replace hz := hpN.heap (fun h => h) hz
      clear hpN
      (refine wpAnyH_take (i := 10) (v := ?_) rfl (by kernel_rfl) (by kernel_rfl) (by kernel_rfl) (fun _ _ _ h => h) (Yields.yieldsIf (Or.inl ⟨by rfl, ?_⟩)) hHeld ?_; rotate_left 1; focus (intro w; go_simp; try with_reducible rfl))
      (refine wpAnyH_take (i := 11) (v := ?_) rfl (by kernel_rfl) (by kernel_rfl) (by kernel_rfl) (fun _ _ _ h => h) (Yields.yieldsIf (Or.inl ⟨by rfl, ?_⟩)) hHeld ?_; rotate_left 1; focus (intro w; go_simp; try with_reducible rfl))
      (refine wpAnyH_take (i := 12) (v := ?_) rfl (by kernel_rfl) (by kernel_rfl) (by kernel_rfl) (fun _ _ _ h => h) (Yields.yieldsIf (Or.inl ⟨by rfl, ?_⟩)) hHeld ?_; rotate_left 1; focus (intro w; go_simp; try with_reducible rfl))
      have hz_0 := cell_of_row _ _ 0 _ _ _ hz; have hz_1 := cell_of_row _ _ 1 _ _ _ hz; have hz_f := (fun j => frozen_of_row _ _ j _ _ hz); have hz_l := lt_of_block hz; simp at hz_0 hz_1; have H_hz := Lib.hid hz; clear hz
      (refine wpAnyH_ready (rs := [14]) (by kernel_rfl) (by simp) ?_; refine AllReadyH.cons rfl (fun K hK => ?_) AllReadyH.nil; go_simp; skip; refine hK.out _ _ ?_ (fun hHeld => ?_); (· exact hHeld.mod (Mod.set2 _ 0 1 _ _) (fun e => hnb e)); clear hK K)
      (refine wpAnyH_take (i := 15) (v := ?_) rfl (by kernel_rfl) (by kernel_rfl) (by kernel_rfl) (fun _ _ _ h => h) (Yields.yieldsIf (Or.inl ⟨by rfl, ?_⟩)) hHeld ?_; rotate_left 1; focus (intro w; go_simp; try with_reducible rfl))
      refine wpAnyH_done (by kernel_rfl) ?_ _
      try go_wp2
      go_meet
      exact ⟨rfl, _, rfl, heap_set12 H_hz.out, hpu.then (Mod.set2 _ 0 1 _ _) (fun i hi e => by omega)⟩
  case rest =>
    obtain ⟨rfl, b5, rfl, hb5, hpc⟩ := hcut
    clear HC0 HC1 HC2 HC3
    replace HD := Lib.hid (HD.out.pure hpc)
    have hbw : w.heap.size ≤ b := by have := HB.out; omega
    clear hd2_0 hd2_1 hd2_2 hd2_3 hd2_4 hd2_5 hd2_f hd2_l
    clear H_hd2 HI hpc
    have hd2 := HD.out.h2
    dsimp only [rdO] at hd2
    have HDD := Lib.hid (HDo.out _ HD.out.rf)
    obtain ⟨m2, hm2⟩ : ∃ m2, 8 * (doG H (g, rh) Gs).length = m2 := ⟨_, rfl⟩
    unfold rddoPost at HDD
    rw [HN.out, hm2] at HDD
    have HM2 := Lib.hid hm2
    clear hm2 HDo
    have hd2_0 := cell_of_row _ _ 0 _ _ _ hd2; have hd2_1 := cell_of_row _ _ 1 _ _ _ hd2; have hd2_2 := cell_of_row _ _ 2 _ _ _ hd2; have hd2_3 := cell_of_row _ _ 3 _ _ _ hd2; have hd2_4 := cell_of_row _ _ 4 _ _ _ hd2; have hd2_5 := cell_of_row _ _ 5 _ _ _ hd2; have hd2_f := (fun j => frozen_of_row _ _ j _ _ hd2); have hd2_l := lt_of_block hd2; simp at hd2_0 hd2_1 hd2_2 hd2_3 hd2_4 hd2_5; have H_hd2 := Lib.hid hd2; clear hd2
    have hb5_0 := cell_of_row _ _ 0 _ _ _ hb5; have hb5_1 := cell_of_row _ _ 1 _ _ _ hb5; have hb5_f := (fun j => frozen_of_row _ _ j _ _ hb5); have hb5_l := lt_of_block hb5; simp at hb5_0 hb5_1; have H_hb5 := Lib.hid hb5; clear hb5
    go_upto_region 3 with (go_at_call 68; refine Calls.mono HDD.out ?_; rintro e w7 ⟨aC2, cC2, aS2, cS2, rfl, hri, hp7⟩; have y2 := hp7.heap (fun h => h) H_hd2.out; have HRI := Lib.hid hri; have HP7 := Lib.hid hp7; clear hri hp7; have y2_0 := cell_of_row _ _ 0 _ _ _ y2; have y2_1 := cell_of_row _ _ 1 _ _ _ y2; have y2_2 := cell_of_row _ _ 2 _ _ _ y2; have y2_3 := cell_of_row _ _ 3 _ _ _ y2; have y2_4 := cell_of_row _ _ 4 _ _ _ y2; have y2_5 := cell_of_row _ _ 5 _ _ _ y2; have y2_f := (fun j => frozen_of_row _ _ j _ _ y2); have y2_l := lt_of_block y2; simp at y2_0 y2_1 y2_2 y2_3 y2_4 y2_5; have H_y2 := Lib.hid y2; clear y2)
    obtain ⟨X, hX⟩ : ∃ X, (((((w7.setCell ⟨b, 0, none⟩ (.int .u64 seed)).setCell ⟨b, 1, none⟩ (.bool same)).setCell ⟨b, 2, none⟩ (.slice aL n cL)).setCell ⟨b, 3, none⟩ (.slice aG n cG)).setCell ⟨b, 4, none⟩ (.slice aC2 m2 cC2)).setCell ⟨b, 5, none⟩ (.slice aS2 m2 cS2) = X := ⟨_, rfl⟩
    obtain ⟨g1, g2⟩ := fin6 H_y2.out hX
    rw [hX]
    have HH := HD.out.pure HP7.out
    have hne : ∀ i, i = b → i < w7.heap.size → ∃ cs T fz, w7.heap[i]? = some (.cells cs T fz) ∧ T ≠ 42 ∧ T ≠ 4 ∧ T ≠ 5 ∧ T ≠ 43 := fun i e _ => ⟨_, _, _, e ▸ H_y2.out, by decide, by decide, by decide, by decide⟩
    have HX : Hid (RDo w b (b + 1) seed same ⟨aL, cL, aG, cG, aC2, cC2, aS2, cS2⟩ n m2 Q (doG H (g, rh) Gs) X) := Lib.hid ⟨HH.pu.then g1 (fun i hi e => by omega), g2, g1.heap (by omega) HH.h4, HH.rf.l.modX g1 hne, HRI.out.modT g1 (fun i e hi => by obtain ⟨cs, T, fz, e2, _, _, h1, h2⟩ := hne i e hi; exact ⟨cs, T, fz, e2, h1, h2⟩)⟩
    clear hd2_0 hd2_1 hd2_2 hd2_3 hd2_4 hd2_5 hd2_f hd2_l
    clear y2_0 y2_1 y2_2 y2_3 y2_4 y2_5 y2_f y2_l
    clear hb5_0 hb5_1 hb5_f hb5_l
    clear H_hd2 H_y2 H_hb5 hX g1 HH hne HRI HP7 HD HDD
    have hal : X.heap[b]? = some (.cells #[.int .u64 seed, .bool same, .slice aL n cL, .slice aG n cG, .slice aC2 m2 cC2, .slice aS2 m2 cS2] 38 (0, 0)) := g2
    clear g2
    have HSu := Lib.hid (fun W (hW : Pure X W) => HSm.out W _ _ m2 (HX.out.rf.pure hW))
    obtain ⟨hh, hhe⟩ : ∃ hh, H s = hh := ⟨_, rfl⟩
    rw [hhe] at HSu
    have HHE := Lib.hid hhe
    have hhl : hh < 18446744073709551616 := by rw [← hhe]; exact HHl.out
    obtain ⟨m3, hm3⟩ : ∃ m3, 8 * (insD H (doG H (g, rh) Gs) s).length = m3 := ⟨_, rfl⟩
    have HIn : Hid (∀ W, Pure X W → Calls Tryz.prog 110 #[.agg #[.slice aC2 m2 cC2, .slice aS2 m2 cS2], .int .u64 hh, .int .u32 s] W fun e w' => ∃ a9 c9 a9' c9' z, e = .returned (.tuple #[.agg #[.slice a9 m3 c9, .slice a9' m3 c9'], .int .i64 z]) ∧ RefI w' a9 c9 a9' c9' (insD H (doG H (g, rh) Gs) s) ∧ Pure W w') := Lib.hid (fun W hW => by
      have := rInsert_ok (HX.out.rf.x.pure hW) hh s hhl hs32
      unfold refI at this
      rw [HM2.out] at this
      refine this.mono (fun e w' hq => ?_)
      obtain ⟨a1, a2, a3, a4, z, e1, e2, e3⟩ := ins_anyR hhe hq
      unfold refI at e1
      rw [hm3] at e1
      exact ⟨a1, a2, a3, a4, z, e1, e2, e3⟩)
    have HM3 := Lib.hid hm3
    obtain ⟨G3, hG3⟩ : ∃ G3, insD H (doG H (g, rh) Gs) s = G3 := ⟨_, rfl⟩
    rw [hG3] at HIn HM3
    have HG3 := Lib.hid hG3
    clear hm3 hG3
    clear hhe HSm HHl hhl
    have HAL := Lib.hid hal
    have hal_0 := cell_of_row _ _ 0 _ _ _ hal; have hal_1 := cell_of_row _ _ 1 _ _ _ hal; have hal_2 := cell_of_row _ _ 2 _ _ _ hal; have hal_3 := cell_of_row _ _ 3 _ _ _ hal; have hal_4 := cell_of_row _ _ 4 _ _ _ hal; have hal_5 := cell_of_row _ _ 5 _ _ _ hal; have hal_f := (fun j => frozen_of_row _ _ j _ _ hal); have hal_l := lt_of_block hal; simp at hal_0 hal_1 hal_2 hal_3 hal_4 hal_5; have H_hal := Lib.hid hal; clear hal
    go_cut [] (fun wx => ∃ a9 c9 a9' c9', RDo w b (b + 1) seed same ⟨aL, cL, aG, cG, a9, c9, a9', c9'⟩ n m3 Q G3 wx)
    case first =>
      go_region_with (first
        | (go_at_call 66; refine Calls.mono (HSu.out _ (by first | exact Mod.refl _ _ | exact (Mod.refl _ _).drew)) ?_; rintro e wS ⟨rfl, hpS⟩; have k2 := hpS.cell (fun h => h) hal_0; have k3 := hpS.cell (fun h => h) hal_1; have k4 := hpS.cell (fun h => h) hal_2; have k5 := hpS.cell (fun h => h) hal_3; have k6 := hpS.cell (fun h => h) hal_4; have k7 := hpS.cell (fun h => h) hal_5)
        | (go_at_call 110; refine Calls.mono (HIn.out _ (by first | exact Mod.of_drew hpS | exact hpS)) ?_; rintro e w9 ⟨a9, c9, a9', c9', z, rfl, hr9, hp9⟩; have hp79 := Lib.hid (Mod.trans (Mod.of_drew hpS) hp9 : Pure X w9); have h9b := hp79.out.heap (fun h => h) HAL.out; have h9b_0 := cell_of_row _ _ 0 _ _ _ h9b; have h9b_1 := cell_of_row _ _ 1 _ _ _ h9b; have h9b_2 := cell_of_row _ _ 2 _ _ _ h9b; have h9b_3 := cell_of_row _ _ 3 _ _ _ h9b; have h9b_4 := cell_of_row _ _ 4 _ _ _ h9b; have h9b_5 := cell_of_row _ _ 5 _ _ _ h9b; have h9b_f := (fun j => frozen_of_row _ _ j _ _ h9b); have h9b_l := lt_of_block h9b; simp at h9b_0 h9b_1 h9b_2 h9b_3 h9b_4 h9b_5; have H_h9b := Lib.hid h9b; clear h9b))
      all_goals
        try go_wp2
        go_meet
        have hm9 := Mod.set2 (w := w9) b 4 5 (.slice a9 m3 c9) (.slice a9' m3 c9')
        have hne9 : ∀ i, i = b → i < w9.heap.size → ∃ cs T fz, w9.heap[i]? = some (.cells cs T fz) ∧ T ≠ 42 ∧ T ≠ 4 ∧ T ≠ 5 ∧ T ≠ 43 := fun i e _ => ⟨_, _, _, e ▸ H_h9b.out, by decide, by decide, by decide, by decide⟩
        have hH := HX.out.pure hp79.out
        exact ⟨a9, c9, a9', c9', hH.pu.then hm9 (fun i hi e => by omega), set45 H_h9b.out, hm9.heap (by omega) hH.h4, hH.rf.l.modX hm9 hne9, hr9.modT hm9 (fun i e hi => by obtain ⟨cs, T, fz, e2, _, _, h1, h2⟩ := hne9 i e hi; exact ⟨cs, T, fz, e2, h1, h2⟩)⟩
    case rest =>
      obtain ⟨a9, c9, a9', c9', hrd⟩ := hcut
      have HR9 := Lib.hid hrd
      have hd2 := hrd.h2
      have hd4 := hrd.h4
      dsimp only [rdO] at hd2
      clear hrd HX HIn HSu
      clear hal_0 hal_1 hal_2 hal_3 hal_4 hal_5 hal_f hal_l
      clear H_hal HAL
      have hd2_0 := cell_of_row _ _ 0 _ _ _ hd2; have hd2_1 := cell_of_row _ _ 1 _ _ _ hd2; have hd2_2 := cell_of_row _ _ 2 _ _ _ hd2; have hd2_3 := cell_of_row _ _ 3 _ _ _ hd2; have hd2_4 := cell_of_row _ _ 4 _ _ _ hd2; have hd2_5 := cell_of_row _ _ 5 _ _ _ hd2; have hd2_f := (fun j => frozen_of_row _ _ j _ _ hd2); have hd2_l := lt_of_block hd2; simp at hd2_0 hd2_1 hd2_2 hd2_3 hd2_4 hd2_5; have H_hd2 := Lib.hid hd2; clear hd2
      have hd4_0 := cell_of_row _ _ 0 _ _ _ hd4; have hd4_1 := cell_of_row _ _ 1 _ _ _ hd4; have hd4_2 := cell_of_row _ _ 2 _ _ _ hd4; have hd4_3 := cell_of_row _ _ 3 _ _ _ hd4; have hd4_4 := cell_of_row _ _ 4 _ _ _ hd4; have hd4_5 := cell_of_row _ _ 5 _ _ _ hd4; have hd4_f := (fun j => frozen_of_row _ _ j _ _ hd4); have hd4_l := lt_of_block hd4; simp at hd4_0 hd4_1 hd4_2 hd4_3 hd4_4 hd4_5; have H_hd4 := Lib.hid hd4; clear hd4
      go_wp2
      obtain ⟨Y, hY⟩ : ∃ Y, (((((wc.setCell ⟨b + 1, 0, none⟩ (.int .u64 seed)).setCell ⟨b + 1, 1, none⟩ (.bool same)).setCell ⟨b + 1, 2, none⟩ (.slice aL n cL)).setCell ⟨b + 1, 3, none⟩ (.slice aG n cG)).setCell ⟨b + 1, 4, none⟩ (.slice a9 m3 c9)).setCell ⟨b + 1, 5, none⟩ (.slice a9' m3 c9') = Y := ⟨_, rfl⟩
      obtain ⟨g1, g2⟩ := fin6 H_hd4.out hY
      rw [hY]
      have x0 := cell_of_row _ _ 0 _ _ _ g2; have x1 := cell_of_row _ _ 1 _ _ _ g2; have x2 := cell_of_row _ _ 2 _ _ _ g2; have x3 := cell_of_row _ _ 3 _ _ _ g2; have x4 := cell_of_row _ _ 4 _ _ _ g2; have x5 := cell_of_row _ _ 5 _ _ _ g2
      simp at x0 x1 x2 x3 x4 x5
      obtain ⟨e1, e2⟩ := HR9.out.ret (by omega) g1
      refine bodyPost_ret (v := rdV seed same ⟨aL, cL, aG, cG, a9, c9, a9', c9'⟩ n m3) (by simp [results, Tryz.results55, go_sem, x0, x1, x2, x3, x4, x5]) rfl ⟨a9, c9, a9', c9', ?_, ?_, e1⟩
      · rw [HPUT.out, HG3.out, HM3.out, HN.out]
      · rw [HPUT.out, HG3.out]; exact e2.x
end Go.Proofs.YtapplindfijngaaGreat
